/- Part 5 of 7 of the proof: laws on memory and data, then what the functions compute, in the order in which they build on each other; conditions: those that each theorem names. -/
import Derived.Test.YtollooimmfngjaaGreatP4
set_option maxRecDepth 100000
set_option maxHeartbeats 1600000

namespace Go.Proofs.YtollooimmfngjaaGreat
set_option linter.unusedVariables false
set_option linter.unusedSimpArgs false
open Go.RowKit
inductive HasD (S:Nat→Prop):D→Prop
  |tree (x:D):HasD S (.tree S x)
  |row {sz:Nat} {rows:List (List D)} {i j:Nat} {r:List D} {d:D} (hr:rows[i]?=some r) (hj:r[j]?=some d) (h:HasD S d):HasD S (.list sz rows)
inductive HasC (S:Nat→Prop):C→Prop
  |d {x:D} (h:HasD S x):HasC S (.d x)
inductive HasV (S:Nat→Prop):V→Prop
  |c {x:C} (h:HasC S x):HasV S (.o (.c x))
  |agg {cs:List C} {i:Nat} {c:C} (hi:cs[i]?=some c) (h:HasC S c):HasV S (.o (.agg cs))
  |tup {xs:List V1} {i j:Nat} {cs:List C} {c:C} (hi:xs[i]?=some (.agg cs)) (hj:cs[j]?=some c) (h:HasC S c):HasV S (.tup xs)
  |gh:HasV S (.gh S)
inductive Has (σ:St) (S:Nat→Prop):Prop
  |slot (t:Nat) {x:V} (h:lk σ (.t t)= .v x) (hv:HasV S x)
  |box (k:Nat) {e:TypeId} {sz:Nat} {rows:List (List C)} {i j:Nat} {r:List C} {c:C} (h:lk σ (.b k)= .b e sz rows) (hr:rows[i]?=some r) (hj:r[j]?=some c) (hc:HasC S c)
theorem HasD.lt {S B:Nat→Prop} {w:World} {x:D} (h:HasD S x):∀ {v:Value},Dr B w x v→∀b,S b→B b∧b<w.heap.size:=by
  induction h with
  |tree x=>intro v hv b hb;cases hv with |tree _ _ _ hB hl _=>exact⟨hB b hb,hl b hb⟩
  |row hr hj _ ih=>intro v hv b hb;cases hv with |list _ _ _ _ _ _ _ _ _ _ _ _ _ _ _ h7=>exact ih (h7 _ _ _ _ hr hj) b hb
section
variable {E : Env} {bx : Nat → Nat × Nat} {a : Act} {w : World} {σ : St} {S : Nat → Prop}
theorem HasC.lt {al B:Nat→Prop} {c:C} {v:Value} (h:HasC S c) (hv:Cr bx al B w c v):∀b,S b→B b∧b<w.heap.size:=by
  cases h with
  |d h=>exact h.lt hv
theorem HasV.lt {al B:Nat→Prop} {x:V} {v:Value} (h:HasV S x) (hv:Vr bx al B w x v):∀b,S b→B b∧b<w.heap.size:=by
  cases h with
  |c h=>exact h.lt hv
  |agg hi h=>
    obtain⟨vs,_,hl,hv⟩:=hv
    have hj:=(List.getElem?_eq_some_iff.1 hi).1
    exact h.lt (hv _ _ _ hi (List.getElem?_eq_getElem (by omega)))
  |tup hi hj h=>
    obtain⟨vs,_,hl,hv⟩:=hv
    have h1:=(List.getElem?_eq_some_iff.1 hi).1
    obtain⟨us,_,hl2,hu⟩:=hv _ _ _ hi (List.getElem?_eq_getElem (by omega))
    have h2:=(List.getElem?_eq_some_iff.1 hj).1
    exact h.lt (hu _ _ _ hj (List.getElem?_eq_getElem (by omega)))
  |gh=>exact hv
theorem SR.has (hs:SR E bx (lk σ) a w) (h:Has σ S):∀b,S b→Bf E bx (lk σ) b∧b<w.heap.size:=by
  cases h with
  |slot t h hv=>exact hv.lt (hs.slot t _ h)
  |box k h hr hj hc=>
    obtain⟨cur,_,_,_,_,h5⟩:=hs.box k _ _ _ h
    obtain⟨u,_,h7⟩:=h5 _ _ _ _ hr hj
    exact hc.lt h7
end
theorem DrU.subS {S S':Nat→Prop} {w:World} {x:D} {v:Value} (hs:∀b,S b→S' b) (h:DrU w S x v):DrU w S' x v:=by
  cases h with
  |val S v h=>exact .val S' v h
  |list S sz rows a n cap b off f T hn h1 h2 h3 h4 h5 h6 hT hD h7=>
    exact .list S' sz rows a n cap b off f T hn h1 h2 h3 h4 h5 (fun i r j x hr hx=>⟨hs _ (h6 i r j x hr hx).1,(h6 i r j x hr hx).2⟩) (fun i j c hc=>⟨hs _ (hT i j c hc).1,(hT i j c hc).2⟩) hD h7
/-! ### Data with their sets -/
def tg (S:Nat→Prop):D→D
  | .list sz rows=>.tree S (.list sz rows)
  |x=>x
def tagL (R:Nat→Nat→Prop):Nat→List D→List D
  |_,[]=>[]
  |j,x::l=>tg (R j) x::tagL R (j+1) l
def tagRs (F:Nat→Nat→Nat→Prop):Nat→List (List D)→List (List D)
  |_,[]=>[]
  |i,r::l=>tagL (F i) 0 r::tagRs F (i+1) l
theorem tagL_len (R:Nat→Nat→Prop):∀(l:List D) (j:Nat),(tagL R j l).length=l.length
  |[],_=>rfl
  |x::l,j=>by rw[tagL,List.length_cons,tagL_len R l,List.length_cons]
theorem tagL_at {R:Nat→Nat→Prop}:∀ {l:List D} {j i:Nat} {x:D},l[i]?=some x→(tagL R j l)[i]?=some (tg (R (j+i)) x)
  |[],_,_,_,h=>by simp at h
  |y::l,j,0,x,h=>by simp at h;subst h;rfl
  |y::l,j,i+1,x,h=>by
    rw[tagL,List.getElem?_cons_succ,tagL_at (by simpa using h)]
    congr 3;omega
theorem tagRs_len (F:Nat→Nat→Nat→Prop):∀(l:List (List D)) (i:Nat),(tagRs F i l).length=l.length
  |[],_=>rfl
  |r::l,i=>by rw[tagRs,List.length_cons,tagRs_len F l,List.length_cons]
theorem tagRs_at {F:Nat→Nat→Nat→Prop}:∀ {l:List (List D)} {i q:Nat} {r:List D},l[q]?=some r→(tagRs F i l)[q]?=some (tagL (F (i+q)) 0 r)
  |[],_,_,_,h=>by simp at h
  |y::l,i,0,r,h=>by simp at h;subst h;rfl
  |y::l,i,q+1,r,h=>by
    rw[tagRs,List.getElem?_cons_succ,tagRs_at (by simpa using h)]
    congr 3;omega
theorem tagRs_app (F:Nat→Nat→Nat→Prop):∀(l m:List (List D)) (i:Nat),tagRs F i (l++m)=tagRs F i l++tagRs F (i+l.length) m
  |[],m,i=>rfl
  |r::l,m,i=>by
    rw[List.cons_append,tagRs,tagRs,tagRs_app F l m,List.cons_append,List.length_cons]
    congr 2;congr 1;omega
theorem tagRs_same {F G:Nat→Nat→Nat→Prop}:∀ {l:List (List D)} {i:Nat},(∀q,i≤q→q<i+l.length→F q=G q)→tagRs F i l=tagRs G i l
  |[],_,_=>rfl
  |r::l,i,h=>by
    rw[tagRs,tagRs,h i (Nat.le_refl _) (by simp),tagRs_same fun q h1 h2=>h q (by omega) (by rw[List.length_cons];omega)]
def nextF (F:Nat→Nat→Nat→Prop) (i:Nat) (R:Nat→Nat→Prop):Nat→Nat→Nat→Prop:=fun q=>if q=i then R else F q
theorem tagRs_snoc {F:Nat→Nat→Nat→Prop} {R:Nat→Nat→Prop} {l:List (List D)} {r:List D}:tagRs (nextF F l.length R) 0 (l++[r])=tagRs F 0 l++[tagL R 0 r]:=by
  rw[tagRs_app,tagRs_same (G:=F) fun q _ h2=>by rw[nextF,if_neg (by omega)]]
  rw[tagRs,tagRs,nextF,if_pos (by omega)]
structure FD (O:Nat→Prop) (L:Nat→Prop) (i:Nat) (F:Nat→Nat→Nat→Prop):Prop where
  dis:∀a c a' c' b,a<i→a'<i→L c→L c'→F a c b→F a' c' b→a=a'∧c=c'
  out:∀a c b,a<i→L c→F a c b→¬O b
theorem FD.zero (O L:Nat→Prop) (F:Nat→Nat→Nat→Prop):FD O L 0 F:=⟨fun _ _ _ _ _ h=>by omega,fun _ _ _ h=>by omega⟩
theorem FD.next {O L:Nat→Prop} {i:Nat} {F:Nat→Nat→Nat→Prop} {R:Nat→Nat→Prop} (h:FD O L i F) (h1:∀c b,R c b→¬O b) (h2:∀c c' b,R c b→R c' b→c=c') (h3:∀a c c' b,a<i→L c→F a c b→¬R c' b):FD O L (i+1) (nextF F i R):=by
  refine⟨fun a c a' c' b ha ha' hc hc' q1 q2=>?_,fun a c b ha hc q1=>?_⟩
  · unfold nextF at q1 q2
    by_cases e1:a=i<;>by_cases e2:a'=i
    ·rw[if_pos e1]at q1;rw[if_pos e2]at q2;exact⟨by omega,h2 _ _ _ q1 q2⟩
    ·rw[if_pos e1]at q1;rw[if_neg e2]at q2;exact absurd q1 (h3 a' c' c b (by omega) hc' q2)
    ·rw[if_neg e1]at q1;rw[if_pos e2]at q2;exact absurd q2 (h3 a c c' b (by omega) hc q1)
    ·rw[if_neg e1]at q1;rw[if_neg e2]at q2;exact h.dis a c a' c' b (by omega) (by omega) hc hc' q1 q2
  · unfold nextF at q1
    by_cases e1:a=i
    ·rw[if_pos e1]at q1;exact h1 _ _ q1
    ·rw[if_neg e1]at q1;exact h.out a c b (by omega) hc q1
theorem Has.rows {σ:St} {k:Nat} {e:TypeId} {sz:Nat} {F:Nat→Nat→Nat→Prop} {rows:List (List D)} (h:lk σ (.b k)= .b e sz (dR (tagRs F 0 rows))) {i j:Nat} {r:List D} {m:Nat} {rs:List (List D)} (hr:rows[i]?=some r) (hj:r[j]?=some (.list m rs)):Has σ (F i j):=by
  refine .box k h (i:=i) (j:=j) (r:=(tagL (F i) 0 r).map C.d) (c:=.d (.tree (F i j) (.list m rs))) ?_ ?_ (.d (.tree _))
  ·rw[dR,List.getElem?_map,tagRs_at hr,Nat.zero_add];rfl
  ·rw[List.getElem?_map,tagL_at hj,Nat.zero_add];rfl
def nthS (l:List (Nat→Prop)) (j:Nat):Nat→Prop:=(l[j]?).getD fun _=>False
theorem nthS_out {l:List (Nat→Prop)} {j b:Nat} (h:nthS l j b):∃S,l[j]?=some S∧S b:=by
  unfold nthS at h
  cases hS:l[j]? with
  |none=>rw[hS]at h;exact h.elim
  |some S=>rw[hS]at h;exact⟨S,rfl,h⟩
theorem nthS_dis {l:List (Nat→Prop)} (h:l.Pairwise fun S T=>∀b,S b→¬T b) (i j b:Nat) (hi:nthS l i b) (hj:nthS l j b):i=j:=by
  obtain⟨S,hS,hi⟩:=nthS_out hi
  obtain⟨T,hT,hj⟩:=nthS_out hj
  have h1:=List.pairwise_iff_getElem.1 h
  obtain⟨l1,rfl⟩:=List.getElem?_eq_some_iff.1 hS
  obtain⟨l2,rfl⟩:=List.getElem?_eq_some_iff.1 hT
  rcases Nat.lt_trichotomy i j with h2|h2|h2
  ·exact absurd hj (h1 i j l1 l2 h2 b hi)
  ·exact h2
  ·exact absurd hi (h1 j i l2 l1 h2 b hj)
theorem nthS_all {l:List (Nat→Prop)} {Q:Nat→Prop} (h:∀S∈l,∀b,S b→Q b) (j b:Nat) (hj:nthS l j b):Q b:=by
  obtain⟨S,hS,hj⟩:=nthS_out hj
  exact h S (List.mem_of_getElem? hS) b hj
/-! ### What a maker does -/
inductive TRes where
  |one (d:D)
  |str (ds:List D)
  |strB (ds:List D) (b:Bool)
def vT (R:Nat→Nat→Prop):TRes→V
  | .one d=>.o (vD (tg (R 0) d))
  | .str ds=>.o (ad (tagL R 0 ds))
  | .strB ds b=>.tup [ad (tagL R 0 ds),bo1 b]
def noTree:D→Bool
  | .tree _ _=>false
  | .list _ _=>true
  | .val v=>nsl v
def TRes.ok:TRes→Bool
  | .one d=>noTree d
  | .str ds=>ds.all noTree
  | .strB ds _=>ds.all noTree
theorem Dr.tgTo {B B':Nat→Prop} {w:World} {S:Nat→Prop} {d:D} {v:Value} (hd:noTree d=true) (h:Dr B w (tg S d) v) (hS:∀b,S b→B' b):Dr B' w (tg S d) v:=by
  cases d with
  |val u=>cases h with |val _ h=>exact .val _ h
  |list sz rows=>cases h with |tree _ _ _ hB hl h=>exact .tree _ _ _ hS hl h
  |tree S2 x=>cases hd
theorem adT_to {bx bx':Nat→Nat×Nat} {al al' B B':Nat→Prop} {w:World} {R:Nat→Nat→Prop} {ds:List D} {v:Value} (hd:ds.all noTree=true) (h:V1r bx al B w (ad (tagL R 0 ds)) v) (hR:∀j b,R j b→B' b):V1r bx' al' B' w (ad (tagL R 0 ds)) v:=by
  obtain⟨vs,e,hl,h⟩:=h
  refine⟨vs,e,hl,fun i c u hc hu=>?_⟩
  have hc':=h i c u hc hu
  rw[List.getElem?_map]at hc
  cases hx:ds[i]? with
  |none=>
    have h1:(tagL R 0 ds)[i]?=none:=by rw[List.getElem?_eq_none_iff]at hx ⊢;rw[tagL_len];exact hx
    rw[h1]at hc;cases hc
  |some x=>
    rw[tagL_at hx]at hc
    cases hc
    exact Dr.tgTo (List.all_eq_true.1 hd x (List.mem_of_getElem? hx)) hc' (hR _)
theorem vT_to {bx bx':Nat→Nat×Nat} {al al' B B':Nat→Prop} {w:World} {R:Nat→Nat→Prop} {r:TRes} {v:Value} (hd:r.ok=true) (h:Vr bx al B w (vT R r) v) (hR:∀j b,R j b→B' b):Vr bx' al' B' w (vT R r) v:=by
  cases r with
  |one d=>exact Dr.tgTo (B:=B) hd h (hR 0)
  |str ds=>exact adT_to (bx:=bx) (al:=al) (B:=B) hd h hR
  |strB ds b=>
    obtain⟨vs,e,hl,h⟩:=h
    refine⟨vs,e,hl,fun i c u hc hu=>?_⟩
    match i,hc with
    |0,hc=>cases hc;exact adT_to (bx:=bx) (al:=al) (B:=B) hd (h 0 _ u rfl hu) hR
    |1,hc=>
      cases hc
      have h1:Dr B w (.val (.bool b)) u:=h 1 _ u rfl hu
      cases h1
      exact Dr.val _ rfl
theorem vT_refs (R:Nat→Nat→Prop) (r:TRes):(vT R r).refs=[]:=by
  cases r with
  |one d=>rfl
  |str ds=>exact refs_ad _
  |strB ds b=>show (ad (tagL R 0 ds)).refs++([]++[])=[];rw[refs_ad];rfl
def FnT (P:Program) (f:FuncId) (args:List V1) (src:Nat→Prop) (r:TRes):Prop:=
  ∀(w:World) (vs:List Value),Vals (V1r (fun _=>(0,0)) (fun _=>False) (fun _=>True) w) args vs→
    Calls P f vs.toArray w fun e w'=>∃v R,e= .returned v∧Below w.heap.size w w'∧(∀j b,R j b→src b∨w.heap.size≤b)∧(∀i j b,R i b→R j b→i=j)∧Vr (fun _=>(0,0)) (fun _=>False) (fun _=>True) w' (vT R r) v
def TRes.pos:TRes→Nat→Prop
  | .one d,j=>j=0∧∃m rs,d= .list m rs
  | .str ds,j=>∃m rs,ds[j]?=some (.list m rs)
  | .strB ds _,j=>∃m rs,ds[j]?=some (.list m rs)
def cutR (w:World) (r:TRes) (R:Nat→Nat→Prop):Nat→Nat→Prop:=fun j b=>R j b∧b<w.heap.size∧r.pos j
theorem Dr.tgCut {B:Nat→Prop} {w:World} {S S':Nat→Prop} {d:D} {v:Value} (hd:noTree d=true) (h:Dr B w (tg S d) v) (h1:∀b,S' b→S b) (h2:∀b,S b→b<w.heap.size→(∃m rs,d= .list m rs)→S' b):Dr B w (tg S' d) v:=by
  cases d with
  |val u=>exact h
  |list sz rows=>cases h with |tree _ _ _ hB hl h=>exact .tree _ _ _ (fun b hb=>hB b (h1 b hb)) (fun b hb=>hl b (h1 b hb)) (h.subS fun b hb=>h2 b hb (hl b hb) ⟨_,_,rfl⟩)
  |tree S2 x=>cases hd
theorem adT_cut {bx:Nat→Nat×Nat} {al B:Nat→Prop} {w:World} {R R':Nat→Nat→Prop} {ds:List D} {v:Value} (hd:ds.all noTree=true) (h:V1r bx al B w (ad (tagL R 0 ds)) v) (h1:∀j b,R' j b→R j b) (h2:∀j b,R j b→b<w.heap.size→(∃m rs,ds[j]?=some (.list m rs))→R' j b):V1r bx al B w (ad (tagL R' 0 ds)) v:=by
  obtain⟨vs,e,hl,h⟩:=h
  refine⟨vs,e,by rw[hl,List.length_map,tagL_len,List.length_map,tagL_len],fun i c u hc hu=>?_⟩
  rw[List.getElem?_map]at hc
  cases hx:ds[i]? with
  |none=>
    have h1:(tagL R' 0 ds)[i]?=none:=by rw[List.getElem?_eq_none_iff]at hx ⊢;rw[tagL_len];exact hx
    rw[h1]at hc;cases hc
  |some x=>
    rw[tagL_at hx,Nat.zero_add]at hc
    cases hc
    refine Dr.tgCut (List.all_eq_true.1 hd x (List.mem_of_getElem? hx)) (S:=R i) ?_ (h1 i) (fun b hb hl ⟨m,rs,e⟩=>h2 i b hb hl ⟨m,rs,by rw[hx,e]⟩)
    exact h i (.d (tg (R i) x)) u (by rw[List.getElem?_map,tagL_at hx,Nat.zero_add];rfl) hu
theorem vT_cut {bx:Nat→Nat×Nat} {al B:Nat→Prop} {w:World} {R:Nat→Nat→Prop} {r:TRes} {v:Value} (hd:r.ok=true) (h:Vr bx al B w (vT R r) v):Vr bx al B w (vT (cutR w r R) r) v:=by
  cases r with
  |one d=>exact Dr.tgCut hd h (fun b hb=>hb.1) (fun b hb hl he=>⟨hb,hl,rfl,he⟩)
  |str ds=>exact adT_cut hd h (fun j b hb=>hb.1) (fun j b hb hl he=>⟨hb,hl,he⟩)
  |strB ds b=>
    obtain⟨vs,e,hl,h⟩:=h
    refine⟨vs,e,hl,fun i c u hc hu=>?_⟩
    match i,hc with
    |0,hc=>cases hc;exact adT_cut hd (h 0 _ u rfl hu) (fun j b hb=>hb.1) (fun j b hb hl he=>⟨hb,hl,he⟩)
    |1,hc=>cases hc;exact h 1 _ u rfl hu
theorem FnT.full {P:Program} {f:FuncId} {args:List V1} {src:Nat→Prop} {r:TRes} (h:FnT P f args src r) (hok:r.ok=true) (w:World) (vs:List Value) (hv:Vals (V1r (fun _=>(0,0)) (fun _=>False) (fun _=>True) w) args vs):
    Calls P f vs.toArray w fun e w'=>∃v R,e= .returned v∧Below w.heap.size w w'∧(∀j b,R j b→src b∨w.heap.size≤b)∧(∀i j b,R i b→R j b→i=j)∧(∀j b,R j b→b<w'.heap.size∧r.pos j)∧Vr (fun _=>(0,0)) (fun _=>False) (fun _=>True) w' (vT R r) v:=by
  refine(h w vs hv).mono ?_
  rintro e w' ⟨v,R,rfl,hb,h1,h2,h3⟩
  exact⟨v,cutR w' r R,rfl,hb,fun j b hj=>h1 j b hj.1,fun i j b hi hj=>h2 i j b hi.1 hj.1,fun j b hj=>hj.2,vT_cut hok h3⟩
def noRefs (xs:List V1):Bool:=xs.all fun x=>x.refs.isEmpty
theorem noRefs_at {xs:List V1} (h:noRefs xs=true) {x:V1} (hx:x∈xs):x.refs=[]:=by
  have:=List.all_eq_true.1 h x hx
  simpa using this
section
variable {P : Program} {n : Nat} {ops : Array Oper} {l : List Oper} {o : Oper} {K : St → Prop} {σ : St}
theorem AOps.callT {d:Nat} {fo:Operand} {ar:Array Operand} {ts:Array TypeId} (xs:List Operand) {vs:List V1} {f:FuncId} {cap:List (List D)} {src:Nat→Prop} {r:TRes}
    (ho:o.op= .call {callee:=.value fo,args:=ar,argTypes:=ts}) (hg:o.guard=none) (hd:o.dst=some d) (hn:Nat.blt d n=true) (has:ar=xs.toArray) (hfo:ev σ fo=some (.o (.c (.fn f cap)))) (hcall:callable P f=true) (hx:evL σ xs=some vs)
    (hF:FnT P f (vs++cap.map fun c=>.c (.ptr c)) src r) (href:noRefs vs=true) (hok:r.ok=true) (hsrc:∀b,src b→∃S,Has σ S∧S b)
    (k:∀R:Nat→Nat→Prop,(∀j b,R j b→src b∨∀S,Has σ S→¬S b)→(∀i j b,R i b→R j b→i=j)→(∀j b,R j b→r.pos j)→AOps P n ops l K ((.t d,.v (vT R r))::σ)):AOps P n ops (o::l) K σ:=by
  intro E bx a w hE hs Q hQ
  refine wpList_step fun KK hKK=>(OW.plain hg fun Q'=>?_:OW P ops o a w KK) Q
  obtain⟨cvs,hfe,hcl,hcv⟩:=fnx_ok (bx:=bx) (al:=Al (lk σ)) (show fnx (.fn f cap)=some (f,cap.map fun c=>.c (.ptr c))from rfl) (ev_ok hfo (fun _ _=>rfl) hs).1
  obtain⟨⟨q1,q2⟩,_⟩:=evL_ok hx (fun _ _=>rfl) hs
  subst has
  have hvals:Vals (V1r (fun _=>(0,0)) (fun _=>False) (fun _=>True) w) (vs++cap.map fun c=>.c (.ptr c)) (xs.map a.eval++cvs):=by
    refine⟨by rw[List.length_append,q1,hcl,List.length_append],fun i x v hx hv=>?_⟩
    rw[List.getElem?_append]at hx hv
    by_cases hi:i<vs.length
    · rw[if_pos hi]at hx
      rw[if_pos (by rw[q1];exact hi)]at hv
      exact(q2 i x v hx hv).to (Same.refl _ _) (fun _ _ _=>trivial) (fun k hk=>by rw[noRefs_at href (List.mem_of_getElem? hx)]at hk;cases hk)
    · rw[if_neg hi]at hx
      rw[if_neg (by rw[q1];exact hi),q1]at hv
      refine(hcv _ _ v hx hv).to (Same.refl _ _) (fun _ _ _=>trivial) (fun k hk=>?_)
      obtain⟨c,_,rfl⟩:=List.mem_map.1 (List.mem_of_getElem? hx)
      cases hk
  unfold Oper.wp
  rw[run_callV hcall ho hfe w,Oper.upon_enter,hd,show xs.toArray.map a.eval++cvs.toArray=(xs.map a.eval++cvs).toArray by simp]
  refine(hF.full hok w _ hvals).mono ?_
  rintro e w' ⟨v,R,rfl,hb,h1,h2,hps,h3⟩
  have hs':=hs.world hb
  have hfr:∀j b,R j b→src b∨∀S,Has σ S→¬S b:=fun j b hj=>(h1 j b hj).imp id fun h S hS hb=>by have:=(hs.has hS b hb).2;omega
  have hbf:∀j b,R j b→Bf E bx (lk σ) b:=fun j b hj=>by
    rcases h1 j b hj with h|h
    · obtain⟨S,hS,hb⟩:=hsrc b h
      exact(hs.has hS b hb).1
    ·exact⟨.inr (Nat.le_trans hs.hsize h),fun k hk e=>by have:=hs.lt hk;omega⟩
  have hp:=hs'.put (d:=d) (by rw[hE];simpa using hn) (vT_to hok h3 hbf) (fun k hk=>by rw[vT_refs]at hk;cases hk)
  rw[←lk_cons]at hp
  exact hKK _ _ (k R hfr h2 (fun j b hj=>(hps j b hj).2) E bx _ w' hE hp Q hQ)
theorem AOps.cT {d:Nat} {fo:Operand} {ar:Array Operand} {ts:Array TypeId} (xs:List Operand) {vs:List V1} {f:FuncId} {cap:List (List D)} {src:Nat→Prop} {r:TRes}
    (h4:(o.op,o.guard,o.dst,Nat.blt d n)=(Op.call {callee:=.value fo,args:=ar,argTypes:=ts},none,some d,true)) (has:ar=xs.toArray) (hfo:ev σ fo=some (.o (.c (.fn f cap)))) (hx:evL σ xs=some vs)
    (hF:FnT P f (vs++cap.map fun c=>.c (.ptr c)) src r) (href:noRefs vs=true) (hok:r.ok=true) (hsrc:∀b,src b→∃S,Has σ S∧S b)
    (k:∀R:Nat→Nat→Prop,(∀j b,R j b→src b∨∀S,Has σ S→¬S b)→(∀i j b,R i b→R j b→i=j)→(∀j b,R j b→r.pos j)→AOps P n ops l K ((.t d,.v (vT R r))::σ)) (hcall:callable P f=true:=by kernel_rfl):AOps P n ops (o::l) K σ:=by
  simp only[Prod.mk.injEq]at h4
  exact AOps.callT xs h4.1 h4.2.1 h4.2.2.1 h4.2.2.2 has hfo hcall hx hF href hok hsrc k
def none':Nat→Prop:=fun _=>False
theorem nosrc {σ:St}:∀b,none' b→∃S,Has σ S∧S b:=fun _ h=>h.elim
theorem new_of {R:Nat→Nat→Prop} {σ:St} (h:∀j b,R j b→none' b∨∀S,Has σ S→¬S b) {S:Nat→Prop} (hS:Has σ S):∀j b,R j b→¬S b:=fun j b hj=>(h j b hj).elim (fun h=>h.elim) fun h=>h S hS
theorem gh_has {σ:St} {O:Nat→Prop} (h:lk σ (.t 9999)= .v (.gh O)):Has σ O:=.slot 9999 h .gh
end
/-! ### From code -/
def KfinT (P:Program) (res:Array ResultVar) (src O:Nat→Prop) (r:TRes):Exit→St→Prop
  | .normal,σ| .ret,σ=>∃σ2 xs R,Wk σ σ2∧resL σ2 P res.toList=some xs∧tupV xs=vT R r∧(∀i j b,R i b→R j b→i=j)∧∀j b,R j b→src b∨¬O b
  |_,_=>False
theorem kt_ret {P:Program} {res:Array ResultVar} {src O:Nat→Prop} {r:TRes} {σ:St} {xs:List V1} (R:Nat→Nat→Prop) (hr:resL σ P res.toList=some xs) (hy:tupV xs=vT R r) (h1:∀i j b,R i b→R j b→i=j) (h2:∀j b,R j b→src b∨¬O b):KfinT P res src O r .ret σ:=⟨σ,xs,R,Wk.refl σ,hr,hy,h1,h2⟩
theorem kt_wret {P:Program} {res:Array ResultVar} {src O:Nat→Prop} {r:TRes} {σ:St} {xs:List V1} (R:Nat→Nat→Prop) (σ2:St) (hw:Wk σ σ2) (hr:resL σ2 P res.toList=some xs) (hy:tupV xs=vT R r) (h1:∀i j b,R i b→R j b→i=j) (h2:∀j b,R j b→src b∨¬O b):KfinT P res src O r .ret σ:=⟨σ2,xs,R,hw,hr,hy,h1,h2⟩
def ghS (O:Nat→Prop):St:=[(.t 9999,.v (.gh O))]
theorem FnT.of_code {P:Program} {f:FuncId} {fn:Func} {c:Code} {args:List V1} {src:Nat→Prop} {r:TRes} (hf:P.funcs[f]?=some fn) (hbd:fn.body=some c) (hn:(Nat.ble args.length 9000&&Nat.ble args.length fn.ntmps)=true) (href:noRefs args=true)
    (h:∀O:Nat→Prop,ACode P fn.ntmps c (KfinT P fn.results src O r) (argS 0 args++ghS O)):FnT P f args src r:=by
  intro w vs hv
  rw[Bool.and_eq_true]at hn
  have hn1:=Nat.le_of_ble_eq_true hn.1
  have hn':=Nat.le_of_ble_eq_true hn.2
  refine calls_of_wp hf hbd ?_
  let E:Env:={w:=w,B:=fun _=>True,n:=fn.ntmps,mt:=[]}
  let O:Nat→Prop:=fun b=>b<w.heap.size
  have hslot:∀ {args:List V1} {i t:Nat} {x:V},i+args.length≤9000→lk (argS i args++ghS O) (.t t)= .v x→(∃a,i≤t∧args[t -i]?=some a∧x= .o a)∨x= .gh O:=by
    intro args
    induction args with
    |nil=>
      intro i t x _ h
      rw[argS,List.nil_append,ghS,lk_cons]at h
      by_cases e:t=9999
      ·subst e;rw[upd_same]at h;cases h;exact .inr rfl
      ·rw[upd_other _ _ (by simpa using e)]at h;cases h
    |cons a l ih=>
      intro i t x hl h
      rw[argS,List.cons_append,lk_cons]at h
      rw[List.length_cons]at hl
      by_cases e:t=i
      ·subst e;rw[upd_same]at h;cases h;exact .inl ⟨a,Nat.le_refl _,by simp,rfl⟩
      · rw[upd_other _ _ (by simpa using e)]at h
        rcases ih (by omega) h with⟨b,h1,h2,h3⟩|h
        ·exact .inl ⟨b,by omega,by rw[show t -i=(t -(i+1))+1 by omega,List.getElem?_cons_succ];exact h2,h3⟩
        ·exact .inr h
  have hother:∀ {args:List V1} {i:Nat} {r:Res},(∀t,r≠ .t t)→lk (argS i args++ghS O) r= .no:=by
    intro args
    induction args with
    |nil=>intro i r hr;rw[argS,List.nil_append,ghS,lk_cons,upd_other _ _ (hr _)];rfl
    |cons a l ih=>intro i r hr;rw[argS,List.cons_append,lk_cons,upd_other _ _ (hr _)];exact ih hr
  have hno:∀k,¬Al (lk (argS 0 args++ghS O)) k:=fun k ⟨e,sz,rows,h⟩=>by rw[hother (by simp)]at h;cases h
  have hbf:∀b,Bf E (fun _=>(0,0)) (lk (argS 0 args++ghS O)) b:=fun b=>⟨.inl trivial,fun k hk=>(hno k hk).elim⟩
  have hSR:SR E (fun _=>(0,0)) (lk (argS 0 args++ghS O)) {tmps:=vs.toArray++Array.replicate (fn.ntmps -vs.toArray.size) undef,defers:=[]} w:=by
    refine⟨fun t x ht=>?_,fun k e sz rows hk=>?_,fun k l hk hl=>(hno k hk).elim,fun k hk=>?_,?_,rfl,fun k hk=>(hno k hk).elim,fun p hp=>(by cases hp),fun k g hm hk=>(by cases hm),rfl,rfl,rfl,Nat.le_refl _,fun b hb hm=>rfl⟩
    · rcases hslot (by omega) ht with⟨a,_,h1,rfl⟩|rfl
      · rw[Nat.sub_zero]at h1
        have hl:t<args.length:=(List.getElem?_eq_some_iff.1 h1).1
        have hvl:t<vs.length:=by rw[hv.1];exact hl
        have h2:=hv.2 t a _ h1 (List.getElem?_eq_getElem hvl)
        have h3:(vs.toArray++Array.replicate (fn.ntmps -vs.toArray.size) undef).getD t undef=vs[t]:=by
          rw[Array.getD_eq_getD_getElem?,Array.getElem?_append_left (by simpa using hvl)]
          simp[hvl]
        show V1r _ _ _ w a _
        rw[h3]
        exact h2.to (Same.refl _ _) (fun b _ _=>hbf b) (fun k hk=>by rw[noRefs_at href (List.mem_of_getElem? h1)]at hk;cases hk)
      ·exact fun b hb=>⟨hbf b,hb⟩
    ·rw[hother (by simp)]at hk;cases hk
    · refine⟨hno k,fun t x ht hr=>?_,fun l e sz rows hl=>?_⟩
      · rcases hslot (by omega) ht with⟨a,_,h1,rfl⟩|rfl
        · have:=noRefs_at href (List.mem_of_getElem? h1)
          have hr':k∈a.refs:=hr
          rw[this]at hr';cases hr'
        ·cases hr
      ·rw[hother (by simp)]at hl;cases hl
    · show (vs.toArray++Array.replicate (fn.ntmps -vs.toArray.size) undef).size=fn.ntmps
      simp[hv.1];omega
  refine wp_mono (h O E _ _ w rfl hSR) ?_
  rintro e a' w' ⟨σ',bx',hK,hs⟩
  have key:(∃σ2 xs R,Wk σ' σ2∧resL σ2 P fn.results.toList=some xs∧tupV xs=vT R r∧(∀i j b,R i b→R j b→i=j)∧∀j b,R j b→src b∨¬O b)→a'.defers=[]∧∃v,(results fn a'.tmps).run P w'= .ok v w'∧∃v' R,Ending.returned v= .returned v'∧Below w.heap.size w w'∧(∀j b,R j b→src b∨w.heap.size≤b)∧(∀i j b,R i b→R j b→i=j)∧Vr (fun _=>(0,0)) (fun _=>False) (fun _=>True) w' (vT R r) v':=by
    rintro⟨σ2,xs,R,hwk,hres,hy,hd,hO⟩
    obtain⟨bx2,hs2⟩:=hwk E bx' a' w' hs
    obtain⟨v,hrun,hvr⟩:=results_ok hres hs2
    rw[hy]at hvr
    refine⟨hs2.defers,v,hrun,v,R,rfl,⟨hs2.os,hs2.tape,hs2.output,hs2.hsize,fun b hb=>hs2.old b hb (fun k g hm=>by cases hm)⟩,fun j b hj=>(hO j b hj).imp id fun h=>Nat.le_of_not_lt h,hd,hvr.to (Same.refl _ _) (fun _ _ _=>trivial) (fun k hk=>by rw[vT_refs]at hk;cases hk)⟩
  cases e with
  |normal=>exact key hK
  |ret=>exact key hK
  |_=>exact hK.elim
def MarkVU (P:Program) (f:FuncId) (ds:List D):Prop:=∀(S:Nat→Prop) (w:World) (vs:List Value) (k:Int),DrUs w S ds vs→(∀b,S b→b<w.heap.size)→0≤k→k+(wgtV ds:Nat)≤4611686018427387904→
  Calls P f #[.agg vs.toArray,.int .i64 k] w fun e w'=>e= .returned (.int .i64 (k+(wgtV ds:Nat)))∧Marked S w w'∧DrUs w' S (mkV mTx k ds) vs
def DrKs (w:World) (S:Nat→Prop) (ds:List D) (vs:List Value):Prop:=vs.length=ds.length∧∀(i:Nat) d u,ds[i]?=some d→vs[i]?=some u→DrK S w d u
theorem DrKs.mark {S:Nat→Prop} {w w':World} {ds:List D} {vs:List Value} (h:DrKs w S ds vs) (hM:Marked S w w'):DrKs w' S ds vs:=⟨h.1,fun i d u hd hu=>(h.2 i d u hd hu).mark hM⟩
def MarkVK (P:Program) (f:FuncId) (ds:List D):Prop:=∀(S:Nat→Prop) (w:World) (vs:List Value) (k:Int),DrKs w S ds vs→(∀b,S b→b<w.heap.size)→0≤k→k+(wgtV ds:Nat)≤4611686018427387904→
  Calls P f #[.agg vs.toArray,.int .i64 k] w fun e w'=>e= .returned (.int .i64 (k+(wgtV ds:Nat)))∧Marked S w w'
theorem heldInts {xs:List Int} (h:xs.length≤17592186044416):HeldF Tryz.prog 75 (dIs xs):=fun k h0 h1=>heldIntS_u (xs.map rI) (fun r hr=>by obtain⟨z,_,rfl⟩:=List.mem_map.1 hr;exact⟨z,rfl⟩) h0 h1 (by rw[List.length_map];exact h)
theorem heldAffs {l:List Aff} (h:szAs l≤1073741824):HeldF Tryz.prog 121 (dAs l):=fun k h0 h1=>heldAffineS_u (l.map rA) (fun r hr=>by obtain⟨a,ha,rfl⟩:=List.mem_map.1 hr;exact⟨_,_,rfl,heldInts (by have:=szAs_mem ha;omega)⟩) h0 h1 (by rw[List.length_map];have:=szAs_len l;omega)
theorem heldExs:∀(m:Nat) {l:List Ex},(∀e∈l,szE e<m)→l.length≤1073741824→szEs l≤1073741824→HeldF Tryz.prog 122 (dEs l)
  |0,l,h,hl,hz=>fun k h0 h1=>heldExprS_u (l.map rE) (fun r hr=>by obtain⟨e,he,rfl⟩:=List.mem_map.1 hr;exact absurd (h e he) (by omega)) h0 h1 (by rw[List.length_map];omega)
  |m+1,l,h,hl,hz=>fun k h0 h1=>heldExprS_u (l.map rE) (fun r hr=>by
    obtain⟨e,he,rfl⟩:=List.mem_map.1 hr
    have h1:=h e he
    have h2:=szEs_mem he
    rw[szE_eq]at h1 h2
    have h3:szAs e.r.2≤szC e.r:=by rw[szC];omega
    rw[rE_eq]
    exact⟨_,_,_,_,_,_,_,rfl,heldInts (by omega),heldAffs (by omega),heldExs m (fun x hx=>by have:=szEs_mem hx;have:=List.length_pos_of_mem hx;omega) (by omega) (by omega)⟩) h0 h1 (by rw[List.length_map];omega)
theorem OwnS.set {w:World} {B g n c:Nat} {xs:List Int} (h:OwnS w B (.slice (some ⟨g,0,none⟩) n c) xs) (j:Nat) (x:Int):
    OwnS (w.setCell ⟨g,j,none⟩ (.int .i64 x)) B (.slice (some ⟨g,0,none⟩) n c) (xs.set j x)∧w.grownBy (w.setCell ⟨g,j,none⟩ (.int .i64 x)) (some g):=by
  have hn:xs.length=n:=by
    rcases h.2 with⟨e,_⟩|⟨_,_,_,e,_⟩
    ·simp at e
    ·simp at e;exact e.2.1.symm
  subst hn
  have:=World.ownsRow.stored h j (.int .i64 x)
  refine⟨?_,this.2⟩
  unfold OwnS
  rw[List.length_set,List.map_set]
  exact this.1
theorem OwnS.len {w:World} {B n c:Nat} {a:Option Addr} {xs:List Int} (h:OwnS w B (.slice a n c) xs):xs.length=n:=by
  rcases h.2 with⟨e,h0⟩|⟨_,_,_,e,_⟩
  ·simp at e;omega
  ·simp at e;exact e.2.1.symm
theorem OwnS.at {w:World} {B n c:Nat} {a:Option Addr} {xs:List Int} (h:OwnS w B (.slice a n c) xs) (hn:0<n):
    ∃g,a=some ⟨g,0,none⟩∧B≤g∧g<w.heap.size∧n≤c∧(∀j,j<n→w.cell? ⟨g,j,none⟩=some (.int .i64 (xs.getD j 0)))∧∀j,w.frozen? ⟨g,j,none⟩=false:=by
  have hl:=h.len
  have h0:=h
  rcases h.2 with⟨e,h1⟩|⟨g,cap,cur,e,hB,hg,hnc,_⟩
  ·simp at e;omega
  · have ha:a=some ⟨g,0,none⟩:=by simp at e;exact e.1
    have hc:c=cap:=by simp at e;exact e.2.2
    subst ha hc
    unfold OwnS at h0
    rw[hl]at h0
    exact⟨g,rfl,hB,(Array.getElem?_eq_some_iff.1 hg).1,by omega,fun j hj=>by rw[World.ownsRow.cellAt h0 j (by omega),List.getElem?_map,List.getD,List.getElem?_eq_getElem (by omega)];rfl,fun j=>World.ownsRow.frozenAt h0 j⟩
theorem OwnS.empty (w:World) {B:Nat} (hB:B≤w.heap.size):OwnS (w.alloc (.cells #[] 3)) B (.slice (some ⟨w.heap.size,0,none⟩) 0 0) []:=
  World.ownsRow_made w #[] 0 hB (by unfold maxLen;omega) rfl
theorem OwnS.one (w:World) {B:Nat} (hB:B≤w.heap.size) (x:Int):OwnS (w.alloc (.cells #[.int .i64 x] 3)) B (.slice (some ⟨w.heap.size,0,none⟩) 1 1) [x]:=
  ⟨rfl,.inr ⟨w.heap.size,1,_,rfl,hB,heap_alloc_new w _,Nat.le_refl _,by unfold maxLen;omega,rfl,rfl⟩⟩
theorem OwnS.shape {w:World} {B n c:Nat} {a:Option Addr} {xs:List Int} (h:OwnS w B (.slice a n c) xs):(a=none→c=0)∧∀p,a=some p→p.spot=none:=by
  rcases h.2 with⟨e,_⟩|⟨g,cap,cur,e,_⟩
  · simp only[Value.slice.injEq]at e
    obtain⟨rfl,_,rfl⟩:=e
    exact⟨fun _=>rfl,(fun p hp=>by cases hp)⟩
  · simp only[Value.slice.injEq]at e
    obtain⟨rfl,_,rfl⟩:=e
    exact⟨(fun e=>by cases e),(fun p hp=>by cases hp;rfl)⟩
end Go.Proofs.YtollooimmfngjaaGreat
namespace Go.Proofs.YtollooimmfngjaaGreat
set_option linter.unusedVariables false
set_option linter.unusedSimpArgs false
open Go.ChangeShapes Go.WideShapes Go.ChangeAt Go.RowKit
section
variable {H : Type} {enc : TypeId × Value → H} {P : Program} {w : World} {spare : Nat → Bool} {held : Bool} {t : TypeId} {α : Type} {f : α → List D} {ok : α → Prop} {v : Value} {dd : DataW H} {ps : List MemPlace}
theorem op_agg (hop:∀n,OpF enc P w spare held n t f ok) (h:DataW.Trod enc P w 0 spare held t v dd ps) (hw:∀m∈dd.weights P t,m≤reachBytes) (hv:∃cs,v= .agg cs):∃a,ok a∧V1r (fun _=>(0,0)) (Al (lk [])) (fun b=>b<w.heap.size) w (ad (f a)) v:=by
  obtain⟨fuel,hf⟩:=h
  obtain⟨cs,rfl⟩:=hv
  obtain⟨a,h1,h2,h3⟩:=hop fuel fuel (Nat.le_refl _) _ _ hf hw
  refine⟨a,h1,cs.toList,by simp,by rw[List.length_map];exact h2,fun i c u hc hu=>?_⟩
  rw[List.getElem?_map]at hc
  cases hq:(f a)[i]? with
  |none=>rw[hq]at hc;cases hc
  |some d=>rw[hq]at hc;cases hc;exact h3 i d u hq hu
theorem okWide_agg {r:Reach} {b0:Nat} {fs:Array Field} (ht:P.underlying t=some (.struct fs)) (h:Value.okWide P w r b0 t v):∃cs,v= .agg cs:=by
  unfold Value.okWide at h
  rw[ht]at h
  obtain⟨cs,e,_⟩:=h
  exact⟨cs,e⟩
theorem vals1_mk {R:V1→Value→Prop} {x:V1} {u:Value} (h:R x u):Vals R [x] [u]:=⟨rfl,fun i y v hy hv=>by
  match i,hy,hv with
  |0,hy,hv=>cases hy;cases hv;exact h⟩
theorem vals2_mk {R:V1→Value→Prop} {x y:V1} {u v:Value} (h:R x u) (h2:R y v):Vals R [x,y] [u,v]:=.cons h (vals1_mk h2)
end
end Go.Proofs.YtollooimmfngjaaGreat
namespace Go.Proofs.YtollooimmfngjaaGreat
set_option linter.unusedVariables false
set_option linter.unusedSimpArgs false
open Go.RowKit
abbrev bx0:Nat→Nat×Nat:=fun _=>(0,0)
abbrev al0:Nat→Prop:=Al (lk [])
theorem no_al0:∀k,¬al0 k:=fun k ⟨e,sz,rows,h⟩=>by cases h
theorem Fn.calls {P:Program} {f:FuncId} {args:List V1} {y:V} {vs:List Value} {w:World} {B:Nat→Prop} (h:Fn P f [] args y []) (hv:Vals (V1r bx0 al0 B w) args vs):
    Calls P f vs.toArray w fun e w'=>(∃v B',e= .returned v∧Vr bx0 al0 B' w' y v)∧Below w.heap.size w w':=by
  refine(h B bx0 w vs ⟨fun k e sz rows h=>(by cases h),fun k l hk=>(no_al0 k hk).elim,fun k hk=>(no_al0 k hk).elim⟩ hv).mono ?_
  rintro e w' ⟨v,bx',rfl,hp⟩
  refine⟨⟨v,Baft bx' B w (lk []),rfl,hp.val.to (Same.refl _ _) (fun b hb _=>hb) (fun k _ hk=>(no_al0 k hk).elim)⟩,hp.os,hp.tape,hp.output,hp.size,fun b hb=>hp.old b hb fun k hk=>(no_al0 k hk).elim⟩
theorem Fn.callsI {P:Program} {f:FuncId} {args:List V1} {z:Int} {vs:List Value} {w:World} {B:Nat→Prop} (h:Fn P f [] args (.o (nat1 z)) []) (hv:Vals (V1r bx0 al0 B w) args vs):
    Calls P f vs.toArray w fun e w'=>e= .returned (.int .i64 z)∧Below w.heap.size w w':=by
  refine(h.calls hv).mono ?_
  rintro e w' ⟨⟨v,B',rfl,hv⟩,hb⟩
  have hv:Dr _ w' (.val (.int .i64 z)) v:=hv
  cases hv
  exact⟨rfl,hb⟩
theorem Fn.callsB {P:Program} {f:FuncId} {args:List V1} {z:Bool} {vs:List Value} {w:World} {B:Nat→Prop} (h:Fn P f [] args (.o (bo1 z)) []) (hv:Vals (V1r bx0 al0 B w) args vs):
    Calls P f vs.toArray w fun e w'=>e= .returned (.bool z)∧Below w.heap.size w w':=by
  refine(h.calls hv).mono ?_
  rintro e w' ⟨⟨v,B',rfl,hv⟩,hb⟩
  have hv:Dr _ w' (.val (.bool z)) v:=hv
  cases hv
  exact⟨rfl,hb⟩
structure LawS (w w':World) (us:List Value):Prop where
  below:Below w.heap.size w w'
  box:w'.heap[w.heap.size]?=some (.cells us.toArray 25 (0,0))
theorem LawS.lt {w w':World} {us:List Value} (h:LawS w w' us):w.heap.size<w'.heap.size:=(Array.getElem?_eq_some_iff.1 h.box).1
theorem LawS.fwd {w w' w'':World} {us:List Value} {n:Nat} (h:LawS w w' us) (hb:Below n w' w'') (hn:w.heap.size<n):LawS w w'' us:=⟨h.below.trans (hb.mono (by omega)),(hb.block _ hn).trans h.box⟩
theorem LawS.c {w w':World} {us:List Value} (h:LawS w w' us) (j:Nat) {v:Value} (hv:us[j]?=some v):w'.cell? ⟨w.heap.size,j,none⟩=some v:=by
  rw[cell_of_row w' _ _ _ _ _ h.box,List.getElem?_toArray];exact hv
theorem Marked.below {S:Nat→Prop} {w w':World} {n:Nat} (h:Marked S w w') (hS:∀b,S b→n≤b) (hn:n≤w.heap.size):Below n w w':=
  ⟨h.os,h.tape,h.output,h.size,fun b hb=>h.old b (by omega) fun hs=>by have:=hS b hs;omega⟩
section
variable {E : Env} {bx : Nat → Nat × Nat} {τ : Res → RC} {a : Act} {w : World}
theorem SR.tell (h:SR E bx τ a w) {t:Nat} {x:V} (hv:Vr bx (Al τ) (Bf E bx τ) w x (a.tmps.getD t undef)) (hr:∀k∈x.refs,τ (.u k)≠ .no):SR E bx (upd τ (.t t) (.v x)) a w:=by
  have hbf:=Bf_upd_t (E:=E) (bx:=bx) τ t (.v x)
  have hal:=Al_upd_t τ t (.v x)
  refine⟨fun s y ht=>?_,fun k e sz rows hk=>?_,by rw[hal];exact h.inj,fun k hk=>?_,h.size,h.defers,by rw[hal];exact h.own,h.mtl,by rw[hal];exact h.ent,h.os,h.tape,h.output,h.hsize,h.old⟩
  · rw[hal,hbf]
    by_cases e:s=t
    · subst e
      rw[upd_same]at ht
      cases ht
      exact hv
    · rw[upd_other _ _ (by simpa using e)]at ht
      exact h.slot s y ht
  · rw[upd_other _ _ (by simp)]at hk
    rw[hal,hbf]
    exact h.box k e sz rows hk
  · rw[upd_other _ _ (by simp)]at hk
    obtain⟨h1,h2,h3⟩:=h.unused k hk
    refine⟨by rw[hal];exact h1,fun s y ht=>?_,fun l e sz rows hl=>?_⟩
    · by_cases e:s=t
      · subst e
        rw[upd_same]at ht
        cases ht
        exact fun hm=>hr k hm hk
      · rw[upd_other _ _ (by simpa using e)]at ht
        exact h2 s y ht
    · rw[upd_other _ _ (by simp)]at hl
      exact h3 l e sz rows hl
theorem SR.tellB (h:SR E bx τ a w) {k0:Nat} {e0:TypeId} {sz0:Nat} {rows0:List (List C)} {i j:Nat} {r:List C} {d:D} (hk:τ (.b k0)= .b e0 sz0 rows0) (hi:rows0[i]?=some r) (hj:j<r.length)
    (hu:∀(cur:Array Value) u,w.heap[(bx k0).1]?=some (.cells cur e0 (0,0))→cur[i *sz0+j]?=some u→Dr (Bf E bx τ) w d u):SR E bx (upd τ (.b k0) (.b e0 sz0 (rows0.set i (r.set j (.d d))))) a w:=by
  have hal:Al (upd τ (.b k0) (.b e0 sz0 (rows0.set i (r.set j (.d d)))))=Al τ:=Al_upd_b ⟨e0,sz0,rows0,hk⟩
  have hbf:Bf E bx (upd τ (.b k0) (.b e0 sz0 (rows0.set i (r.set j (.d d)))))=Bf E bx τ:=by funext b;simp only[Bf,hal]
  have hil:=(List.getElem?_eq_some_iff.1 hi).1
  refine⟨fun s y ht=>?_,fun k e sz rows hk'=>?_,by rw[hal];exact h.inj,fun k hk'=>?_,h.size,h.defers,by rw[hal];exact h.own,h.mtl,by rw[hal];exact h.ent,h.os,h.tape,h.output,h.hsize,h.old⟩
  · rw[upd_other _ _ (by simp)]at ht
    rw[hal,hbf];exact h.slot s y ht
  · rw[hal,hbf]
    by_cases e1:k=k0
    · subst e1
      rw[upd_same]at hk'
      cases hk'
      obtain⟨cur,h1,h2,h3,h4,h5⟩:=h.box k e0 sz0 rows0 hk
      refine⟨cur,h1,h2,by rw[List.length_set];exact h3,fun i' r' hi'=>?_,fun i' r' j' c hi' hj'=>?_⟩
      · rw[List.getElem?_set]at hi'
        by_cases e2:i=i'
        ·subst e2;rw[if_pos rfl,if_pos hil]at hi';cases hi';rw[List.length_set];exact h4 i r hi
        ·rw[if_neg e2]at hi';exact h4 i' r' hi'
      · rw[List.getElem?_set]at hi'
        by_cases e2:i=i'
        · subst e2;rw[if_pos rfl,if_pos hil]at hi';cases hi'
          rw[List.getElem?_set]at hj'
          by_cases e3:j=j'
          · subst e3;rw[if_pos rfl,if_pos hj]at hj';cases hj'
            obtain⟨u,h6,_⟩:=h5 i r j r[j] hi (List.getElem?_eq_getElem hj)
            exact⟨u,h6,hu cur u h1 h6⟩
          ·rw[if_neg e3]at hj';exact h5 i r j' c hi hj'
        ·rw[if_neg e2]at hi';exact h5 i' r' j' c hi' hj'
    · rw[upd_other _ _ (by simpa using e1)]at hk'
      exact h.box k e sz rows hk'
  · rw[upd_other _ _ (by simp)]at hk'
    obtain⟨h1,h2,h3⟩:=h.unused k hk'
    refine⟨by rw[hal];exact h1,fun s y ht=>?_,fun l e sz rows hl r' hr' c hc=>?_⟩
    ·rw[upd_other _ _ (by simp)]at ht;exact h2 s y ht
    · by_cases e1:l=k0
      · subst e1
        rw[upd_same]at hl
        cases hl
        rcases List.mem_or_eq_of_mem_set hr' with hr'|rfl
        ·exact h3 l e0 sz0 rows0 hk r' hr' c hc
        · rcases List.mem_or_eq_of_mem_set hc with hc|rfl
          ·exact h3 l e0 sz0 rows0 hk r (List.mem_of_getElem? hi) c hc
          ·exact fun hm=>by cases hm
      · rw[upd_other _ _ (by simpa using e1)]at hl
        exact h3 l e sz rows hl r' hr' c hc
end
def isPos (rows:List (List D)) (i j:Nat):Prop:=∃r m rs,rows[i]?=some r∧r[j]?=some (.list m rs)
def plain (rows:List (List D)):Prop:=∀r∈rows,∀x∈r,noTree x=true
structure Pk (σ:St) (k:Nat) (F:Nat→Nat→Nat→Prop) (rows:List (List D)) (N:Nat→Prop):Prop where
  fr:∀b,N b→(∃i j,isPos rows i j∧F i j b)∨∀S,Has σ S→¬S b
section
variable {E : Env} {bx : Nat → Nat × Nat} {a : Act} {w : World} {σ : St} {k : Nat} {e : TypeId} {sz : Nat} {rows : List (List D)} {F : Nat → Nat → Nat → Prop}
theorem SR.tree (hs:SR E bx (lk σ) a w) (hb:lk σ (.b k)= .b e sz (dR (tagRs F 0 rows))) (hk:(Nat.ble 100 k&&Nat.ble k 999)=true) (hp:plain rows) (hl:rows.length≤17592186044416)
    (hd:∀i j i' j' b,isPos rows i j→isPos rows i' j'→F i j b→F i' j' b→i=i'∧j=j'):
    ∃N,Pk σ k F rows N∧∀v,Cr bx (Al (lk σ)) (Bf E bx (lk σ)) w (.own k sz rows.length) v→Dr (Bf E bx (upd (lk σ) (.b k) .no)) w (.tree N (.list sz rows)) v:=by
  rw[Bool.and_eq_true]at hk
  have hk1:=Nat.le_of_ble_eq_true hk.1
  have hk2:=Nat.le_of_ble_eq_true hk.2
  have hal:Al (lk σ) k:=⟨e,sz,_,hb⟩
  have hblk:∀S,Has σ S→¬S (bx k).1:=fun S hS h=>(hs.has hS _ h).1.2 k hal rfl
  have hbf:∀b,Bf E bx (lk σ) b→Bf E bx (upd (lk σ) (.b k) .no) b:=fun b h=>⟨h.1,fun l ⟨e',sz',rows',hl⟩=>by
    by_cases e1:l=k
    ·subst e1;rw[upd_same]at hl;cases hl
    ·rw[upd_other _ _ (by simpa using e1)]at hl;exact h.2 l ⟨e',sz',rows',hl⟩⟩
  have hown:Bf E bx (upd (lk σ) (.b k) .no) (bx k).1:=⟨.inr ((hs.own k hal).resolve_right fun h=>by omega),fun l ⟨e',sz',rows',hl⟩ h=>by
    by_cases e1:l=k
    ·subst e1;rw[upd_same]at hl;cases hl
    · rw[upd_other _ _ (by simpa using e1)]at hl
      exact e1 (hs.inj k l hal ⟨e',sz',rows',hl⟩ h).symm⟩
  have hhas:∀ {i j},isPos rows i j→Has σ (F i j):=fun {i j} ⟨r,m,rs,hr,hj⟩=>Has.rows hb hr hj
  obtain⟨cur,c1,c2,c3,c4,c5⟩:=hs.box k e sz _ hb
  have hrow:∀ {i:Nat} {r:List D},rows[i]?=some r→r.length=sz:=fun {i r} hr=>by
    have:=c4 i ((tagL (F i) 0 r).map C.d) (by rw[dR,List.getElem?_map,tagRs_at hr,Nat.zero_add];rfl)
    rwa[List.length_map,tagL_len]at this
  have hcell:∀ {i j:Nat} {r:List D} {x:D},rows[i]?=some r→r[j]?=some x→∃u,cur[i *sz+j]?=some u∧Dr (Bf E bx (lk σ)) w (tg (F i j) x) u:=fun {i j r x} hr hx=>by
    obtain⟨u,h1,h2⟩:=c5 i ((tagL (F i) 0 r).map C.d) j (.d (tg (F i j) x)) (by rw[dR,List.getElem?_map,tagRs_at hr,Nat.zero_add];rfl) (by rw[List.getElem?_map,tagL_at hx,Nat.zero_add];rfl)
    exact⟨u,h1,h2⟩
  refine⟨fun b=>b=(bx k).1∨∃i j,isPos rows i j∧F i j b,⟨fun b hb=>?_⟩,fun v hv=>?_⟩
  · rcases hb with rfl|h
    ·exact .inr hblk
    ·exact .inl h
  · obtain⟨cap,rfl,q1,q2,q3⟩:=hv.2 hal
    refine Dr.tree _ _ _ (fun b hb=>?_) (fun b hb=>?_) (DrU.list _ sz rows _ _ cap (bx k).1 0 (fun i j=>cur.getD (i *sz+j) undef) (fun i j b=>isPos rows i j∧F i j b) rfl q1 hl (fun h=>by cases h) (fun _=>rfl) (fun i r hr=>hrow hr) (fun i r j x hr hx=>?_) (fun i j c hc=>⟨.inr ⟨i,j,hc⟩,fun h=>hblk _ (hhas hc.1) (h▸hc.2)⟩) (fun i j i' j' c h1 h2=>hd i j i' j' c h1.1 h2.1 h1.2 h2.2) (fun i r j x hr hx=>?_))
    · rcases hb with rfl|⟨i,j,h1,h2⟩
      ·exact hown
      ·exact hbf _ (hs.has (hhas h1) b h2).1
    · rcases hb with rfl|⟨i,j,h1,h2⟩
      ·exact hs.lt hal
      ·exact(hs.has (hhas h1) b h2).2
    · obtain⟨u,h1,_⟩:=hcell hr hx
      refine⟨.inl rfl,?_,by simp[World.frozen?,c1]⟩
      rw[cell_of_row w _ _ _ _ _ c1,Nat.zero_add,h1,Array.getD_eq_getD_getElem?,h1];rfl
    · obtain⟨u,h1,h2⟩:=hcell hr hx
      rw[Array.getD_eq_getD_getElem?,h1,Option.getD_some]
      have hpx:=hp r (List.mem_of_getElem? hr) x (List.mem_of_getElem? hx)
      cases x with
      |val v=>cases h2;exact .val _ _ hpx
      |list m rs=>
        cases h2 with
        |tree _ _ _ _ _ h2=>exact h2.subS fun b hb=>⟨⟨r,m,rs,hr,hx⟩,hb⟩
      |tree S y=>cases hpx
variable {P : Program} {n : Nat} {c : Code} {K : Exit → St → Prop}
theorem ACode.packC (t k:Nat) (ht:lk σ (.t t)= .v (.o (.c (.own k sz rows.length)))) (hb:lk σ (.b k)= .b e sz (dR (tagRs F 0 rows))) (hp:plain rows) (hd:∀i j i' j' b,isPos rows i j→isPos rows i' j'→F i j b→F i' j' b→i=i'∧j=j') (hl:rows.length≤17592186044416)
    (h:∀N,Pk σ k F rows N→ACode P n c K ((.t t,.v (.o (vD (.tree N (.list sz rows)))))::(.b k,.no)::σ)) (hk:(Nat.ble 100 k&&Nat.ble k 999)=true:=by rfl):ACode P n c K σ:=by
  intro E bx a w hE hs
  obtain⟨N,h1,h2⟩:=hs.tree hb hk hp hl hd
  have hv:Cr bx (Al (lk σ)) (Bf E bx (lk σ)) w (.own k sz rows.length) (a.tmps.getD t undef):=hs.slot t _ ht
  have hs2:=(hs.kill k).tell (t:=t) (x:=.o (vD (.tree N (.list sz rows)))) (h2 _ hv) (fun l hl=>by cases hl)
  rw[←lk_cons,←lk_cons]at hs2
  exact h N h1 E bx a w hE hs2
theorem ACode.packB (k0 i j k:Nat) {e0:TypeId} {sz0:Nat} {rows0:List (List C)} {r:List C} (h0:lk σ (.b k0)= .b e0 sz0 rows0) (hne:Nat.beq k0 k=false) (hi:rows0[i]?=some r) (hj:r[j]?=some (.own k sz rows.length)) (hb:lk σ (.b k)= .b e sz (dR (tagRs F 0 rows))) (hp:plain rows) (hd:∀i j i' j' b,isPos rows i j→isPos rows i' j'→F i j b→F i' j' b→i=i'∧j=j') (hl:rows.length≤17592186044416)
    (h:∀N,Pk σ k F rows N→ACode P n c K ((.b k0,.b e0 sz0 (rows0.set i (r.set j (.d (.tree N (.list sz rows))))))::(.b k,.no)::σ)) (hk:(Nat.ble 100 k&&Nat.ble k 999)=true:=by rfl):ACode P n c K σ:=by
  intro E bx a w hE hs
  obtain⟨N,h1,h2⟩:=hs.tree hb hk hp hl hd
  have hs1:=hs.kill k
  have hne':k0≠k:=fun e=>by subst e;simp at hne
  obtain⟨cur,c1,_,_,_,c5⟩:=hs.box k0 e0 sz0 rows0 h0
  obtain⟨u,u1,u2⟩:=c5 i r j _ hi hj
  have hs2:=hs1.tellB (d:=.tree N (.list sz rows)) (k0:=k0) (by rw[upd_other _ _ (by simpa using hne')];exact h0) hi (List.getElem?_eq_some_iff.1 hj).1 (fun cur' u' q1 q2=>by
    rw[c1]at q1
    cases q1
    rw[u1]at q2
    cases q2
    exact h2 u u2)
  rw[←lk_cons,←lk_cons]at hs2
  exact h N h1 E bx a w hE hs2
end
abbrev Rho:=Nat→Nat→Nat→Prop
def setR (ρ:Rho) (i:Nat) (R:Nat→Nat→Prop):Rho:=fun k=>if k=i then R else ρ k
theorem setR_same (ρ:Rho) (i:Nat) (R:Nat→Nat→Prop):setR ρ i R i=R:=if_pos rfl
theorem setR_other (ρ:Rho) {i k:Nat} (R:Nat→Nat→Prop) (h:k≠i):setR ρ i R k=ρ k:=if_neg h
abbrev ghR (i:Nat):Res:=.t (20000+i)
def un (R:Nat→Nat→Prop) (b:Nat):Prop:=∃j,R j b
structure TrE where
  R:List Res
  W:List Res
  s:Rho→St
  mkr:Option ((Nat→Prop)×(Nat→Prop))
def trAt (tr:List TrE) (ρ:Rho):List (List Res×List Res×St):=tr.map fun x=>(x.R,x.W,x.s ρ)
def TStep (P:Program) (n:Nat) (ops:Array Oper) (o:Oper) (i:Nat) (σ:Rho→St) (R W:List Res) (σ':Rho→St) (src:(Nat→Prop)×(Nat→Prop)):Prop:=
  (∀ρ r,r∉W→lk (σ' ρ) r=lk (σ ρ) r)∧ghR i∈W∧(∀ρ,lk (σ' ρ) (ghR i)= .v (.gh (un (ρ i))))∧
  ∀(ρ:Rho) (E:Env) (bx:Nat→Nat×Nat) (τ:Res→RC) (a:Act) (w:World),E.n=n→(∀r∈R,τ r=lk (σ ρ) r)→SR E bx τ a w→
    OW P ops o a w fun a' w'=>∃Rn:Nat→Nat→Prop,(∀j b,Rn j b→src.1 b∨w.heap.size≤b)∧(∀j k b,Rn j b→Rn k b→j=k)∧(∀j b,Rn j b→src.2 j)∧∃bx',SR E bx' (ovr τ W (σ' (setR ρ i Rn))) a' w'
inductive RunR (P:Program) (n:Nat) (ops:Array Oper):Nat→List Oper→(Rho→St)→List TrE→(Rho→St)→Prop
  |nil (i:Nat) (σ:Rho→St):RunR P n ops i [] σ [] σ
  |cons {i:Nat} {o:Oper} {l:List Oper} {σ σ' σ'':Rho→St} {R W:List Res} {tr:List TrE} (h:∀ρ,St1 P n ops o (σ ρ) R W (σ' ρ)) (k:RunR P n ops (i+1) l σ' tr σ''):RunR P n ops i (o::l) σ (⟨R,W,σ',none⟩::tr) σ''
  |mk {i:Nat} {o:Oper} {l:List Oper} {σ σ' σ'':Rho→St} {R W:List Res} {tr:List TrE} {src:(Nat→Prop)×(Nat→Prop)} (h:TStep P n ops o i σ R W σ' src) (k:RunR P n ops (i+1) l σ' tr σ''):RunR P n ops i (o::l) σ (⟨R,W,σ',some src⟩::tr) σ''
def preR (σ0:Rho→St) (tr:List TrE):Nat→Rho→St
  |0=>σ0
  |i+1=>match tr[i]? with
    |some x=>x.s
    |none=>σ0
def StepOk (P:Program) (n:Nat) (ops:Array Oper) (o:Oper) (i:Nat) (σ:Rho→St) (x:TrE):Prop:=
  match x.mkr with
  |none=>∀ρ,St1 P n ops o (σ ρ) x.R x.W (x.s ρ)
  |some src=>TStep P n ops o i σ x.R x.W x.s src
theorem RunR.at {P:Program} {n:Nat} {ops:Array Oper} {i:Nat} {l:List Oper} {σ0 σ1:Rho→St} {tr:List TrE} (h:RunR P n ops i l σ0 tr σ1):tr.length=l.length∧preR σ0 tr l.length=σ1∧
    ∀(k:Nat) o,l[k]?=some o→∃x,tr[k]?=some x∧StepOk P n ops o (i+k) (preR σ0 tr k) x:=by
  have hp:∀ {x:TrE} {tr:List TrE} {σ:Rho→St} (j:Nat),j≤tr.length→preR σ (x::tr) (j+1)=preR x.s tr j:=by
    intro x tr σ j hj
    cases j with
    |zero=>rfl
    |succ j=>
      have hj':j<tr.length:=by omega
      simp[preR,hj']
  induction h with
  |nil i σ=>exact⟨rfl,rfl,fun k o h=>by simp at h⟩
  | @cons i o l σ σ' σ'' R W tr h k ih=>
    obtain⟨h1,h2,h3⟩:=ih
    refine⟨by simp[h1],by rw[List.length_cons,hp _ (by omega)];exact h2,fun q o' ho=>?_⟩
    cases q with
    |zero=>simp only[List.getElem?_cons_zero,Option.some.injEq]at ho;subst ho;exact⟨_,rfl,h⟩
    |succ q=>
      rw[List.getElem?_cons_succ]at ho
      obtain⟨x,h4,h5⟩:=h3 q o' ho
      have hi:q<l.length:=(List.getElem?_eq_some_iff.1 ho).1
      exact⟨x,by rw[List.getElem?_cons_succ];exact h4,by rw[hp _ (by omega),show i+(q+1)=i+1+q by omega];exact h5⟩
  | @mk i o l σ σ' σ'' R W tr src h k ih=>
    obtain⟨h1,h2,h3⟩:=ih
    refine⟨by simp[h1],by rw[List.length_cons,hp _ (by omega)];exact h2,fun q o' ho=>?_⟩
    cases q with
    |zero=>simp only[List.getElem?_cons_zero,Option.some.injEq]at ho;subst ho;exact⟨_,rfl,h⟩
    |succ q=>
      rw[List.getElem?_cons_succ]at ho
      obtain⟨x,h4,h5⟩:=h3 q o' ho
      have hi:q<l.length:=(List.getElem?_eq_some_iff.1 ho).1
      exact⟨x,by rw[List.getElem?_cons_succ];exact h4,by rw[hp _ (by omega),show i+(q+1)=i+1+q by omega];exact h5⟩
theorem StepOk.same {P:Program} {n:Nat} {ops:Array Oper} {o:Oper} {i:Nat} {σ:Rho→St} {x:TrE} (h:StepOk P n ops o i σ x) (ρ:Rho) {r:Res} (hr:r∉x.W):lk (x.s ρ) r=lk (σ ρ) r:=by
  unfold StepOk at h
  split at h
  ·exact(h ρ).1 r hr
  ·exact h.1 ρ r hr
theorem cur_allR {P:Program} {n:Nat} {ops:Array Oper} {l:List Oper} {σ0 σ1:Rho→St} {tr:List TrE} (h:RunR P n ops 0 l σ0 tr σ1) (ρ:Rho) {D:Nat→Bool} {i:Nat} (hi:i≤l.length) (hD:∀j,j<i→D j=true) (r:Res):
    cur (σ0 ρ) (trAt tr ρ) D i r=lk (preR σ0 tr i ρ) r:=by
  obtain⟨h1,_,h3⟩:=h.at
  induction i with
  |zero=>rfl
  |succ i ih=>
    obtain⟨o,ho⟩:∃o,l[i]?=some o:=⟨_,List.getElem?_eq_getElem (by omega)⟩
    obtain⟨x,h4,h5⟩:=h3 i o ho
    have h6:(trAt tr ρ)[i]?=some (x.R,x.W,x.s ρ):=by rw[trAt,List.getElem?_map,h4];rfl
    simp only[cur,preR,h4,h6,hD i (by omega),true_and]
    split
    ·rfl
    · rename_i hr
      rw[ih (by omega) (fun j hj=>hD j (by omega))]
      exact(h5.same ρ hr).symm
def Ind (ops:Array Oper) (tr:List TrE):Prop:=∀k y,tr[k]?=some y→∀i x,tr[i]?=some x→x.mkr≠none→bef ops ops.size k i=true∨k=i∨∀(ρ:Rho) (R:Nat→Nat→Prop),∀r∈y.W,lk (y.s (setR ρ i R)) r=lk (y.s ρ) r
def Gho (tr:List TrE):Prop:=∀k y,tr[k]?=some y→(Res.t 9998)∉y.W∧∀i x,tr[i]?=some x→x.mkr≠none→k≠i→ghR i∉y.W
def Facts (U:Nat→Prop) (tr:List TrE) (ρ:Rho) (N:Nat→Nat→Prop) (D:Nat→Bool):Prop:=∀i x src,tr[i]?=some x→x.mkr=some src→D i=true→
  (∀j b,ρ i j b→(src.1 b∨N i b)∧src.2 j)∧(∀j k b,ρ i j b→ρ i k b→j=k)∧(∀b,N i b→un (ρ i) b)∧(∀b,N i b→¬U b)∧∀k y src',tr[k]?=some y→y.mkr=some src'→D k=true→k≠i→∀b,N i b→¬N k b
section
variable {P : Program} {n : Nat} {l : List Oper} {s0 : St} {σ1 : Rho → St} {tr : List TrE} {U : Nat → Prop}
theorem wpAny_runR (h:RunR P n l.toArray 0 l (fun _=>s0) tr σ1) (hc:∀ρ,chk l.toArray 0 (trAt tr ρ)=true) (he:edgesOk l.toArray 0 l=true) (hind:Ind l.toArray tr) (hgh:Gho tr) (hU:lk s0 (.t 9998)= .v (.gh U)) {E:Env} (hE:E.n=n) {Q:Exit→Act→World→Prop}
    (hQ:∀ρ N bx a w,Facts U tr ρ N (fun _=>true)→SR E bx (lk (σ1 ρ)) a w→Q .normal a w):∀(fuel:Nat) (listed:Array Bool) (a:Act) (w:World),listed.size=l.length→listed.toList.count false=fuel→
    (∀j o,l.toArray[j]?=some o→listed.getD j false=true→∀e∈o.after,Region.binds .any e=true→listed.getD e.on false=true)→
    (∃ρ N bx,Facts U tr ρ N (fun i=>listed.getD i false)∧SR E bx (cur s0 (trAt tr ρ) (fun i=>listed.getD i false) l.length) a w)→wpAny P .any l.toArray Q fuel listed a w:=by
  obtain⟨hlen,hlast,hat⟩:=h.at
  have hat':∀ρ {i:Nat} {x:TrE},tr[i]?=some x→(trAt tr ρ)[i]?=some (x.R,x.W,x.s ρ):=fun ρ {i x} hx=>by rw[trAt,List.getElem?_map,hx];rfl
  have hof:∀ρ {j:Nat} {y:List Res×List Res×St},(trAt tr ρ)[j]?=some y→∃x,tr[j]?=some x∧y=(x.R,x.W,x.s ρ):=fun ρ {j y} hy=>by
    rw[trAt,List.getElem?_map]at hy
    cases hx:tr[j]? with
    |none=>rw[hx]at hy;cases hy
    |some x=>rw[hx]at hy;cases hy;exact⟨x,rfl,rfl⟩
  have hfin:∀(listed:Array Bool) a w,listed.size=l.length→(∀i,i<l.length→listed.getD i false=true)→(∃ρ N bx,Facts U tr ρ N (fun i=>listed.getD i false)∧SR E bx (cur s0 (trAt tr ρ) (fun i=>listed.getD i false) l.length) a w)→Q .normal a w:=by
    intro listed a w hs hall ⟨ρ,N,bx,hF,hsr⟩
    have:cur s0 (trAt tr ρ) (fun i=>listed.getD i false) l.length=lk (σ1 ρ):=by
      funext r
      rw[show cur s0 (trAt tr ρ) (fun i=>listed.getD i false) l.length r=lk (preR (fun _=>s0) tr l.length ρ) r from cur_allR h ρ (Nat.le_refl _) hall r,hlast]
    rw[this]at hsr
    refine hQ ρ N bx a w (fun i x src hx hm _=>?_) hsr
    have hil:∀ {i:Nat} {x:TrE},tr[i]?=some x→listed.getD i false=true:=fun {i x} hx=>hall i (by have:=(List.getElem?_eq_some_iff.1 hx).1;omega)
    obtain⟨f1,f2,f3,f4,f5⟩:=hF i x src hx hm (hil hx)
    exact⟨f1,f2,f3,f4,fun k y src' hy hm' _=>f5 k y src' hy hm' (hil hy)⟩
  intro fuel
  induction fuel with
  |zero=>
    intro listed a w hs hcount hdown hsr
    have hall:∀i,i<l.length→listed.getD i false=true:=by
      intro i hi
      have hn:false∉listed.toList:=List.count_eq_zero.1 hcount
      have hi':i<listed.size:=by omega
      cases e:listed[i]with
      |true=>simp[hi',e]
      |false=>exact absurd (by rw[←e];exact Array.mem_toList_iff.2 (Array.getElem_mem hi')) hn
    refine⟨?_,hfin listed a w hs hall hsr⟩
    apply List.eq_nil_iff_forall_not_mem.2
    intro j hj
    obtain⟨h1,o,ho,_⟩:=mem_ready.1 hj
    have hj':j<l.length:=by have:=(Array.getElem?_eq_some_iff.1 ho).1;simpa using this
    have:=hall j hj'
    have hj2:j<listed.size:=by omega
    simp[hj2]at this h1
    rw[this]at h1;cases h1
  |succ fuel ih=>
    intro listed a w hs hcount hdown hsr
    refine⟨fun hnil=>?_,fun i hi=>?_⟩
    · refine hfin listed a w hs ?_ hsr
      intro i
      induction i using Nat.strongRecOn with
      |_ i ih2=>
        intro hi
        cases hli:listed.getD i false with
        |true=>rfl
        |false=>
          exfalso
          obtain⟨o,ho⟩:∃o,l[i]?=some o:=⟨_,List.getElem?_eq_getElem hi⟩
          have hmem:i∈Region.ready .any l.toArray listed:=by
            refine mem_ready.2 ⟨?_,o,by simpa using ho,fun e he' hb=>?_⟩
            · have hi2:i<listed.size:=by omega
              simp[hi2]at hli ⊢
              exact hli
            · have:=edgesOk_at he i o ho e he' hb
              rw[Nat.zero_add]at this
              exact ih2 e.on this (by omega)
          rw[hnil]at hmem
          cases hmem
    · obtain⟨hun,o,ho,hall⟩:=mem_ready.1 hi
      have ho':l[i]?=some o:=by simpa using ho
      have hil:i<l.length:=(List.getElem?_eq_some_iff.1 ho').1
      have hil2:i<listed.size:=by omega
      have hunf:listed.getD i false=false:=by simp[hil2]at hun ⊢;exact hun
      obtain⟨x,h4,h5⟩:=hat i o ho'
      rw[Nat.zero_add]at h5
      obtain⟨ρ,N,bx,hF,hsr⟩:=hsr
      have hlater:∀(ρ:Rho) j (y:List Res×List Res×St),i≤j→j<l.length→(trAt tr ρ)[j]?=some y→(meet x.W y.1=true∨meet x.W y.2.1=true∨meet x.R y.2.1=true)→listed.getD j false=false:=by
        intro ρ j y hij hj hy hm
        by_cases e:j=i
        ·subst e;exact hunf
        · cases hl:listed.getD j false with
          |false=>rfl
          |true=>
            exfalso
            have hb:=chk_at (hc ρ) i j _ y (by omega) (hat' ρ h4) hy hm
            rw[Nat.zero_add,Nat.zero_add]at hb
            obtain⟨oj,hoj⟩:∃oj,l[j]?=some oj:=⟨_,List.getElem?_eq_getElem hj⟩
            have hoj':l.toArray[j]?=some oj:=by simpa using hoj
            have:=bef_listed hdown _ j i oj hoj' (hdown j oj hoj' hl) hb
            rw[hunf]at this;cases this
      have hearlier:∀(ρ:Rho) j (y:List Res×List Res×St),j<i→(trAt tr ρ)[j]?=some y→(meet y.2.1 x.R=true∨meet y.2.1 x.W=true∨meet y.1 x.W=true)→listed.getD j false=true:=by
        intro ρ j y hji hy hm
        have hb:=chk_at (hc ρ) j i y _ hji hy (hat' ρ h4) hm
        rw[Nat.zero_add,Nat.zero_add]at hb
        exact bef_listed hdown _ i j o ho hall hb
      have hread:∀r∈x.R,cur s0 (trAt tr ρ) (fun i=>listed.getD i false) l.length r=lk (preR (fun _=>s0) tr i ρ) r:=by
        intro r hr
        rw[cur_stop (i:=i) (by omega) (fun j y h1 h2 hy hrx=>hlater ρ j y h1 h2 hy (.inr (.inr (meet_of hr hrx))))]
        rw[cur_same (D':=fun _=>true) (fun j y hj hy hrx=>hearlier ρ j y hj hy (.inl (meet_of hrx hr)))]
        exact cur_allR h ρ (by omega) (fun _ _=>rfl) r
      have hset:∀j,(listed.setIfInBounds i true).getD j false=if j=i then true else listed.getD j false:=by
        intro j
        by_cases e:j=i
        ·subst e;simp[hil2]
        · simp only[e,if_false,Array.getD_eq_getD_getElem?]
          rw[Array.getElem?_setIfInBounds_ne (fun e'=>e e'.symm)]
      have hnew:∀ρ,cur s0 (trAt tr ρ) (fun j=>(listed.setIfInBounds i true).getD j false) l.length=ovr (cur s0 (trAt tr ρ) (fun i=>listed.getD i false) l.length) x.W (x.s ρ):=by
        intro ρ
        funext r
        unfold ovr
        by_cases hr:r∈x.W
        · rw[if_pos hr]
          have h1:cur s0 (trAt tr ρ) (fun j=>(listed.setIfInBounds i true).getD j false) l.length r=cur s0 (trAt tr ρ) (fun j=>(listed.setIfInBounds i true).getD j false) (i+1) r:=
            cur_stop (by omega) (fun j y h1 h2 hy hrx=>by
              show (listed.setIfInBounds i true).getD j false=false
              rw[hset,if_neg (by omega)]
              exact hlater ρ j y (by omega) h2 hy (.inr (.inl (meet_of hr hrx))))
          rw[h1]
          show (match (trAt tr ρ)[i]? with |some x=>if (listed.setIfInBounds i true).getD i false=true∧r∈x.2.1 then lk x.2.2 r else _|none=>_)=_
          rw[hat' ρ h4,hset,if_pos rfl]
          simp[hr]
        · rw[if_neg hr]
          refine cur_same (fun j y hj hy hrx=>?_)
          show (listed.setIfInBounds i true).getD j false=listed.getD j false
          rw[hset,if_neg]
          rintro rfl
          rw[hat' ρ h4]at hy
          cases hy
          exact hr hrx
      have hdown':∀j o,l.toArray[j]?=some o→(listed.setIfInBounds i true).getD j false=true→∀e∈o.after,Region.binds .any e=true→(listed.setIfInBounds i true).getD e.on false=true:=by
        intro j oj hoj hl e he' hb
        rw[hset]
        split
        ·rfl
        · rw[hset]at hl
          split at hl
          ·rename_i e2;subst e2;rw[ho]at hoj;cases hoj;exact hall e he' hb
          ·exact hdown j oj hoj hl e he' hb
      have hcount':(listed.setIfInBounds i true).toList.count false=fuel:=by
        have hli:listed.toList[i]=false:=by
          simp[hil2]at hunf
          simpa using hunf
        rw[Array.toList_setIfInBounds,List.count_set (by simpa using hil2),hcount,hli]
        simp
      have hK:∀a' w',(∃ρ N bx',Facts U tr ρ N (fun j=>(listed.setIfInBounds i true).getD j false)∧SR E bx' (cur s0 (trAt tr ρ) (fun j=>(listed.setIfInBounds i true).getD j false) l.length) a' w')→wpAny P .any l.toArray Q fuel (listed.setIfInBounds i true) a' w':=
        fun a' w' h'=>ih _ a' w' (by simpa using hs) hcount' hdown' h'
      unfold wpOp
      simp only[ho]
      have hstep:OW P l.toArray o a w fun a' w'=>∃ρ N bx',Facts U tr ρ N (fun j=>(listed.setIfInBounds i true).getD j false)∧SR E bx' (cur s0 (trAt tr ρ) (fun j=>(listed.setIfInBounds i true).getD j false) l.length) a' w':=by
        unfold StepOk at h5
        cases hmk:x.mkr with
        |none=>
          rw[hmk]at h5
          refine((h5 ρ).2 E bx _ a w hE hread hsr).mono ?_
          rintro a' w' ⟨bx',h'⟩
          refine⟨ρ,N,bx',fun k y src hy hm hk=>?_,by rw[hnew];exact h'⟩
          have hki:∀ {k:Nat} {y:TrE} {src:(Nat→Prop)×(Nat→Prop)},tr[k]?=some y→y.mkr=some src→(listed.setIfInBounds i true).getD k false=true→listed.getD k false=true:=fun {k y src} hy hm hk=>by
            rw[hset]at hk
            by_cases e:k=i
            ·subst e;rw[h4]at hy;cases hy;rw[hmk]at hm;cases hm
            ·rwa[if_neg e]at hk
          obtain⟨f1,f2,f3,f4,f5⟩:=hF k y src hy hm (hki hy hm hk)
          exact⟨f1,f2,f3,f4,fun k' y' src' hy' hm' hk'=>f5 k' y' src' hy' hm' (hki hy' hm' hk')⟩
        |some src=>
          rw[hmk]at h5
          obtain⟨t1,t2,t3,t4⟩:=h5
          refine(t4 ρ E bx _ a w hE hread hsr).mono ?_
          rintro a' w' ⟨Rn,r1,r2,r3,bx',h'⟩
          have hmk':x.mkr≠none:=by rw[hmk];exact fun e=>by cases e
          have hsame:cur s0 (trAt tr (setR ρ i Rn)) (fun i=>listed.getD i false) l.length=cur s0 (trAt tr ρ) (fun i=>listed.getD i false) l.length:=by
            funext r
            have key:∀m,m≤l.length→cur s0 (trAt tr (setR ρ i Rn)) (fun i=>listed.getD i false) m r=cur s0 (trAt tr ρ) (fun i=>listed.getD i false) m r:=by
              intro m
              induction m with
              |zero=>intro _;rfl
              |succ m ihm=>
                intro hm
                obtain⟨om,hom⟩:∃om,l[m]?=some om:=⟨_,List.getElem?_eq_getElem (by omega)⟩
                obtain⟨y,hy,_⟩:=hat m om hom
                simp only[cur,hat' (setR ρ i Rn) hy,hat' ρ hy,ihm (by omega)]
                by_cases hc2:listed.getD m false=true∧r∈y.W
                · rw[if_pos hc2,if_pos hc2]
                  rcases hind m y hy i x h4 hmk' with q|q|q
                  · have hom':l.toArray[m]?=some om:=by simpa using hom
                    have:=bef_listed hdown _ m i om hom' (hdown m om hom' hc2.1) q
                    rw[hunf]at this;cases this
                  ·subst q;rw[hunf]at hc2;cases hc2.1
                  ·exact q ρ Rn r hc2.2
                ·rw[if_neg hc2,if_neg hc2]
            exact key _ (Nat.le_refl _)
          -- what is told at this moment
          have htold:∀ {r:Res} {S:Nat→Prop},(∃t,r= .t t)→cur s0 (trAt tr ρ) (fun i=>listed.getD i false) l.length r= .v (.gh S)→∀b,S b→b<w.heap.size:=by
            rintro r S ⟨t,rfl⟩ hr b hb
            exact(hsr.slot t _ hr b hb).2
          have hUt:cur s0 (trAt tr ρ) (fun i=>listed.getD i false) l.length (.t 9998)= .v (.gh U):=by
            rw[cur_stop (i:=0) (Nat.zero_le _) (fun j y _ _ hy hrx=>by
              obtain⟨x',hx',rfl⟩:=hof ρ hy
              exact absurd hrx (hgh j x' hx').1)]
            exact hU
          have hgt:∀ {k:Nat} {y:TrE} {src':(Nat→Prop)×(Nat→Prop)},tr[k]?=some y→y.mkr=some src'→listed.getD k false=true→cur s0 (trAt tr ρ) (fun i=>listed.getD i false) l.length (ghR k)= .v (.gh (un (ρ k))):=fun {k y src'} hy hm hk=>by
            have hkl:k<l.length:=by have:=(List.getElem?_eq_some_iff.1 hy).1;omega
            have hne:y.mkr≠none:=by rw[hm];exact fun e=>by cases e
            rw[cur_stop (i:=k+1) (by omega) (fun j z h1 h2 hz hrx=>by
              obtain⟨x',hx',rfl⟩:=hof ρ hz
              exact absurd hrx ((hgh j x' hx').2 k y hy hne (by omega)))]
            obtain⟨ok,hok⟩:∃ok,l[k]?=some ok:=⟨_,List.getElem?_eq_getElem hkl⟩
            obtain⟨y',hy',h6⟩:=hat k ok hok
            rw[hy]at hy';cases hy'
            unfold StepOk at h6
            rw[hm,Nat.zero_add]at h6
            simp only[cur,hat' ρ hy]
            rw[if_pos ⟨hk,h6.2.1⟩]
            exact h6.2.2.1 ρ
          refine⟨setR ρ i Rn,fun k=>if k=i then(fun b=>un Rn b∧w.heap.size≤b)else N k,bx',fun k y srck hy hm hk=>?_,by rw[hnew,hsame];exact h'⟩
          have hlisted:∀ {k:Nat},k≠i→(listed.setIfInBounds i true).getD k false=true→listed.getD k false=true:=fun {k} e hk=>by rw[hset,if_neg e]at hk;exact hk
          by_cases e:k=i
          · subst e
            rw[h4]at hy;cases hy
            rw[hmk]at hm;cases hm
            simp only[setR_same,if_pos]
            refine⟨fun j b hb=>⟨(r1 j b hb).imp id fun h=>⟨⟨j,hb⟩,h⟩,r3 j b hb⟩,r2,fun b hb=>hb.1,fun b hb hUb=>by have:=htold ⟨_,rfl⟩ hUt b hUb;omega,fun k' y' src' hy' hm' hk' hne b hb hNk=>?_⟩
            rw[if_neg hne]at hNk
            obtain⟨_,_,f3,_,_⟩:=hF k' y' src' hy' hm' (hlisted hne hk')
            have:=htold ⟨_,rfl⟩ (hgt hy' hm' (hlisted hne hk')) b (f3 b hNk)
            omega
          · obtain⟨f1,f2,f3,f4,f5⟩:=hF k y srck hy hm (hlisted e hk)
            rw[setR_other _ _ e]
            simp only[if_neg e]
            refine⟨f1,f2,f3,f4,fun k' y' src' hy' hm' hk' hne b hb hNk=>?_⟩
            by_cases e2:k'=i
            · subst e2
              rw[if_pos rfl]at hNk
              have:=htold ⟨_,rfl⟩ (hgt hy hm (hlisted e hk)) b (f3 b hb)
              omega
            · rw[if_neg e2]at hNk
              exact f5 k' y' src' hy' hm' (hlisted e2 hk') hne b hb hNk
      have hq:=(hstep.mono hK) Q
      split
      ·rename_i hw;rw[if_pos hw]at hq;exact .inl hq
      ·rename_i hw;rw[if_neg hw]at hq;exact hq
end
def RunRK (P:Program) (n:Nat) (ops:Array Oper) (i:Nat) (l:List Oper) (σ:Rho→St) (acc:List TrE) (G:List TrE→(Rho→St)→Prop):Prop:=∃tr σ',RunR P n ops i l σ tr σ'∧G (acc++tr) σ'
def IndR (ops:Array Oper) (i:Nat):Nat→List TrE→Prop
  |_,[]=>True
  |k,y::t=>(bef ops ops.size k i=true∨k=i∨∀(ρ:Rho) (R:Nat→Nat→Prop),y.W.map (lk (y.s (setR ρ i R)))=y.W.map (lk (y.s ρ)))∧IndR ops i (k+1) t
def IndA (ops:Array Oper) (tr:List TrE):Nat→List TrE→Prop
  |_,[]=>True
  |i,x::t=>(match x.mkr with |none=>True|some _=>IndR ops i 0 tr)∧IndA ops tr (i+1) t
theorem IndR.at {ops:Array Oper} {i:Nat}:∀ {tr:List TrE} {k0 k:Nat} {y:TrE},IndR ops i k0 tr→tr[k]?=some y→bef ops ops.size (k0+k) i=true∨k0+k=i∨∀(ρ:Rho) (R:Nat→Nat→Prop),∀r∈y.W,lk (y.s (setR ρ i R)) r=lk (y.s ρ) r
  |[],_,_,_,_,h=>by simp at h
  |z::t,k0,0,y,h,hy=>by
    simp only[List.getElem?_cons_zero,Option.some.injEq]at hy
    subst hy
    refine h.1.imp id fun h=>h.imp id fun h ρ R r hr=>?_
    obtain⟨q,hq⟩:=List.mem_iff_getElem?.1 hr
    have:=congrArg (fun l=>l[q]?) (h ρ R)
    simp only[List.getElem?_map,hq,Option.map_some,Option.some.injEq]at this
    exact this
  |z::t,k0,k+1,y,h,hy=>by
    have:=IndR.at h.2 (by simpa using hy)
    rwa[show k0+1+k=k0+(k+1)by omega]at this
theorem IndA.at {ops:Array Oper} {tr:List TrE}:∀ {t:List TrE} {i0 i:Nat} {x:TrE},IndA ops tr i0 t→t[i]?=some x→x.mkr≠none→IndR ops (i0+i) 0 tr
  |[],_,_,_,_,h,_=>by simp at h
  |z::t,i0,0,x,h,hx,hm=>by
    simp only[List.getElem?_cons_zero,Option.some.injEq]at hx
    subst hx
    have h1:=h.1
    cases hz:z.mkr with
    |none=>exact absurd hz hm
    |some s=>rw[hz]at h1;exact h1
  |z::t,i0,i+1,x,h,hx,hm=>by
    have:=IndA.at h.2 (by simpa using hx) hm
    rwa[show i0+1+i=i0+(i+1)by omega]at this
theorem ind_of {ops:Array Oper} {tr:List TrE} (h:IndA ops tr 0 tr):Ind ops tr:=fun k y hy i x hx hm=>by
  have h1:=(h.at hx hm).at hy
  rw[Nat.zero_add,Nat.zero_add]at h1
  exact h1
def ghoB:Nat→List TrE→Bool
  |_,[]=>true
  |k,y::t=>y.W.all (fun r=>match r with | .t m=> !(Nat.beq m 9998)&&(Nat.blt m 20000||Nat.beq m (20000+k))|_=>true)&&ghoB (k+1) t
theorem ghoB_at:∀ {t:List TrE} {k0 k:Nat} {y:TrE},ghoB k0 t=true→t[k]?=some y→∀m,Res.t m∈y.W→m≠9998∧(m<20000∨m=20000+(k0+k))
  |[],_,_,_,_,h,_,_=>by simp at h
  |z::t,k0,0,y,h,hy,m,hm=>by
    simp only[List.getElem?_cons_zero,Option.some.injEq]at hy
    subst hy
    rw[ghoB,Bool.and_eq_true]at h
    have:=List.all_eq_true.1 h.1 _ hm
    simp only[Bool.and_eq_true,Bool.or_eq_true,Bool.not_eq_true']at this
    exact⟨fun e=>by subst e;simp at this,this.2.imp (fun h=>by simpa using h) fun h=>by rw[Nat.add_zero];exact Nat.eq_of_beq_eq_true h⟩
  |z::t,k0,k+1,y,h,hy,m,hm=>by
    rw[ghoB,Bool.and_eq_true]at h
    have:=ghoB_at h.2 (by simpa using hy) m hm
    exact⟨this.1,this.2.imp id fun h=>by omega⟩
theorem gho_of {tr:List TrE} (h:ghoB 0 tr=true):Gho tr:=fun k y hy=>by
  refine⟨fun hm=>((ghoB_at h hy _ hm).1 rfl).elim,fun i x hx hne hki hm=>?_⟩
  have:=(ghoB_at h hy _ hm).2
  omega
section
variable {P : Program} {n : Nat} {ops : Array Oper} {l : List Oper} {o : Oper} {i : Nat} {σ σ' : Rho → St} {R W : List Res} {acc : List TrE} {G : List TrE → (Rho → St) → Prop}
theorem RunRK.nil (h:G acc σ):RunRK P n ops i [] σ acc G:=⟨[],σ,.nil i σ,by rw[List.append_nil];exact h⟩
theorem RunRK.cons (h:∀ρ,St1 P n ops o (σ ρ) R W (σ' ρ)) (k:RunRK P n ops (i+1) l σ' (acc++[⟨R,W,σ',none⟩]) G):RunRK P n ops i (o::l) σ acc G:=by
  obtain⟨tr,σ2,h1,h2⟩:=k
  exact⟨_,σ2,.cons h h1,by simpa using h2⟩
theorem TStep.call {d:Nat} {fo:Operand} {ar:Array Operand} {ts:Array TypeId} (xs:List Operand) {vs:List V1} {f:FuncId} {cap:List (List D)} {src:Nat→Prop} {r:TRes}
    (h4:(o.op,o.guard,o.dst,Nat.blt d n&&Nat.blt d 9000)=(Op.call {callee:=.value fo,args:=ar,argTypes:=ts},none,some d,true)) (has:ar=xs.toArray) (hfo:∀ρ,ev (σ ρ) fo=some (.o (.c (.fn f cap)))) (hx:∀ρ,evL (σ ρ) xs=some vs)
    (hF:FnT P f (vs++cap.map fun c=>.c (.ptr c)) src r) (href:noRefs vs=true) (hok:r.ok=true) (hsrc:∀b,src b→∃x∈vs,∃S,HasV S (.o x)∧S b) (hcall:callable P f=true):
    TStep P n ops o i σ (rd fo++rdL xs) [.t d,ghR i] (fun ρ=>(.t d,.v (vT (ρ i) r))::(ghR i,.v (.gh (un (ρ i))))::σ ρ) (src,r.pos):=by
  simp only[Prod.mk.injEq,Bool.and_eq_true]at h4
  obtain⟨ho,hg,hd,hn,hd9⟩:=h4
  have hd9':d<9000:=by simpa using hd9
  refine⟨fun ρ q hq=>?_,by simp,fun ρ=>?_,fun ρ E bx τ a w hE hR hs=>OW.plain hg fun Q=>?_⟩
  · rw[List.mem_cons,List.mem_singleton,not_or]at hq
    rw[lk_other _ _ _ _ (fun e=>hq.1 e.symm),lk_other _ _ _ _ (fun e=>hq.2 e.symm)]
  ·rw[lk_other _ _ _ _ (by simp;omega),lk_same]
  · have hR1:∀q∈rd fo,τ q=lk (σ ρ) q:=rd_l hR
    have hR2:∀q∈rdL xs,τ q=lk (σ ρ) q:=rd_r hR
    obtain⟨cvs,hfe,hcl,hcv⟩:=fnx_ok (bx:=bx) (al:=Al τ) (show fnx (.fn f cap)=some (f,cap.map fun c=>.c (.ptr c))from rfl) (ev_ok (hfo ρ) hR1 hs).1
    obtain⟨⟨q1,q2⟩,_⟩:=evL_ok (hx ρ) hR2 hs
    subst has
    have hvals:Vals (V1r (fun _=>(0,0)) (fun _=>False) (fun _=>True) w) (vs++cap.map fun c=>.c (.ptr c)) (xs.map a.eval++cvs):=by
      refine⟨by rw[List.length_append,q1,hcl,List.length_append],fun i x v hx hv=>?_⟩
      rw[List.getElem?_append]at hx hv
      by_cases hi:i<vs.length
      · rw[if_pos hi]at hx
        rw[if_pos (by rw[q1];exact hi)]at hv
        exact(q2 i x v hx hv).to (Same.refl _ _) (fun _ _ _=>trivial) (fun k hk=>by rw[noRefs_at href (List.mem_of_getElem? hx)]at hk;cases hk)
      · rw[if_neg hi]at hx
        rw[if_neg (by rw[q1];exact hi),q1]at hv
        refine(hcv _ _ v hx hv).to (Same.refl _ _) (fun _ _ _=>trivial) (fun k hk=>?_)
        obtain⟨c,_,rfl⟩:=List.mem_map.1 (List.mem_of_getElem? hx)
        cases hk
    unfold Oper.wp
    rw[run_callV hcall ho hfe w,Oper.upon_enter,hd,show xs.toArray.map a.eval++cvs.toArray=(xs.map a.eval++cvs).toArray by simp]
    refine(hF.full hok w _ hvals).mono ?_
    rintro e w' ⟨v,Rn,rfl,hb,h1,h2,hps,h3⟩
    have hlt:∀j b,Rn j b→b<w'.heap.size:=fun j b hj=>(hps j b hj).1
    have hs':=hs.world hb
    have hbf:∀j b,Rn j b→Bf E bx τ b:=fun j b hj=>by
      rcases h1 j b hj with h|h
      · obtain⟨x,hx1,S,hS,hSb⟩:=hsrc b h
        obtain⟨q,hq⟩:=List.mem_iff_getElem?.1 hx1
        have hql:=(List.getElem?_eq_some_iff.1 hq).1
        exact(hS.lt (q2 q x _ hq (List.getElem?_eq_getElem (by omega))) b hSb).1
      ·exact⟨.inr (Nat.le_trans hs.hsize h),fun k hk e=>by have:=hs.lt hk;omega⟩
    have hp0:=hs'.tell (t:=20000+i) (x:=.gh (un Rn)) (fun b ⟨j,hj⟩=>⟨hbf j b hj,hlt j b hj⟩) (fun k hk=>by cases hk)
    have hp:=hp0.put (d:=d) (by rw[hE];simpa using hn) (vT_to (bx':=bx) (al':=Al (upd τ (ghR i) (.v (.gh (un Rn))))) (B':=Bf E bx (upd τ (ghR i) (.v (.gh (un Rn))))) hok h3 (fun j b hj=>by rw[Bf_upd_t];exact hbf j b hj)) (fun k hk=>by rw[vT_refs]at hk;cases hk)
    refine⟨Rn,h1,h2,fun j b hj=>(hps j b hj).2,bx,?_⟩
    show SR E bx (ovr τ [.t d,ghR i] ((.t d,.v (vT (setR ρ i Rn i) r))::(ghR i,.v (.gh (un (setR ρ i Rn i))))::σ (setR ρ i Rn))) (a.put (some d) v) w'
    rw[setR_same]
    have e1:ovr τ [.t d,ghR i] ((.t d,.v (vT Rn r))::(ghR i,.v (.gh (un Rn)))::σ (setR ρ i Rn))=upd (upd τ (ghR i) (.v (.gh (un Rn)))) (.t d) (.v (vT Rn r)):=by
      funext q
      unfold ovr
      by_cases e1:q= .t d
      ·subst e1;rw[if_pos (by simp),lk_same,upd_same]
      · rw[upd_other _ _ e1]
        by_cases e2:q=ghR i
        ·subst e2;rw[if_pos (by simp),lk_other _ _ _ _ (fun e=>e1 e.symm),lk_same,upd_same]
        ·rw[if_neg (by simp[e1,e2]),upd_other _ _ e2]
    rw[e1]
    exact hp
theorem RunRK.cT {d:Nat} {fo:Operand} {ar:Array Operand} {ts:Array TypeId} (xs:List Operand) {vs:List V1} {f:FuncId} {cap:List (List D)} {src:Nat→Prop} {r:TRes}
    (h4:(o.op,o.guard,o.dst,Nat.blt d n&&Nat.blt d 9000)=(Op.call {callee:=.value fo,args:=ar,argTypes:=ts},none,some d,true)) (has:ar=xs.toArray) (hfo:∀ρ,ev (σ ρ) fo=some (.o (.c (.fn f cap)))) (hx:∀ρ,evL (σ ρ) xs=some vs)
    (hF:FnT P f (vs++cap.map fun c=>.c (.ptr c)) src r) (href:noRefs vs=true) (hok:r.ok=true) (hsrc:∀b,src b→∃x∈vs,∃S,HasV S (.o x)∧S b)
    (k:RunRK P n ops (i+1) l (fun ρ=>(.t d,.v (vT (ρ i) r))::(ghR i,.v (.gh (un (ρ i))))::σ ρ) (acc++[⟨rd fo++rdL xs,[.t d,ghR i],fun ρ=>(.t d,.v (vT (ρ i) r))::(ghR i,.v (.gh (un (ρ i))))::σ ρ,some (src,r.pos)⟩]) G) (hcall:callable P f=true:=by kernel_rfl):RunRK P n ops i (o::l) σ acc G:=by
  obtain⟨tr,σ2,h1,h2⟩:=k
  exact⟨_,σ2,.mk (TStep.call xs h4 has hfo hx hF href hok hsrc hcall) h1,by simpa using h2⟩
end
theorem nosrcV {vs:List V1}:∀b,none' b→∃x∈vs,∃S,HasV S (.o x)∧S b:=fun _ h=>h.elim
theorem ACode.drawT {P:Program} {n:Nat} {K:Exit→St→Prop} {σ:St} {id:Nat} {l:List Oper} (hm:P.follows .mixedOrders=true) (he:edgesOk l.toArray 0 l=true)
    (h:∀U:Nat→Prop,RunRK P n l.toArray 0 l (fun _=>(.t 9998,.v (.gh U))::σ) [] fun tr σ1=>((∀ρ,chk l.toArray 0 (trAt tr ρ)=true)∧IndA l.toArray tr 0 tr∧ghoB 0 tr=true)∧∀ρ N,Facts U tr ρ N (fun _=>true)→(∀S,Has σ S→∀b,S b→U b)→K .normal (σ1 ρ)):ACode P n (.region id l.toArray true) K σ:=by
  intro E bx a w hE hs
  refine wp_region_any hm ?_
  obtain⟨U,hU⟩:∃U:Nat→Prop,U=fun b=>Bf E bx (lk σ) b∧b<w.heap.size:=⟨_,rfl⟩
  have hs0:SR E bx (lk ((.t 9998,.v (.gh U))::σ)) a {w with drawn:=w.drawn+1}:=by
    rw[lk_cons]
    exact hs.drew.tell (t:=9998) (x:=.gh U) (fun b hb=>by rw[hU]at hb;exact hb) (fun k hk=>by cases hk)
  obtain⟨tr,σ1,h1,⟨h2,h3,h4⟩,h5⟩:=h U
  have hcur:∀ρ,cur ((.t 9998,.v (.gh U))::σ) (trAt tr ρ) (fun i=>(Array.replicate l.length false).getD i false) l.length=lk ((.t 9998,.v (.gh U))::σ):=by
    intro ρ
    funext r
    refine(cur_stop (i:=0) (Nat.zero_le _) (fun j x _ hj _ _=>?_)).trans rfl
    simp[hj]
  simp only[List.nil_append]at h2 h3 h4 h5
  refine wpAny_runR h1 h2 he (ind_of h3) (gho_of h4) (by rw[lk_same]) hE (fun ρ N bx' a' w' hF hs'=>⟨σ1 ρ,bx',h5 ρ N hF (fun S hS b hb=>by rw[hU];exact hs.has hS b hb),hs'⟩) _ _ a _ (by simp) (by simp) (fun j o ho hl=>?_) ⟨fun _ _ _=>False,fun _ _=>False,bx,fun i x src hx _ hi=>?_,?_⟩
  · have hj:j<l.length:=by have:=(Array.getElem?_eq_some_iff.1 ho).1;simpa using this
    simp[hj]at hl
  · by_cases hil:i<l.length
    ·simp[hil]at hi
    ·simp[hil]at hi
  · have:(Array.replicate l.toArray.size false)=Array.replicate l.length false:=by simp
    rw[this,hcur]
    exact hs0
theorem Facts.hR {U:Nat→Prop} {tr:List TrE} {ρ:Rho} {N:Nat→Nat→Prop} {σ:St} (hF:Facts U tr ρ N fun _=>true) (hU:∀S,Has σ S→∀b,S b→U b) (i:Nat) {x:TrE} {src:(Nat→Prop)×(Nat→Prop)} (hx:tr[i]?=some x) (hm:x.mkr=some src):
    (∀j b,ρ i j b→src.1 b∨∀S,Has σ S→¬S b)∧(∀j k b,ρ i j b→ρ i k b→j=k)∧∀j b,ρ i j b→src.2 j:=by
  obtain⟨f1,f2,_,f4,_⟩:=hF i x src hx hm rfl
  exact⟨fun j b hj=>(f1 j b hj).1.imp id fun h S hS hb=>f4 b h (hU S hS b hb),f2,fun j b hj=>(f1 j b hj).2⟩
theorem Facts.two {U:Nat→Prop} {tr:List TrE} {ρ:Rho} {N:Nat→Nat→Prop} (hF:Facts U tr ρ N fun _=>true) (i k:Nat) {x y:TrE} {src src':(Nat→Prop)×(Nat→Prop)} (hx:tr[i]?=some x) (hm:x.mkr=some src) (hy:tr[k]?=some y) (hm':y.mkr=some src') (hne:Nat.beq k i=false)
    (h1:∀b,src.1 b→U b) (h2:∀b,src'.1 b→U b):∀j j' b,ρ i j b→ρ k j' b→src.1 b∧src'.1 b:=by
  intro j j' b hi hk
  have hne':k≠i:=fun e=>by subst e;simp at hne
  obtain⟨f1,_,_,f4,f5⟩:=hF i x src hx hm rfl
  obtain⟨g1,_,_,g4,_⟩:=hF k y src' hy hm' rfl
  rcases (f1 j b hi).1 with a1|a1
  · rcases (g1 j' b hk).1 with a2|a2
    ·exact⟨a1,a2⟩
    ·exact absurd (h1 b a1) (g4 b a2)
  · rcases (g1 j' b hk).1 with a2|a2
    ·exact absurd (h2 b a2) (f4 b a1)
    ·exact absurd a2 (f5 k y src' hy hm' rfl hne' b a1)
def Bxs (w:World) (l:List (Nat×TypeId×List Value)):Prop:=∀b∈l,w.heap[b.1]?=some (.cells b.2.2.toArray b.2.1 (0,0))
section
variable {w w' : World} {l : List (Nat × TypeId × List Value)}
theorem Bxs.lt (h:Bxs w l) {b:Nat×TypeId×List Value} (hb:b∈l):b.1<w.heap.size:=(Array.getElem?_eq_some_iff.1 (h b hb)).1
theorem Bxs.fwd (h:Bxs w l) (hb:Below w.heap.size w w'):Bxs w' l:=fun b hm=>(hb.block _ (h.lt hm)).trans (h b hm)
theorem Bxs.mark {S:Nat→Prop} (h:Bxs w l) (hm:Marked S w w') (hS:∀b∈l,¬S b.1):Bxs w' l:=fun b hb=>(hm.old _ (h.lt hb) (hS b hb)).trans (h b hb)
theorem Bxs.add (h:Bxs w l) (us:List Value) (e:TypeId):Bxs (w.alloc (.cells us.toArray e)) ((w.heap.size,e,us)::l):=fun b hb=>by
  rcases List.mem_cons.1 hb with rfl|hb
  ·exact heap_alloc_new w _
  ·exact h.fwd ((Below.refl _ _).alloc (Nat.le_refl _) _) b hb
theorem Bxs.c (h:Bxs w l) (i:Nat) {b:Nat×TypeId×List Value} (hb:l[i]?=some b) (j:Nat) {v:Value} (hv:b.2.2[j]?=some v):w.cell? ⟨b.1,j,none⟩=some v:=by
  rw[cell_of_row w _ _ _ _ _ (h b (List.mem_of_getElem? hb)),List.getElem?_toArray];exact hv
end
def Drs (B:Nat→Prop) (w:World) (ds:List D) (vs:List Value):Prop:=vs.length=ds.length∧∀(i:Nat) d u,ds[i]?=some d→vs[i]?=some u→Dr B w d u
section
variable {B B' : Nat → Prop} {w w' : World} {ds : List D} {vs : List Value}
theorem Drs.v {bx:Nat→Nat×Nat} {al:Nat→Prop} (h:Drs B w ds vs):V1r bx al B w (ad ds) (.agg vs.toArray):=⟨vs,rfl,by rw[h.1,List.length_map],fun i c u hc hu=>by
  rw[List.getElem?_map]at hc
  cases hx:ds[i]? with
  |none=>rw[hx]at hc;cases hc
  |some x=>rw[hx]at hc;cases hc;exact h.2 i x u hx hu⟩
theorem Drs.same (h:Drs B w ds vs) (hs:Same B w w'):Drs B w' ds vs:=⟨h.1,fun i d u hd hu=>(h.2 i d u hd hu).frame hs⟩
theorem Drs.fwd (h:Drs B w ds vs) (hb:Below w.heap.size w w'):Drs B w' ds vs:=h.same (below_sameAll hb _)
theorem Drs.lo {n:Nat} (h:Drs (fun b=>b<n) w ds vs) (hb:Below n w w'):Drs (fun b=>b<n) w' ds vs:=h.same fun b hl _=>hb.block b hl
theorem Drs.mono (h:Drs B w ds vs) (hs:∀b,B b→b<w.heap.size→B' b):Drs B' w ds vs:=⟨h.1,fun i d u hd hu=>(h.2 i d u hd hu).mono hs⟩
theorem DrNs.drs {lo:Nat} (h:DrNs lo w ds vs):Drs (fun _=>True) w ds vs:=⟨h.1,fun i d u hd hu=>(h.2 i d u hd hu).dr.mono fun _ _ _=>trivial⟩
theorem DrNs.k {lo:Nat} {S:Nat→Prop} (h:DrNs lo w ds vs) (hS:∀b,lo≤b→b<w.heap.size→S b):DrKs w S ds vs:=⟨h.1,fun i d u hd hu=>(h.2 i d u hd hu).k hS⟩
theorem DrUs.drs {S:Nat→Prop} (h:DrUs w S ds vs):Drs (fun _=>True) w ds vs:=⟨h.1,fun i d u hd hu=>(h.dr hd hu).mono fun _ _ _=>trivial⟩
end
theorem Fn.callsS {P:Program} {f:FuncId} {args:List V1} {ds:List D} {b:Bool} {vs:List Value} {w:World} {B:Nat→Prop} (h:Fn P f [] args (.tup [ad ds,bo1 b]) []) (hv:Vals (V1r bx0 al0 B w) args vs):
    Calls P f vs.toArray w fun e w'=>∃ys:List Value,e= .returned (.tuple #[.agg ys.toArray,.bool b])∧Below w.heap.size w w'∧Drs (fun c=>c<w'.heap.size) w' ds ys:=by
  refine(h.calls hv).mono ?_
  rintro e w' ⟨⟨v,B',rfl,us,rfl,hl,hx⟩,hb⟩
  obtain⟨u0,l0,rfl,h0⟩:=len_cons (show us.length=1+1 from hl)
  obtain⟨u1,l1,rfl,h1⟩:=len_cons (show l0.length=0+1 from h0)
  obtain rfl:=len_zero h1
  obtain⟨ys,rfl,hyl,hy⟩:=hx 0 (ad ds) u0 rfl rfl
  have hb1:Dr _ w' (.val (.bool b)) u1:=hx 1 (bo1 b) u1 rfl rfl
  cases hb1
  refine⟨ys,rfl,hb,by rw[hyl,List.length_map],fun i d u hd hu=>?_⟩
  exact Dr.mono (fun c _ hc=>hc) (hy i (.d d) u (by rw[List.getElem?_map,hd];rfl) hu)
theorem FnT.callsS {P:Program} {f:FuncId} {args:List V1} {ds:List D} {b:Bool} {vs:List Value} {w:World} (h:FnT P f args none' (.strB ds b)) (hok:ds.all noTree=true) (hn:∀v,D.val v∈ds→nsl v=true)
    (hv:Vals (V1r (fun _=>(0,0)) (fun _=>False) (fun _=>True) w) args vs):
    Calls P f vs.toArray w fun e w'=>∃(gs:List Value) (S:Nat→Prop),e= .returned (.tuple #[.agg gs.toArray,.bool b])∧Below w.heap.size w w'∧(∀c,S c→w.heap.size≤c∧c<w'.heap.size)∧DrUs w' S ds gs:=by
  refine(h.full hok w vs hv).mono ?_
  rintro e w' ⟨v,R,rfl,hb,h1,h2,h3,us,rfl,hl,hx⟩
  obtain⟨u0,l0,rfl,h0⟩:=len_cons (show us.length=1+1 from hl)
  obtain⟨u1,l1,rfl,hl1⟩:=len_cons (show l0.length=0+1 from h0)
  obtain rfl:=len_zero hl1
  obtain⟨gs,rfl,hgl,hg⟩:=hx 0 (ad (tagL R 0 ds)) u0 rfl rfl
  have hb1:Dr _ w' (.val (.bool b)) u1:=hx 1 (bo1 b) u1 rfl rfl
  cases hb1
  refine⟨gs,un R,rfl,hb,fun c ⟨j,hj⟩=>⟨(h1 j c hj).resolve_left id,(h3 j c hj).1⟩,by rw[hgl,List.length_map,tagL_len],R,fun j c hc=>⟨j,hc⟩,fun j j' c=>h2 j j' c,fun j d u hd hu=>?_⟩
  have h4:Dr _ w' (tg (R j) d) u:=hg j (.d (tg (R j) d)) u (by rw[List.getElem?_map,tagL_at hd,Nat.zero_add];rfl) hu
  cases d with
  |val v=>cases h4;exact .val _ _ (hn _ (List.mem_of_getElem? hd))
  |list sz rows=>cases h4 with |tree _ _ _ _ _ h=>exact h
  |tree S x=>exact absurd (List.all_eq_true.1 hok _ (List.mem_of_getElem? hd)) (by simp[noTree])
theorem e0_drs {w:World} {B:Nat→Prop} {ds:List D} {v:Value} (h:V1r bx0 al0 B w (ad ds) v):∃us,v= .agg us.toArray∧Drs B w ds us:=by
  obtain⟨vs,rfl,hl,h⟩:=h
  exact⟨vs,rfl,by rw[hl,List.length_map],fun i d u hd hu=>h i (.d d) u (by rw[List.getElem?_map,hd];rfl) hu⟩
theorem heldArrs {l:List Arr} (hl:l.length≤17592186044416) (h:∀x∈l,x.2.length≤17592186044416):HeldF Tryz.prog 36 (dRs l):=fun k h0 h1=>heldArrayS_u (l.map rR) (fun r hr=>by obtain⟨a,ha,rfl⟩:=List.mem_map.1 hr;exact⟨_,_,rfl,heldInts (h a ha)⟩) h0 h1 (by rw[List.length_map];exact hl)
theorem heldLps {l:List Lp} (h:szLs l≤1073741824):HeldF Tryz.prog 76 (dLs l):=fun k h0 h1=>heldLoopS_u (l.map rL) (fun r hr=>by
  obtain⟨a,ha,rfl⟩:=List.mem_map.1 hr
  have h2:=szLs_mem ha
  rw[szL]at h2
  exact⟨_,_,rfl,heldAffs (by omega),heldAffs (by omega)⟩) h0 h1 (by rw[List.length_map];rw[szLs]at h;omega)
theorem heldStms {l:List Stm} (hl:l.length≤17592186044416) (h:∀x∈l,szS x≤1073741824):HeldF Tryz.prog 77 (dMs l):=fun k h0 h1=>heldStmtS_u (l.map rS) (fun r hr=>by
  obtain⟨x,hx,rfl⟩:=List.mem_map.1 hr
  have h2:=h x hx
  have hz:szS x=szC x.1+szE x.2:=by rw[szS]
  have hz2:szAs x.1.2≤szC x.1:=by rw[szC];omega
  have hz3:=szE_eq x.2
  have hz4:szAs x.2.r.2≤szC x.2.r:=by rw[szC];omega
  exact⟨_,_,_,_,_,_,_,_,_,rfl,heldAffs (by omega),heldInts (by omega),heldAffs (by omega),heldExs (szE x.2) (fun e he=>by have:=szEs_mem he;have:=List.length_pos_of_mem he;omega) (by omega) (by omega)⟩) h0 h1 (by rw[List.length_map];exact hl)
theorem heldPts {l:List Prt} (hl:l.length≤17592186044416) (h:∀x∈l,szLs x.1≤1073741824∧x.2.length≤17592186044416∧∀y∈x.2,szS y≤1073741824):HeldF Tryz.prog 37 (dPts l):=fun k h0 h1=>heldPartS_u (l.map rP) (fun r hr=>by
  obtain⟨x,hx,rfl⟩:=List.mem_map.1 hr
  obtain⟨g1,g2,g3⟩:=h x hx
  exact⟨_,_,rfl,heldLps g1,heldStms g2 g3⟩) h0 h1 (by rw[List.length_map];exact hl)
theorem heldPrg_fn1 (g:Prg) (q0:HeldF Tryz.prog 36 (dRs g.1)) (q1:HeldF Tryz.prog 37 (dPts g.2)) {k:Int} (hk0:0≤k) (hk1:k+((wgt (dRs g.1):Nat)+(wgt (dPts g.2):Nat))≤4611686018427387904):Fn Tryz.prog 12 [] [ad [mkD mTx k (dRs g.1),mkD mTx (k+(wgt (dRs g.1):Nat)) (dPts g.2)],nat1 k] (.o (nat1 (k+(wgt (dRs g.1):Nat)+(wgt (dPts g.2):Nat)))) []:=by
  refine Fn.code0 Tryz.func12 rfl rfl rfl rfl ?_
  refine .r<|.c .bp<|.c .a<|.r<|.c (.fP 0 0 false)<|.c (.l1 1)<|.c .m ?_
  refine .c (.cP [.tmp 6,.tmp 7] rfl rfl rfl rfl (q0 k hk0 (by omega)) rfl) ?_
  refine .c .a<|.nn<|.seq<|.r<|.c .m<|.c .ls<|.nn ?_
  refine .cD rfl (fun h10=>?_) (fun h10=>?_)
  · skip
    omega
  · skip
    refine .skip<|ks_n<|.r<|.c (.fP 1 0 false)<|.c (.l1 1)<|.c .m ?_
    refine .c (.cP [.tmp 12,.tmp 13] rfl rfl rfl rfl (q1 _ (by omega) (by omega)) rfl) ?_
    refine .c .a<|.nn<|.seq<|.r<|.c .m<|.c .ls<|.nn ?_
    refine .cD rfl (fun h16=>?_) (fun h16=>?_)
    · skip
      omega
    · skip
      refine .skip<|ks_n<|.r<|.c .m<|.c .a<|.nn<|.ret ?_
      refine kf_ret rfl ?_ nobox
      rfl
theorem heldG_fn (g:Prg) (q0:HeldF Tryz.prog 36 (dRs g.1)) (q1:HeldF Tryz.prog 37 (dPts g.2)) (hk:wgtV (rG g)≤4611686018427387000):Fn Tryz.prog 12 [] [ad (mkV mTx 1 (rG g)),nat1 1] (.o (nat1 (1+(wgtV (rG g):Nat)))) []:=by
  have e:wgtV (rG g)=wgt (dRs g.1)+wgt (dPts g.2):=rfl
  have h:=heldPrg_fn1 g q0 q1 (k:=1) (by omega) (by omega)
  have e2:(1:Int)+(wgtV (rG g):Nat)=1+(wgt (dRs g.1):Nat)+(wgt (dPts g.2):Nat):=by rw[e];omega
  rw[e2]
  exact h
theorem tm_at {α β:Type} {l:List α} {fn:α→β} {i q:Nat} (hi:i≤l.length) (hq:q<i):∃y∈l,((l.take i).map fn)[q]?=some (fn y):=by
  have h:l[q]?=some l[q]:=List.getElem?_eq_getElem (by omega)
  exact⟨l[q],List.getElem_mem _,by rw[List.getElem?_map,List.getElem?_take,if_pos hq,h];rfl⟩
def noF:Nat→Nat→Nat→Prop:=fun _ _ _=>False
section
variable {α : Type} {fn : α → List D} {l : List α} {i : Nat} {x : α} {F : Nat → Nat → Nat → Prop} {R : Nat → Nat → Prop}
theorem dR_tagT (hx:l[i]?=some x):dR (tagRs F 0 ((l.take i).map fn))++[(tagL R 0 (fn x)).map C.d]=dR (tagRs (nextF F i R) 0 ((l.take (i+1)).map fn)):=by
  have hil:=(List.getElem?_eq_some_iff.1 hx).1
  have hl:((l.take i).map fn).length=i:=by rw[List.length_map,List.length_take];omega
  rw[List.take_add_one,hx,List.map_append]
  have:=tagRs_snoc (F:=F) (R:=R) (l:=(l.take i).map fn) (r:=fn x)
  rw[hl]at this
  show _=dR (tagRs (nextF F i R) 0 ((l.take i).map fn++[fn x]))
  rw[this,dR,dR,List.map_append];rfl
theorem dR_tag0 (hx:l[0]?=some x):[(tagL R 0 (fn x)).map C.d]=dR (tagRs (nextF F 0 R) 0 ((l.take (0+1)).map fn)):=by
  have:=dR_tagT (fn:=fn) (F:=F) (R:=R) hx
  rw[←this];rfl
theorem isPos_lt {rows:List (List D)} {i j:Nat} (h:isPos rows i j):i<rows.length:=by
  obtain⟨r,m,rs,h1,_⟩:=h
  exact(List.getElem?_eq_some_iff.1 h1).1
theorem isPos_L {L:Nat→Prop} (hL:∀(y:α) j m rs,(fn y)[j]?=some (.list m rs)→L j) {i j:Nat} (h:isPos (l.map fn) i j):L j:=by
  obtain⟨r,m,rs,h1,h2⟩:=h
  rw[List.getElem?_map]at h1
  cases hy:l[i]? with
  |none=>rw[hy]at h1;cases h1
  |some y=>rw[hy]at h1;cases h1;exact hL y j m rs h2
theorem FD.pos {O L:Nat→Prop} {rows:List (List D)} {n:Nat} (h:FD O L n F) (hn:rows.length=n) (hL:∀i j,isPos rows i j→L j):∀i j i' j' b,isPos rows i j→isPos rows i' j'→F i j b→F i' j' b→i=i'∧j=j':=fun i j i' j' b h1 h2 h3 h4=>
  h.dis i j i' j' b (hn▸isPos_lt h1) (hn▸isPos_lt h2) (hL i j h1) (hL i' j' h2) h3 h4
theorem Pk.out {σ:St} {k:Nat} {rows:List (List D)} {N O:Nat→Prop} (h:Pk σ k F rows N) (hO:Has σ O) (hF:∀i j b,isPos rows i j→F i j b→¬O b):∀b,N b→¬O b:=fun b hb=>
  (h.fr b hb).elim (fun⟨i,j,h1,h2⟩=>hF i j b h1 h2) fun h=>h O hO
end
theorem Cto.nilTE {σ:St} {inv:Inv} {x:D} (sz:Nat) (h:x= .list sz []):Cto σ inv (.d (.val (.slice none 0 0))) (.d (.tree none' x)):=by subst h;exact .nilT sz
/-! ### The columns that hold trees -/
def colA (j:Nat):Prop:=j=0
def colC (j:Nat):Prop:=j=1
def colX (j:Nat):Prop:=j=2∨j=5∨j=6
def colS (j:Nat):Prop:=j=1∨j=4∨j=7∨j=8
def col2 (j:Nat):Prop:=j=0∨j=1
theorem posI (x:Int) (j m:Nat) (rs:List (List D)) (h:(rI x)[j]?=some (.list m rs)):none' j:=by
  match j,h with
  |0,h=>cases h
theorem posA (x:Aff) (j m:Nat) (rs:List (List D)) (h:(rA x)[j]?=some (.list m rs)):colA j:=by
  match j,h with
  |0,h=>rfl
  |1,h=>cases h
theorem posX (x:Ex) (j m:Nat) (rs:List (List D)) (h:(rX x)[j]?=some (.list m rs)):colX j:=by
  cases x with
  |mk k n i r ks=>
    match j,h with
    |0,h=>cases h
    |1,h=>cases h
    |2,h=>exact .inl rfl
    |3,h=>cases h
    |4,h=>cases h
    |5,h=>exact .inr (.inl rfl)
    |6,h=>exact .inr (.inr rfl)
theorem posS (x:Stm) (j m:Nat) (rs:List (List D)) (h:(rS x)[j]?=some (.list m rs)):colS j:=by
  match j,h with
  |0,h=>cases h
  |1,h=>exact .inl rfl
  |2,h=>cases h
  |3,h=>cases h
  |4,h=>exact .inr (.inl rfl)
  |5,h=>cases h
  |6,h=>cases h
  |7,h=>exact .inr (.inr (.inl rfl))
  |8,h=>exact .inr (.inr (.inr rfl))
theorem posL (x:Lp) (j m:Nat) (rs:List (List D)) (h:(rL x)[j]?=some (.list m rs)):col2 j:=by
  match j,h with
  |0,h=>exact .inl rfl
  |1,h=>exact .inr rfl
theorem posP (x:Prt) (j m:Nat) (rs:List (List D)) (h:(rP x)[j]?=some (.list m rs)):col2 j:=by
  match j,h with
  |0,h=>exact .inl rfl
  |1,h=>exact .inr rfl
theorem posR (x:Arr) (j m:Nat) (rs:List (List D)) (h:(rR x)[j]?=some (.list m rs)):colC j:=by
  match j,h with
  |0,h=>cases h
  |1,h=>rfl
theorem plain_map {α:Type} {fn:α→List D} {l:List α} (h:∀y:α,(fn y).all noTree=true):plain (l.map fn):=by
  intro r hr x hx
  obtain⟨y,_,rfl⟩:=List.mem_map.1 hr
  exact List.all_eq_true.1 (h y) x hx
theorem plI:∀y:Int,(rI y).all noTree=true:=fun _=>rfl
theorem plA:∀y:Aff,(rA y).all noTree=true:=fun _=>rfl
theorem plX:∀y:Ex,(rX y).all noTree=true:=fun y=>by cases y;rfl
theorem plS:∀y:Stm,(rS y).all noTree=true:=fun _=>rfl
theorem plL:∀y:Lp,(rL y).all noTree=true:=fun _=>rfl
theorem plP:∀y:Prt,(rP y).all noTree=true:=fun _=>rfl
theorem plR:∀y:Arr,(rR y).all noTree=true:=fun _=>rfl
theorem ownI_tree {lo:Nat} {w:World} {v:Value} {xs:List Int} (h:OwnI lo w v xs) (hn:xs.length≤17592186044416):DrU w (fun b=>v.ownBlock=some b) (dIs xs) v:=by
  obtain⟨a,cap,rfl,hc⟩:=h.shape
  by_cases h0:xs.length=0
  · have:xs=[]:=List.eq_nil_of_length_eq_zero h0
    subst this
    obtain⟨a',cap',e,_,_,h3,_⟩:=h.sl hn
    cases e
    exact .list _ 1 [] a 0 cap 0 0 (fun _ _=>undef) (fun _ _ _=>False) rfl (Nat.zero_le _) (Nat.zero_le _) h3 (fun h=>absurd h (Nat.lt_irrefl _)) (fun i r h=>by simp at h) (fun i r j x h=>by simp at h) (fun _ _ _ h=>h.elim) (fun _ _ _ _ _ h=>h.elim) (fun i r j x h=>by simp at h)
  · obtain⟨g,off,rfl,q1,q2,q3,q4,q5⟩:=h.at (by omega)
    obtain⟨a',cap',e,_,_,h3,h4⟩:=h.sl hn
    cases e
    have hrow:∀(i:Nat) r,(xs.map rI)[i]?=some r→∃x,xs[i]?=some x∧r=rI x:=fun i r hr=>by
      rw[List.getElem?_map]at hr
      cases hx:xs[i]? with
      |none=>rw[hx]at hr;cases hr
      |some x=>rw[hx]at hr;cases hr;exact⟨x,rfl,rfl⟩
    have hob:∀i,i<xs.length→Value.ownBlock (.slice (some ⟨g,off,none⟩) xs.length cap)=some g:=fun i hi=>by
      obtain⟨b,o,cs,e,hb,_⟩:=h4 i xs[i] (List.getElem?_eq_getElem hi)
      cases e
      exact hb
    refine .list _ 1 (xs.map rI) _ xs.length cap g off (fun i _=>.int .i64 (xs.getD i 0)) (fun _ _ _=>False) (by rw[List.length_map]) hc hn (fun h=>by cases h) (fun _=>rfl) (fun i r hr=>?_) (fun i r j x hr hx=>?_) (fun _ _ _ h=>h.elim) (fun _ _ _ _ _ h=>h.elim) (fun i r j x hr hx=>?_)
    ·obtain⟨x,_,rfl⟩:=hrow i r hr;rfl
    all_goals
      obtain⟨y,hy,rfl⟩:=hrow i r hr
      have hi:=(List.getElem?_eq_some_iff.1 hy).1
      have hj0:j=0∧x=dI y:=by
        cases j with
        |zero=>simp[rI]at hx;exact⟨rfl,hx.symm⟩
        |succ j=>simp[rI]at hx
      obtain⟨rfl,rfl⟩:=hj0
    · refine⟨hob i hi,?_,q5 _⟩
      rw[show off+(i *1+0)=off+i by omega];exact q4 i hi
    ·rw[List.getD,hy];exact .val _ _ rfl
theorem FnT.ofI {P:Program} {f:FuncId} {args:List V1} {xs:List Int} (hn:xs.length≤17592186044416) (h:∀(w:World) (vs:List Value),Vals (V1r (fun _=>(0,0)) (fun _=>False) (fun _=>True) w) args vs→Calls P f vs.toArray w fun e w'=>∃v,e= .returned v∧OwnI w.heap.size w' v xs∧Below w.heap.size w w'):FnT P f args none' (.one (dIs xs)):=by
  intro w vs hv
  refine(h w vs hv).mono ?_
  rintro e w' ⟨v,rfl,ho,hb⟩
  exact⟨v,nthS [fun b=>v.ownBlock=some b],rfl,hb,nthS_all (fun S hS b hb=>.inr (by rw[List.mem_singleton]at hS;subst hS;exact(ho.lt b hb).1)),nthS_dis (by simp),Dr.tree _ _ _ (fun _ _=>trivial) (fun b hb=>(ho.lt b hb).2) (ownI_tree ho hn)⟩
theorem clone_T (p:List Int) (hp:p.length≤4294967296):FnT Tryz.prog 67 [vD (dIs p)] none' (.one (dIs p)):=
  FnT.ofI (by omega) fun w vs hv=>by
    obtain⟨v,rfl,h⟩:=vals1 hv
    have h3:=dr_ints h
    obtain⟨a,n,c,rfl,rfl⟩:=sl_form h3
    exact(clone_any _ a _ c p w h3 hp).mono fun e w' ⟨v,h1,h2,h4⟩=>⟨v,h1,h2,h4⟩
def HasE (σ:St) (U:Nat→Prop):Prop:=∀b,U b→∃S,Has σ S∧S b
theorem HasE.of {σ:St} {S:Nat→Prop} (h:Has σ S):HasE σ S:=fun b hb=>⟨S,h,hb⟩
theorem HasE.no {σ:St}:HasE σ none':=fun _ h=>h.elim
theorem HasE.or {σ:St} {S T:Nat→Prop} (h:HasE σ S) (h':HasE σ T):HasE σ (fun b=>S b∨T b):=fun b hb=>hb.elim (h b) (h' b)
theorem new_ofE {R:Nat→Nat→Prop} {σ:St} {src U:Nat→Prop} (h:∀j b,R j b→src b∨∀S,Has σ S→¬S b) (hU:HasE σ U):∀j b,R j b→src b∨¬U b:=fun j b hj=>(h j b hj).imp id fun h hb=>by
  obtain⟨S,h1,h2⟩:=hU b hb
  exact h S h1 h2
theorem new_E {R:Nat→Nat→Prop} {σ:St} {U:Nat→Prop} (h:∀j b,R j b→none' b∨∀S,Has σ S→¬S b) (hU:HasE σ U):∀j b,R j b→¬U b:=fun j b hj=>(new_ofE h hU j b hj).resolve_left id
theorem Pk.outE {σ:St} {k n:Nat} {F:Nat→Nat→Nat→Prop} {rows:List (List D)} {N U L:Nat→Prop} (h:Pk σ k F rows N) (hU:HasE σ U) (hF:FD U L n F) (hn:rows.length=n) (hL:∀i j,isPos rows i j→L j):∀b,N b→¬U b:=fun b hb hUb=>by
  rcases h.fr b hb with⟨i,j,h1,h2⟩|h1
  ·exact hF.out i j b (hn▸isPos_lt h1) (hL i j h1) h2 hUb
  · obtain⟨S,h2,h3⟩:=hU b hUb
    exact h1 S h2 h3
abbrev or2 (S T:Nat→Prop):Nat→Prop:=fun b=>S b∨T b
theorem ownAff_T (x:Aff) (hx:x.1.length≤1073741824):FnT Tryz.prog 157 [ad (rA x)] (none') (.str (rA x)):=by
 refine FnT.of_code Tryz.func157 rfl rfl rfl (fun O=>?_)
 refine .r<|.c .bp<|.c (.al 102 [.slice none 0 0,.int .i64 0])<|.nn<|.seq ?_
 refine ACode.drawT (by kernel_rfl) (by kernel_rfl) (fun Uq1_0=>?_)
 refine .cons (fun _=>.fP 0 0 false)<|.cons (fun _=>.l1 1) ?_
 refine .cT [.tmp 4] rfl rfl (fun _=>rfl) (fun _=>rfl) (clone_T x.1 (by omega)) rfl rfl nosrcV ?_
 refine .cons (fun _=>.fP 1 0 false)<|.cons (fun _=>.l1 1)<|.cons (fun _=>.bu [(0,.tmp 5),(1,.tmp 7)] [(0,1),(1,1)] [.slice none 0 0,.int .i64 0])<|.cons (fun _=>.sT 2 true) ?_
 refine .nil ⟨⟨fun _=>by kernel_rfl,by repeat' (first|exact trivial|exact .inr (.inl rfl)|exact .inr (.inr fun _ _=>rfl)|refine⟨?_,?_⟩|exact .inl (by kernel_rfl)),rfl⟩,fun ρq1_0 Nq1_0 Fq1_0 Wq1_0=>?_⟩
 obtain⟨hR5,dR5,pR5⟩:=Fq1_0.hR Wq1_0 2 rfl rfl
 refine ks_n<|.ret ?_
 refine kt_ret (nthS [(ρq1_0 2) 0]) rfl ?_ ?_ ?_
 ·rfl
 ·exact nthS_dis (by first|(simp only[List.pairwise_cons,List.forall_mem_cons,List.not_mem_nil,false_implies,implies_true,and_true,List.Pairwise.nil];done)|(simp only[List.pairwise_cons,List.forall_mem_cons,List.not_mem_nil,false_implies,implies_true,and_true,List.Pairwise.nil];simp[none'];done))
 ·exact nthS_all (by simp only[List.forall_mem_cons,List.not_mem_nil,false_implies,implies_true,and_true];exact(fun b h=>.inr (new_of hR5 (gh_has rfl) 0 b h)))
theorem accMap_T {f:FuncId} {cap:List (List D)} (hc:callable Tryz.prog f=true) (g:Aff→Aff) (a:Acc) (ha:a.2.length≤1073741824) (hg:∀x∈a.2,FnT Tryz.prog f (ad (rA x)::cap.map fun c=>.c (.ptr c)) none' (.str (rA (g x)))):FnT Tryz.prog 179 [ad (rC a),.c (.fn f cap)] (none') (.str (rC (mapC g a))):=by
 refine FnT.of_code Tryz.func179 rfl rfl rfl (fun O=>?_)
 refine .r<|.c .bp<|.c (.al 104 [.string ByteArray.empty,.slice none 0 0])<|.r<|.c (.fP 0 0 false)<|.c (.l1 1)<|.c (.bu [(0,.tmp 9)] [(0,1),(1,1)] [.string ByteArray.empty,.slice none 0 0])<|.c (.al 105 [.string ByteArray.empty,.slice none 0 0])<|.c (.sT 2 true)<|.nn<|.seq<|.r<|.c (.fP 1 0 false)<|.c (.l1 1)<|.c (.ln 61 2 32)<|.c .m<|.nn<|.block ?_
 refine .loopK (fun m σ=>(∃i:Nat,m=a.2.length -i∧(i=0)∧σ=[(.t 1,.v (.o (.c (.fn f cap)))),eP 2 (rC a),eB 4 110 2,eB 5 111 2,eD 12 (dAs a.2),eN 13 (a.2.length:Nat),eN 14 (i:Nat),(.t 9999,.v (.gh O)),(.b 110,.b 59 2 [[.d (dS ByteArray.empty),nl]]),eU 110,(.b 111,.b 59 2 [[.d (dS a.1),nl]]),eU 111])∨(∃(i:Nat) (F:Nat→Nat→Nat→Prop),m=a.2.length -i∧(1≤i)∧(i≤a.2.length)∧(FD (O) colA i F)∧σ=[(.t 1,.v (.o (.c (.fn f cap)))),eP 2 (rC a),eB 4 110 2,eB 5 111 2,eD 12 (dAs a.2),eN 13 (a.2.length:Nat),eN 14 (i:Nat),(.t 9999,.v (.gh O)),(.b 110,.b 59 2 [[.d (dS ByteArray.empty),nl]]),eU 110,(.b 112,.b 61 2 (dR (tagRs F 0 ((a.2.take i).map fun x=>rA (g x))))),eU 112,(.b 111,.b 59 2 [[.d (dS a.1),.own 112 2 (i)]]),eU 111])) [(110,104),(111,105)] (.inl ⟨0,rfl,rfl,rfl⟩) ⟨kd,kd,kX,kX,kd,kd,kd,kd,kb 104 rfl (.r2 .dt .dt),kb 105 rfl (.r2 .dt .dt),trivial⟩ ?_
 rintro m σ (⟨i,hm0,rfl,rfl⟩|⟨i,F,hm0,hi1,hi2,hFD,rfl⟩)
 ·skip
  refine .r<|.c .ls<|.nn<|.seq ?_
  refine .cD rfl (fun h15=>?_) (fun h15=>?_)
  ·skip
   obtain⟨x,hx1⟩:∃x,a.2[0]?=some x:=⟨_,List.getElem?_eq_getElem (by omega)⟩
   refine .skip<|ks_n<|.seq<|.block<|.r<|.c (.xL 61 2 32) ?_
   refine .c (.lN 2)<|.c (.al 107 [.slice none 0 0,.int .i64 0])<|.c (.sT 2 true)<|.nn ?_
   refine ACode.drawT (by kernel_rfl) (by kernel_rfl) (fun Uq5_0=>?_)
   refine .cons (fun _=>.fB 1 0 false)<|.cons (fun _=>.b1 1)<|.cons (fun _=>.m)<|.cons (fun _=>.bN 2) ?_
   refine .cT [.tmp 21] rfl rfl (fun _=>rfl) (fun _=>rfl) (hg x (List.mem_of_getElem? hx1)) rfl rfl nosrcV ?_ hc
   refine .cons (fun _=>.li 61 1 0 [.tmp 22]) ?_
   refine .cons (fun _=>(St1.appN (k':=124) (e:=61) (sz:=1) (by':=32) rfl rfl rfl rfl rfl (by kernel_rfl) rfl rfl rfl (by simp) (by first|(simp[dR,tagRs_len];done)|(simp[dR,tagRs_len];omega)) rfl rfl)) ?_
   refine .cons (fun _=>.fB 1 0 false)<|.cons (fun _=>.sT 1 false) ?_
   refine .nil ⟨⟨fun _=>by kernel_rfl,by repeat' (first|exact trivial|exact .inr (.inl rfl)|exact .inr (.inr fun _ _=>rfl)|refine⟨?_,?_⟩|exact .inl (by kernel_rfl)),rfl⟩,fun ρq5_0 Nq5_0 Fq5_0 Wq5_0=>?_⟩
   obtain⟨hR22,dR22,pR22⟩:=Fq5_0.hR Wq5_0 4 rfl rfl
   refine kb_n<|ks_n<|.region<|.c .pl<|.c .m<|.nil ?_
   refine kl_k [(110,110),(111,111),(112,124)] (.inr ⟨1,nextF noF 0 (ρq5_0 4),rfl,by omega,by omega,(FD.zero (O) colA noF).next (new_E hR22 (.of (gh_has rfl))) dR22 (fun _ _ _ _ h=>by omega),rfl⟩) ⟨kd,kd,kX,kX,kd,kd,kd,kd,kb 110 rfl (.r2 .dt .dt),kb 124 rfl (.dt rfl (by first|rfl|(rw[←dR_tagT hx1];rfl)|(rw[←dR_tag0 hx1];rfl))),kb 111 rfl (.r2 .dt .ow),trivial⟩
  ·skip
   have hn:a.2=[]:=List.eq_nil_of_length_eq_zero (by omega)
   refine .exit<|ks_e<|kl_e<|kb_hit<|ks_n<|.r<|.c (.bN 2)<|.c (.sT 2 true)<|.nn<|.ret ?_
   refine kt_wret (nthS [none',none']) [eB 4 100 2,(.b 100,.b 59 2 [[.d (dS a.1),(.d (.tree none' (dAs (a.2.map g))))]]),eU 100] (Wk.keep [(100,110)] rfl rfl ⟨kX,kb 110 rfl (.r2 .dt (Cto.nilTE 2 (by rw[hn];rfl))),trivial⟩) rfl ?_ ?_ ?_
   ·rfl
   ·exact nthS_dis (by first|(simp only[List.pairwise_cons,List.forall_mem_cons,List.not_mem_nil,false_implies,implies_true,and_true,List.Pairwise.nil];done)|(simp only[List.pairwise_cons,List.forall_mem_cons,List.not_mem_nil,false_implies,implies_true,and_true,List.Pairwise.nil];simp[none'];done))
   ·exact nthS_all (by simp only[List.forall_mem_cons,List.not_mem_nil,false_implies,implies_true,and_true];exact⟨(fun b h=>h.elim),(fun b h=>h.elim)⟩)
 ·skip
  refine .r<|.c .ls<|.nn<|.seq ?_
  refine .cD rfl (fun h15=>?_) (fun h15=>?_)
  ·skip
   obtain⟨x,hx1⟩:∃x,a.2[i]?=some x:=⟨_,List.getElem?_eq_getElem (by omega)⟩
   refine .skip<|ks_n<|.seq<|.block<|.r<|.c (.xL 61 2 32) ?_
   refine .c (.lN 2)<|.c (.al 107 [.slice none 0 0,.int .i64 0])<|.c (.sT 2 true)<|.nn ?_
   refine ACode.drawT (by kernel_rfl) (by kernel_rfl) (fun Uq5_1=>?_)
   refine .cons (fun _=>.fB 1 0 false)<|.cons (fun _=>.b1 1)<|.cons (fun _=>.m)<|.cons (fun _=>.bN 2) ?_
   refine .cT [.tmp 21] rfl rfl (fun _=>rfl) (fun _=>rfl) (hg x (List.mem_of_getElem? hx1)) rfl rfl nosrcV ?_ hc
   refine .cons (fun _=>.li 61 1 0 [.tmp 22]) ?_
   refine .cons (fun _=>(St1.appB (k':=124) (e:=61) (sz:=1) (by':=32) rfl rfl rfl rfl rfl (by kernel_rfl) rfl rfl rfl rfl (by first|(simp[dR,tagRs_len];done)|(simp[dR,tagRs_len];omega)) (by first|(simp[dR,tagRs_len];done)|(simp[dR,tagRs_len];omega)) rfl rfl rfl)) ?_
   refine .cons (fun _=>.fB 1 0 false)<|.cons (fun _=>.sT 1 false) ?_
   refine .nil ⟨⟨fun _=>by kernel_rfl,by repeat' (first|exact trivial|exact .inr (.inl rfl)|exact .inr (.inr fun _ _=>rfl)|refine⟨?_,?_⟩|exact .inl (by kernel_rfl)),rfl⟩,fun ρq5_1 Nq5_1 Fq5_1 Wq5_1=>?_⟩
   obtain⟨hR22,dR22,pR22⟩:=Fq5_1.hR Wq5_1 4 rfl rfl
   have hRF:∀q c c' b,q<i→colA c→F q c b→¬(ρq5_1 4) c' b:=fun q c c' b hq hc hF hb=>by
    obtain⟨y,_,hy⟩:=tm_at (fn:=(fun x=>rA (g x))) hi2 hq
    have hc:c=0:=hc
    subst hc
    exact new_of hR22 (Has.rows (k:=112) rfl hy rfl) c' b hb hF
   refine kb_n<|ks_n<|.region<|.c .pl<|.c .m<|.nil ?_
   refine kl_k [(110,110),(111,111),(112,124)] (.inr ⟨i+1,nextF F i (ρq5_1 4),rfl,by omega,by omega,hFD.next (new_E hR22 (.of (gh_has rfl))) dR22 hRF,rfl⟩) ⟨kd,kd,kX,kX,kd,kd,kd,kd,kb 110 rfl (.r2 .dt .dt),kb 124 rfl (.dt rfl (by first|rfl|(rw[←dR_tagT hx1];rfl)|(rw[←dR_tag0 hx1];rfl))),kb 111 rfl (.r2 .dt .ow),trivial⟩
  ·skip
   obtain rfl:i=a.2.length:=by omega
   refine .exit<|ks_e<|kl_e<|kb_hit<|ks_n<|.seq ?_
   refine .keep [eB 4 570 2,eB 5 571 2,(.t 9999,.v (.gh O)),(.b 570,.b 59 2 [[.d (dS ByteArray.empty),nl]]),eU 570,(.b 572,.b 61 2 (dR (tagRs F 0 ((a.2.map g).map rA)))),eU 572,(.b 571,.b 59 2 [[.d (dS a.1),.own 572 2 (((a.2.map g).map rA).length)]]),eU 571] [(570,110),(571,111),(572,112)] ⟨kX,kX,kd,kb 110 rfl (.r2 .dt .dt),kb 112 rfl (.dt rfl (by rw[List.take_length,List.map_map];rfl)),kb 111 rfl (.r2 .dt .ow),trivial⟩ ?_
   refine ACode.packB 571 0 1 572 (rows:=(a.2.map g).map rA) (F:=F) rfl rfl rfl rfl rfl (plain_map plA) (hFD.pos (by simp) (fun i j h=>isPos_L posA h)) (by simp;omega) (fun N hN=>?_)
   have hNO:=hN.outE (.of (gh_has rfl)) hFD (by simp) (fun i j h=>isPos_L posA h)
   refine .region<|.c (.bN 2)<|.c (.sT 2 true)<|.nn<|.ret ?_
   refine kt_ret (nthS [none',N]) rfl ?_ ?_ ?_
   ·rfl
   ·exact nthS_dis (by first|(simp only[List.pairwise_cons,List.forall_mem_cons,List.not_mem_nil,false_implies,implies_true,and_true,List.Pairwise.nil];done)|(simp only[List.pairwise_cons,List.forall_mem_cons,List.not_mem_nil,false_implies,implies_true,and_true,List.Pairwise.nil];simp[none'];done))
   ·exact nthS_all (by simp only[List.forall_mem_cons,List.not_mem_nil,false_implies,implies_true,and_true];exact⟨(fun b h=>h.elim),(fun b h=>.inr (hNO b h))⟩)
theorem posE (x:Ex) (j m:Nat) (rs:List (List D)) (h:(rE x)[j]?=some (.list m rs)):colX j:=posX x j m rs (by rw[←rE_eq];exact h)
theorem plE (y:Ex):(rE y).all noTree=true:=by rw[rE_eq];exact plX y
theorem tag_ex {F:Nat→Nat→Nat→Prop} (f:Ex→Ex) (l:List Ex):tagRs F 0 ((l.take l.length).map fun x=>rX (f x))=tagRs F 0 ((l.map f).map rE):=by
  rw[List.take_length,List.map_map]
  congr 1
  exact List.map_congr_left fun x _=>(rE_eq _).symm
theorem exprMap_T1 {f:FuncId} {cap:List (List D)} (hc:callable Tryz.prog f=true) (g:Aff→Aff) (e:Ex) (hr:e.r.2.length≤1073741824) (hk:e.ks.length≤1073741824) (hg:∀x∈affsE e,FnT Tryz.prog f (ad (rA x)::cap.map fun c=>.c (.ptr c)) none' (.str (rA (g x)))) (ih:∀x∈e.ks,FnT Tryz.prog 180 [ad (rX x),.c (.fn f cap)] none' (.str (rX (mapE g x)))):FnT Tryz.prog 180 [ad (rX e),.c (.fn f cap)] (none') (.str (rX (mapE g e))):=by
 refine FnT.of_code Tryz.func180 rfl rfl rfl (fun O=>?_)
 refine .r<|.c .bp<|.c (.al 104 [.int .i64 0,.int .i64 0,.slice none 0 0,.int .i64 0,.string ByteArray.empty,.slice none 0 0,.slice none 0 0])<|.r<|.c (.fP 0 0 false)<|.c (.l1 1)<|.c (.fP 1 0 false)<|.c (.l1 1)<|.c (.bu [(0,.tmp 9),(1,.tmp 11)] [(0,1),(1,1),(2,2),(4,2),(6,1)] [.int .i64 0,.int .i64 0,.slice none 0 0,.int .i64 0,.string ByteArray.empty,.slice none 0 0,.slice none 0 0])<|.c (.al 105 [.int .i64 0,.int .i64 0,.slice none 0 0,.int .i64 0,.string ByteArray.empty,.slice none 0 0,.slice none 0 0])<|.c (.sT 7 true)<|.nn<|.seq<|.r<|.c (.fP 0 0 false)<|.c (.l1 1)<|.nn<|.block<|.r<|.c .eq<|.c .a<|.nn ?_
 refine .cD rfl (fun h15=>?_) (fun h15=>?_)
 ·skip
  refine .region<|.c .m<|.c (.fP 2 1 true)<|.c (.lN 2) ?_
  refine AOps.cT [.tmp 19] rfl rfl rfl rfl (hg _ (affsE_i h15)) rfl rfl nosrc (fun R20 hR20 dR20 pR20=>?_) hc
  refine .c (.fB 2 1 true)<|.c (.sT 2 true)<|.nil<|kb_n<|ks_n<|.seq<|.r<|.c (.fP 6 0 false)<|.c (.l1 1)<|.c (.ln 64 7 112)<|.c .m<|.nn<|.block ?_
  refine .loopK (fun m σ=>(∃i:Nat,m=e.ks.length -i∧(i=0)∧σ=[(.t 1,.v (.o (.c (.fn f cap)))),eP 2 (rX e),eB 4 110 7,eB 5 111 7,eD 30 (dEs e.ks),eN 31 (e.ks.length:Nat),eN 32 (i:Nat),(.t 9999,.v (.gh O)),(.b 110,.b 64 7 [[.d (dI 0),.d (dI 0),nl,.d (dI 0),.d (dS ByteArray.empty),nl,nl]]),eU 110,(.b 111,.b 64 7 [[.d (dI e.k),.d (dI e.n),.d (.tree (R20 0) (dIs (g e.i).1)),.d (dI (g e.i).2),.d (dS ByteArray.empty),nl,nl]]),eU 111])∨(∃(i:Nat) (F:Nat→Nat→Nat→Prop),m=e.ks.length -i∧(1≤i)∧(i≤e.ks.length)∧(FD (or2 O (R20 0)) colX i F)∧σ=[(.t 1,.v (.o (.c (.fn f cap)))),eP 2 (rX e),eB 4 110 7,eB 5 111 7,eD 30 (dEs e.ks),eN 31 (e.ks.length:Nat),eN 32 (i:Nat),(.t 9999,.v (.gh O)),(.b 110,.b 64 7 [[.d (dI 0),.d (dI 0),nl,.d (dI 0),.d (dS ByteArray.empty),nl,nl]]),eU 110,(.b 112,.b 64 7 (dR (tagRs F 0 ((e.ks.take i).map fun x=>rX (mapE g x))))),eU 112,(.b 111,.b 64 7 [[.d (dI e.k),.d (dI e.n),.d (.tree (R20 0) (dIs (g e.i).1)),.d (dI (g e.i).2),.d (dS ByteArray.empty),nl,.own 112 7 (i)]]),eU 111])) [(110,104),(111,105)] (.inl ⟨0,rfl,rfl,rfl⟩) ⟨kd,kd,kX,kX,kd,kd,kd,kd,kb 104 rfl (.cons (.cons .dt (.cons .dt (.cons .dt (.cons .dt (.cons .dt (.cons .dt (.cons .dt Ctos.nil))))))) .nil),kb 105 rfl (.cons (.cons .dt (.cons .dt (.cons .dt (.cons .dt (.cons .dt (.cons .dt (.cons .dt Ctos.nil))))))) .nil),trivial⟩ ?_
  rintro m σ (⟨i,hm0,rfl,rfl⟩|⟨i,F,hm0,hi1,hi2,hFD,rfl⟩)
  ·skip
   refine .r<|.c .ls<|.nn<|.seq ?_
   refine .cD rfl (fun h33=>?_) (fun h33=>?_)
   ·skip
    obtain⟨x,hx1⟩:∃x,e.ks[0]?=some x:=⟨_,List.getElem?_eq_getElem (by omega)⟩
    refine .skip<|ks_n<|.seq<|.block<|.r<|.c (.xL 64 7 112 rfl rfl rfl rfl rfl (rE_at hx1)) ?_
    refine .c (.lN 7)<|.c (.al 107 [.int .i64 0,.int .i64 0,.slice none 0 0,.int .i64 0,.string ByteArray.empty,.slice none 0 0,.slice none 0 0])<|.c (.sT 7 true)<|.nn ?_
    refine ACode.drawT (by kernel_rfl) (by kernel_rfl) (fun Uq10_0=>?_)
    refine .cons (fun _=>.fB 6 0 false)<|.cons (fun _=>.b1 1)<|.cons (fun _=>.bN 7)<|.cons (fun _=>.m) ?_
    refine .cT [.tmp 38,.tmp 39] rfl rfl (fun _=>rfl) (fun _=>rfl) (ih x (List.mem_of_getElem? hx1)) rfl rfl nosrcV ?_
    refine .cons (fun _=>.li 64 6 0 [.tmp 40]) ?_
    refine .cons (fun _=>(St1.appN (k':=142) (e:=64) (sz:=6) (by':=112) rfl rfl rfl rfl rfl (by kernel_rfl) rfl rfl rfl (by simp) (by first|(simp[dR,tagRs_len];done)|(simp[dR,tagRs_len];omega)) rfl rfl)) ?_
    refine .cons (fun _=>.fB 6 0 false)<|.cons (fun _=>.sT 1 false) ?_
    refine .nil ⟨⟨fun _=>by kernel_rfl,by repeat' (first|exact trivial|exact .inr (.inl rfl)|exact .inr (.inr fun _ _=>rfl)|refine⟨?_,?_⟩|exact .inl (by kernel_rfl)),rfl⟩,fun ρq10_0 Nq10_0 Fq10_0 Wq10_0=>?_⟩
    obtain⟨hR40,dR40,pR40⟩:=Fq10_0.hR Wq10_0 4 rfl rfl
    refine kb_n<|ks_n<|.region<|.c .pl<|.c .m<|.nil ?_
    refine kl_k [(110,110),(111,111),(112,142)] (.inr ⟨1,nextF noF 0 (ρq10_0 4),rfl,by omega,by omega,(FD.zero (or2 O (R20 0)) colX noF).next (new_E hR40 ((HasE.of (gh_has rfl)).or (.of (Has.box (i:=0) (j:=2) 111 rfl rfl rfl (.d (.tree _)))))) dR40 (fun _ _ _ _ h=>by omega),rfl⟩) ⟨kd,kd,kX,kX,kd,kd,kd,kd,kb 110 rfl (.cons (.cons .dt (.cons .dt (.cons .dt (.cons .dt (.cons .dt (.cons .dt (.cons .dt Ctos.nil))))))) .nil),kb 142 rfl (.dt rfl (by first|rfl|(rw[←dR_tagT hx1];rfl)|(rw[←dR_tag0 hx1];rfl))),kb 111 rfl (.cons (.cons .dt (.cons .dt (.cons .dt (.cons .dt (.cons .dt (.cons .dt (.cons .ow Ctos.nil))))))) .nil),trivial⟩
   ·skip
    have hn:e.ks=[]:=List.eq_nil_of_length_eq_zero (by omega)
    refine .exit<|ks_e<|kl_e<|kb_hit<|ks_n<|.r<|.c (.bN 7)<|.c (.sT 7 true)<|.nn<|.ret ?_
    refine kt_wret (nthS [none',none',R20 0,none',none',none',none']) [eB 4 100 7,(.b 100,.b 64 7 [[.d (dI e.k),.d (dI e.n),(.d (.tree (R20 0) (dIs (if e.k=2 then g e.i else([],0)).1))),.d (dI (if e.k=2 then g e.i else([],0)).2),.d (dS (if e.k=3 then mapC g e.r else(ByteArray.empty,[])).1),(.d (.tree none' (dAs (if e.k=3 then mapC g e.r else(ByteArray.empty,[])).2))),(.d (.tree none' (dEs (e.ks.map (mapE g)))))]]),eU 100] (Wk.keep [(100,110)] rfl rfl ⟨kX,kb 110 rfl (.cons (.cons .dt (.cons .dt (.cons (.dt (by rw[if_pos h15])) (.cons (.dt (by first|(rw[if_pos h15];done)|(rw[if_pos h22];done)|(rw[if_neg (show ¬e.k=2 by omega)];done)|(rw[if_neg (show ¬e.k=3 by omega)];done))) (.cons (.dt (by first|(rw[if_pos h15];done)|(rw[if_pos h22];done)|(rw[if_neg (show ¬e.k=2 by omega)];done)|(rw[if_neg (show ¬e.k=3 by omega)];done))) (.cons (Cto.nilTE 2 (by rw[if_neg (show ¬e.k=3 by first|assumption|omega)];rfl)) (.cons (Cto.nilTE 7 (by rw[hn];rfl)) Ctos.nil))))))) .nil),trivial⟩) rfl ?_ ?_ ?_
    ·rw[rX_map];rfl
    ·exact nthS_dis (by first|(simp only[List.pairwise_cons,List.forall_mem_cons,List.not_mem_nil,false_implies,implies_true,and_true,List.Pairwise.nil];done)|(simp only[List.pairwise_cons,List.forall_mem_cons,List.not_mem_nil,false_implies,implies_true,and_true,List.Pairwise.nil];simp[none'];done)|(simp only[List.pairwise_cons,List.forall_mem_cons,List.not_mem_nil,false_implies,implies_true,and_true,List.Pairwise.nil];simp[none'];exact fun b h1 h2=>hNO b h2 (.inr h1)))
    ·exact nthS_all (by simp only[List.forall_mem_cons,List.not_mem_nil,false_implies,implies_true,and_true];exact⟨(fun b h=>h.elim),(fun b h=>h.elim),(fun b h=>.inr ((new_of hR20 (gh_has rfl) 0) b h)),(fun b h=>h.elim),(fun b h=>h.elim),(fun b h=>h.elim),(fun b h=>h.elim)⟩)
  ·skip
   refine .r<|.c .ls<|.nn<|.seq ?_
   refine .cD rfl (fun h33=>?_) (fun h33=>?_)
   ·skip
    obtain⟨x,hx1⟩:∃x,e.ks[i]?=some x:=⟨_,List.getElem?_eq_getElem (by omega)⟩
    refine .skip<|ks_n<|.seq<|.block<|.r<|.c (.xL 64 7 112 rfl rfl rfl rfl rfl (rE_at hx1)) ?_
    refine .c (.lN 7)<|.c (.al 107 [.int .i64 0,.int .i64 0,.slice none 0 0,.int .i64 0,.string ByteArray.empty,.slice none 0 0,.slice none 0 0])<|.c (.sT 7 true)<|.nn ?_
    refine ACode.drawT (by kernel_rfl) (by kernel_rfl) (fun Uq10_1=>?_)
    refine .cons (fun _=>.fB 6 0 false)<|.cons (fun _=>.b1 1)<|.cons (fun _=>.bN 7)<|.cons (fun _=>.m) ?_
    refine .cT [.tmp 38,.tmp 39] rfl rfl (fun _=>rfl) (fun _=>rfl) (ih x (List.mem_of_getElem? hx1)) rfl rfl nosrcV ?_
    refine .cons (fun _=>.li 64 6 0 [.tmp 40]) ?_
    refine .cons (fun _=>(St1.appB (k':=142) (e:=64) (sz:=6) (by':=112) rfl rfl rfl rfl rfl (by kernel_rfl) rfl rfl rfl rfl (by first|(simp[dR,tagRs_len];done)|(simp[dR,tagRs_len];omega)) (by first|(simp[dR,tagRs_len];done)|(simp[dR,tagRs_len];omega)) rfl rfl rfl)) ?_
    refine .cons (fun _=>.fB 6 0 false)<|.cons (fun _=>.sT 1 false) ?_
    refine .nil ⟨⟨fun _=>by kernel_rfl,by repeat' (first|exact trivial|exact .inr (.inl rfl)|exact .inr (.inr fun _ _=>rfl)|refine⟨?_,?_⟩|exact .inl (by kernel_rfl)),rfl⟩,fun ρq10_1 Nq10_1 Fq10_1 Wq10_1=>?_⟩
    obtain⟨hR40,dR40,pR40⟩:=Fq10_1.hR Wq10_1 4 rfl rfl
    have hRF:∀q c c' b,q<i→colX c→F q c b→¬(ρq10_1 4) c' b:=fun q c c' b hq hc hF hb=>by
     obtain⟨y,_,hy⟩:=tm_at (fn:=(fun x=>rX (mapE g x))) hi2 hq
     rcases hc with rfl|rfl|rfl
     ·exact new_of hR40 (Has.rows (k:=112) rfl hy rfl) c' b hb hF
     ·exact new_of hR40 (Has.rows (k:=112) rfl hy rfl) c' b hb hF
     ·exact new_of hR40 (Has.rows (k:=112) rfl hy rfl) c' b hb hF
    refine kb_n<|ks_n<|.region<|.c .pl<|.c .m<|.nil ?_
    refine kl_k [(110,110),(111,111),(112,142)] (.inr ⟨i+1,nextF F i (ρq10_1 4),rfl,by omega,by omega,hFD.next (new_E hR40 ((HasE.of (gh_has rfl)).or (.of (Has.box (i:=0) (j:=2) 111 rfl rfl rfl (.d (.tree _)))))) dR40 hRF,rfl⟩) ⟨kd,kd,kX,kX,kd,kd,kd,kd,kb 110 rfl (.cons (.cons .dt (.cons .dt (.cons .dt (.cons .dt (.cons .dt (.cons .dt (.cons .dt Ctos.nil))))))) .nil),kb 142 rfl (.dt rfl (by first|rfl|(rw[←dR_tagT hx1];rfl)|(rw[←dR_tag0 hx1];rfl))),kb 111 rfl (.cons (.cons .dt (.cons .dt (.cons .dt (.cons .dt (.cons .dt (.cons .dt (.cons .ow Ctos.nil))))))) .nil),trivial⟩
   ·skip
    obtain rfl:i=e.ks.length:=by omega
    refine .exit<|ks_e<|kl_e<|kb_hit<|ks_n<|.seq ?_
    refine .keep [eB 4 570 7,eB 5 571 7,(.t 9999,.v (.gh O)),(.b 570,.b 64 7 [[.d (dI 0),.d (dI 0),nl,.d (dI 0),.d (dS ByteArray.empty),nl,nl]]),eU 570,(.b 572,.b 64 7 (dR (tagRs F 0 ((e.ks.map (mapE g)).map rE)))),eU 572,(.b 571,.b 64 7 [[.d (dI e.k),.d (dI e.n),.d (.tree (R20 0) (dIs (g e.i).1)),.d (dI (g e.i).2),.d (dS ByteArray.empty),nl,.own 572 7 (((e.ks.map (mapE g)).map rE).length)]]),eU 571] [(570,110),(571,111),(572,112)] ⟨kX,kX,kd,kb 110 rfl (.cons (.cons .dt (.cons .dt (.cons .dt (.cons .dt (.cons .dt (.cons .dt (.cons .dt Ctos.nil))))))) .nil),kb 112 rfl (.dt rfl (by rw[tag_ex])),kb 111 rfl (.cons (.cons .dt (.cons .dt (.cons .dt (.cons .dt (.cons .dt (.cons .dt (.cons .ow Ctos.nil))))))) .nil),trivial⟩ ?_
    refine ACode.packB 571 0 6 572 (rows:=(e.ks.map (mapE g)).map rE) (F:=F) rfl rfl rfl rfl rfl (plain_map plE) (hFD.pos (by simp) (fun i j h=>isPos_L posE h)) (by simp;omega) (fun N hN=>?_)
    have hNO:=hN.outE ((HasE.of (gh_has rfl)).or (.of (Has.box (i:=0) (j:=2) 571 rfl rfl rfl (.d (.tree _))))) hFD (by simp) (fun i j h=>isPos_L posE h)
    refine .region<|.c (.bN 7)<|.c (.sT 7 true)<|.nn<|.ret ?_
    refine kt_wret (nthS [none',none',R20 0,none',none',none',N]) [eB 4 100 7,(.b 100,.b 64 7 [[.d (dI e.k),.d (dI e.n),(.d (.tree (R20 0) (dIs (if e.k=2 then g e.i else([],0)).1))),.d (dI (if e.k=2 then g e.i else([],0)).2),.d (dS (if e.k=3 then mapC g e.r else(ByteArray.empty,[])).1),(.d (.tree none' (dAs (if e.k=3 then mapC g e.r else(ByteArray.empty,[])).2))),.d (.tree N (dEs (e.ks.map (mapE g))))]]),eU 100] (Wk.keep [(100,570)] rfl rfl ⟨kX,kb 570 rfl (.cons (.cons .dt (.cons .dt (.cons (.dt (by rw[if_pos h15])) (.cons (.dt (by first|(rw[if_pos h15];done)|(rw[if_pos h22];done)|(rw[if_neg (show ¬e.k=2 by omega)];done)|(rw[if_neg (show ¬e.k=3 by omega)];done))) (.cons (.dt (by first|(rw[if_pos h15];done)|(rw[if_pos h22];done)|(rw[if_neg (show ¬e.k=2 by omega)];done)|(rw[if_neg (show ¬e.k=3 by omega)];done))) (.cons (Cto.nilTE 2 (by rw[if_neg (show ¬e.k=3 by first|assumption|omega)];rfl)) (.cons .dt Ctos.nil))))))) .nil),trivial⟩) rfl ?_ ?_ ?_
    ·rw[rX_map];rfl
    ·exact nthS_dis (by first|(simp only[List.pairwise_cons,List.forall_mem_cons,List.not_mem_nil,false_implies,implies_true,and_true,List.Pairwise.nil];done)|(simp only[List.pairwise_cons,List.forall_mem_cons,List.not_mem_nil,false_implies,implies_true,and_true,List.Pairwise.nil];simp[none'];done)|(simp only[List.pairwise_cons,List.forall_mem_cons,List.not_mem_nil,false_implies,implies_true,and_true,List.Pairwise.nil];simp[none'];exact fun b h1 h2=>hNO b h2 (.inr h1)))
    ·exact nthS_all (by simp only[List.forall_mem_cons,List.not_mem_nil,false_implies,implies_true,and_true];exact⟨(fun b h=>h.elim),(fun b h=>h.elim),(fun b h=>.inr ((new_of hR20 (gh_has rfl) 0) b h)),(fun b h=>h.elim),(fun b h=>h.elim),(fun b h=>h.elim),(fun b h=>.inr (fun hO=>hNO b h (.inl hO)))⟩)
 ·skip
  refine .r<|.c .eq<|.c .a<|.nn ?_
  refine .cD rfl (fun h22=>?_) (fun h22=>?_)
  ·skip
   refine .region<|.c (.fP 4 1 true)<|.c (.lN 2)<|.c .m ?_
   refine AOps.cT [.tmp 25,.tmp 26] rfl rfl rfl rfl (accMap_T hc g e.r hr (fun x hx=>hg x (affsE_r h22 hx))) rfl rfl nosrc (fun R27 hR27 dR27 pR27=>?_)
   refine .c (.fB 4 1 true)<|.c (.sT 2 true)<|.nil<|kb_n<|ks_n<|.seq<|.r<|.c (.fP 6 0 false)<|.c (.l1 1)<|.c (.ln 64 7 112)<|.c .m<|.nn<|.block ?_
   refine .loopK (fun m σ=>(∃i:Nat,m=e.ks.length -i∧(i=0)∧σ=[(.t 1,.v (.o (.c (.fn f cap)))),eP 2 (rX e),eB 4 110 7,eB 5 111 7,eD 30 (dEs e.ks),eN 31 (e.ks.length:Nat),eN 32 (i:Nat),(.t 9999,.v (.gh O)),(.b 110,.b 64 7 [[.d (dI 0),.d (dI 0),nl,.d (dI 0),.d (dS ByteArray.empty),nl,nl]]),eU 110,(.b 111,.b 64 7 [[.d (dI e.k),.d (dI e.n),nl,.d (dI 0),.d (dS (mapC g e.r).1),.d (.tree (R27 1) (dAs (mapC g e.r).2)),nl]]),eU 111])∨(∃(i:Nat) (F:Nat→Nat→Nat→Prop),m=e.ks.length -i∧(1≤i)∧(i≤e.ks.length)∧(FD (or2 O (R27 1)) colX i F)∧σ=[(.t 1,.v (.o (.c (.fn f cap)))),eP 2 (rX e),eB 4 110 7,eB 5 111 7,eD 30 (dEs e.ks),eN 31 (e.ks.length:Nat),eN 32 (i:Nat),(.t 9999,.v (.gh O)),(.b 110,.b 64 7 [[.d (dI 0),.d (dI 0),nl,.d (dI 0),.d (dS ByteArray.empty),nl,nl]]),eU 110,(.b 112,.b 64 7 (dR (tagRs F 0 ((e.ks.take i).map fun x=>rX (mapE g x))))),eU 112,(.b 111,.b 64 7 [[.d (dI e.k),.d (dI e.n),nl,.d (dI 0),.d (dS (mapC g e.r).1),.d (.tree (R27 1) (dAs (mapC g e.r).2)),.own 112 7 (i)]]),eU 111])) [(110,104),(111,105)] (.inl ⟨0,rfl,rfl,rfl⟩) ⟨kd,kd,kX,kX,kd,kd,kd,kd,kb 104 rfl (.cons (.cons .dt (.cons .dt (.cons .dt (.cons .dt (.cons .dt (.cons .dt (.cons .dt Ctos.nil))))))) .nil),kb 105 rfl (.cons (.cons .dt (.cons .dt (.cons .dt (.cons .dt (.cons .dt (.cons .dt (.cons .dt Ctos.nil))))))) .nil),trivial⟩ ?_
   rintro m σ (⟨i,hm0,rfl,rfl⟩|⟨i,F,hm0,hi1,hi2,hFD,rfl⟩)
   ·skip
    refine .r<|.c .ls<|.nn<|.seq ?_
    refine .cD rfl (fun h33=>?_) (fun h33=>?_)
    ·skip
     obtain⟨x,hx1⟩:∃x,e.ks[0]?=some x:=⟨_,List.getElem?_eq_getElem (by omega)⟩
     refine .skip<|ks_n<|.seq<|.block<|.r<|.c (.xL 64 7 112 rfl rfl rfl rfl rfl (rE_at hx1)) ?_
     refine .c (.lN 7)<|.c (.al 107 [.int .i64 0,.int .i64 0,.slice none 0 0,.int .i64 0,.string ByteArray.empty,.slice none 0 0,.slice none 0 0])<|.c (.sT 7 true)<|.nn ?_
     refine ACode.drawT (by kernel_rfl) (by kernel_rfl) (fun Uq10_2=>?_)
     refine .cons (fun _=>.fB 6 0 false)<|.cons (fun _=>.b1 1)<|.cons (fun _=>.bN 7)<|.cons (fun _=>.m) ?_
     refine .cT [.tmp 38,.tmp 39] rfl rfl (fun _=>rfl) (fun _=>rfl) (ih x (List.mem_of_getElem? hx1)) rfl rfl nosrcV ?_
     refine .cons (fun _=>.li 64 6 0 [.tmp 40]) ?_
     refine .cons (fun _=>(St1.appN (k':=142) (e:=64) (sz:=6) (by':=112) rfl rfl rfl rfl rfl (by kernel_rfl) rfl rfl rfl (by simp) (by first|(simp[dR,tagRs_len];done)|(simp[dR,tagRs_len];omega)) rfl rfl)) ?_
     refine .cons (fun _=>.fB 6 0 false)<|.cons (fun _=>.sT 1 false) ?_
     refine .nil ⟨⟨fun _=>by kernel_rfl,by repeat' (first|exact trivial|exact .inr (.inl rfl)|exact .inr (.inr fun _ _=>rfl)|refine⟨?_,?_⟩|exact .inl (by kernel_rfl)),rfl⟩,fun ρq10_2 Nq10_2 Fq10_2 Wq10_2=>?_⟩
     obtain⟨hR40,dR40,pR40⟩:=Fq10_2.hR Wq10_2 4 rfl rfl
     refine kb_n<|ks_n<|.region<|.c .pl<|.c .m<|.nil ?_
     refine kl_k [(110,110),(111,111),(112,142)] (.inr ⟨1,nextF noF 0 (ρq10_2 4),rfl,by omega,by omega,(FD.zero (or2 O (R27 1)) colX noF).next (new_E hR40 ((HasE.of (gh_has rfl)).or (.of (Has.box (i:=0) (j:=5) 111 rfl rfl rfl (.d (.tree _)))))) dR40 (fun _ _ _ _ h=>by omega),rfl⟩) ⟨kd,kd,kX,kX,kd,kd,kd,kd,kb 110 rfl (.cons (.cons .dt (.cons .dt (.cons .dt (.cons .dt (.cons .dt (.cons .dt (.cons .dt Ctos.nil))))))) .nil),kb 142 rfl (.dt rfl (by first|rfl|(rw[←dR_tagT hx1];rfl)|(rw[←dR_tag0 hx1];rfl))),kb 111 rfl (.cons (.cons .dt (.cons .dt (.cons .dt (.cons .dt (.cons .dt (.cons .dt (.cons .ow Ctos.nil))))))) .nil),trivial⟩
    ·skip
     have hn:e.ks=[]:=List.eq_nil_of_length_eq_zero (by omega)
     refine .exit<|ks_e<|kl_e<|kb_hit<|ks_n<|.r<|.c (.bN 7)<|.c (.sT 7 true)<|.nn<|.ret ?_
     refine kt_wret (nthS [none',none',none',none',none',R27 1,none']) [eB 4 100 7,(.b 100,.b 64 7 [[.d (dI e.k),.d (dI e.n),(.d (.tree none' (dIs (if e.k=2 then g e.i else([],0)).1))),.d (dI (if e.k=2 then g e.i else([],0)).2),.d (dS (if e.k=3 then mapC g e.r else(ByteArray.empty,[])).1),(.d (.tree (R27 1) (dAs (if e.k=3 then mapC g e.r else(ByteArray.empty,[])).2))),(.d (.tree none' (dEs (e.ks.map (mapE g)))))]]),eU 100] (Wk.keep [(100,110)] rfl rfl ⟨kX,kb 110 rfl (.cons (.cons .dt (.cons .dt (.cons (Cto.nilTE 1 (by rw[if_neg (show ¬e.k=2 by first|assumption|omega)];rfl)) (.cons (.dt (by first|(rw[if_pos h15];done)|(rw[if_pos h22];done)|(rw[if_neg (show ¬e.k=2 by omega)];done)|(rw[if_neg (show ¬e.k=3 by omega)];done))) (.cons (.dt (by first|(rw[if_pos h15];done)|(rw[if_pos h22];done)|(rw[if_neg (show ¬e.k=2 by omega)];done)|(rw[if_neg (show ¬e.k=3 by omega)];done))) (.cons (.dt (by rw[if_pos h22])) (.cons (Cto.nilTE 7 (by rw[hn];rfl)) Ctos.nil))))))) .nil),trivial⟩) rfl ?_ ?_ ?_
     ·rw[rX_map];rfl
     ·exact nthS_dis (by first|(simp only[List.pairwise_cons,List.forall_mem_cons,List.not_mem_nil,false_implies,implies_true,and_true,List.Pairwise.nil];done)|(simp only[List.pairwise_cons,List.forall_mem_cons,List.not_mem_nil,false_implies,implies_true,and_true,List.Pairwise.nil];simp[none'];done)|(simp only[List.pairwise_cons,List.forall_mem_cons,List.not_mem_nil,false_implies,implies_true,and_true,List.Pairwise.nil];simp[none'];exact fun b h1 h2=>hNO b h2 (.inr h1)))
     ·exact nthS_all (by simp only[List.forall_mem_cons,List.not_mem_nil,false_implies,implies_true,and_true];exact⟨(fun b h=>h.elim),(fun b h=>h.elim),(fun b h=>h.elim),(fun b h=>h.elim),(fun b h=>h.elim),(fun b h=>.inr ((new_of hR27 (gh_has rfl) 1) b h)),(fun b h=>h.elim)⟩)
   ·skip
    refine .r<|.c .ls<|.nn<|.seq ?_
    refine .cD rfl (fun h33=>?_) (fun h33=>?_)
    ·skip
     obtain⟨x,hx1⟩:∃x,e.ks[i]?=some x:=⟨_,List.getElem?_eq_getElem (by omega)⟩
     refine .skip<|ks_n<|.seq<|.block<|.r<|.c (.xL 64 7 112 rfl rfl rfl rfl rfl (rE_at hx1)) ?_
     refine .c (.lN 7)<|.c (.al 107 [.int .i64 0,.int .i64 0,.slice none 0 0,.int .i64 0,.string ByteArray.empty,.slice none 0 0,.slice none 0 0])<|.c (.sT 7 true)<|.nn ?_
     refine ACode.drawT (by kernel_rfl) (by kernel_rfl) (fun Uq10_3=>?_)
     refine .cons (fun _=>.fB 6 0 false)<|.cons (fun _=>.b1 1)<|.cons (fun _=>.bN 7)<|.cons (fun _=>.m) ?_
     refine .cT [.tmp 38,.tmp 39] rfl rfl (fun _=>rfl) (fun _=>rfl) (ih x (List.mem_of_getElem? hx1)) rfl rfl nosrcV ?_
     refine .cons (fun _=>.li 64 6 0 [.tmp 40]) ?_
     refine .cons (fun _=>(St1.appB (k':=142) (e:=64) (sz:=6) (by':=112) rfl rfl rfl rfl rfl (by kernel_rfl) rfl rfl rfl rfl (by first|(simp[dR,tagRs_len];done)|(simp[dR,tagRs_len];omega)) (by first|(simp[dR,tagRs_len];done)|(simp[dR,tagRs_len];omega)) rfl rfl rfl)) ?_
     refine .cons (fun _=>.fB 6 0 false)<|.cons (fun _=>.sT 1 false) ?_
     refine .nil ⟨⟨fun _=>by kernel_rfl,by repeat' (first|exact trivial|exact .inr (.inl rfl)|exact .inr (.inr fun _ _=>rfl)|refine⟨?_,?_⟩|exact .inl (by kernel_rfl)),rfl⟩,fun ρq10_3 Nq10_3 Fq10_3 Wq10_3=>?_⟩
     obtain⟨hR40,dR40,pR40⟩:=Fq10_3.hR Wq10_3 4 rfl rfl
     have hRF:∀q c c' b,q<i→colX c→F q c b→¬(ρq10_3 4) c' b:=fun q c c' b hq hc hF hb=>by
      obtain⟨y,_,hy⟩:=tm_at (fn:=(fun x=>rX (mapE g x))) hi2 hq
      rcases hc with rfl|rfl|rfl
      ·exact new_of hR40 (Has.rows (k:=112) rfl hy rfl) c' b hb hF
      ·exact new_of hR40 (Has.rows (k:=112) rfl hy rfl) c' b hb hF
      ·exact new_of hR40 (Has.rows (k:=112) rfl hy rfl) c' b hb hF
     refine kb_n<|ks_n<|.region<|.c .pl<|.c .m<|.nil ?_
     refine kl_k [(110,110),(111,111),(112,142)] (.inr ⟨i+1,nextF F i (ρq10_3 4),rfl,by omega,by omega,hFD.next (new_E hR40 ((HasE.of (gh_has rfl)).or (.of (Has.box (i:=0) (j:=5) 111 rfl rfl rfl (.d (.tree _)))))) dR40 hRF,rfl⟩) ⟨kd,kd,kX,kX,kd,kd,kd,kd,kb 110 rfl (.cons (.cons .dt (.cons .dt (.cons .dt (.cons .dt (.cons .dt (.cons .dt (.cons .dt Ctos.nil))))))) .nil),kb 142 rfl (.dt rfl (by first|rfl|(rw[←dR_tagT hx1];rfl)|(rw[←dR_tag0 hx1];rfl))),kb 111 rfl (.cons (.cons .dt (.cons .dt (.cons .dt (.cons .dt (.cons .dt (.cons .dt (.cons .ow Ctos.nil))))))) .nil),trivial⟩
    ·skip
     obtain rfl:i=e.ks.length:=by omega
     refine .exit<|ks_e<|kl_e<|kb_hit<|ks_n<|.seq ?_
     refine .keep [eB 4 570 7,eB 5 571 7,(.t 9999,.v (.gh O)),(.b 570,.b 64 7 [[.d (dI 0),.d (dI 0),nl,.d (dI 0),.d (dS ByteArray.empty),nl,nl]]),eU 570,(.b 572,.b 64 7 (dR (tagRs F 0 ((e.ks.map (mapE g)).map rE)))),eU 572,(.b 571,.b 64 7 [[.d (dI e.k),.d (dI e.n),nl,.d (dI 0),.d (dS (mapC g e.r).1),.d (.tree (R27 1) (dAs (mapC g e.r).2)),.own 572 7 (((e.ks.map (mapE g)).map rE).length)]]),eU 571] [(570,110),(571,111),(572,112)] ⟨kX,kX,kd,kb 110 rfl (.cons (.cons .dt (.cons .dt (.cons .dt (.cons .dt (.cons .dt (.cons .dt (.cons .dt Ctos.nil))))))) .nil),kb 112 rfl (.dt rfl (by rw[tag_ex])),kb 111 rfl (.cons (.cons .dt (.cons .dt (.cons .dt (.cons .dt (.cons .dt (.cons .dt (.cons .ow Ctos.nil))))))) .nil),trivial⟩ ?_
     refine ACode.packB 571 0 6 572 (rows:=(e.ks.map (mapE g)).map rE) (F:=F) rfl rfl rfl rfl rfl (plain_map plE) (hFD.pos (by simp) (fun i j h=>isPos_L posE h)) (by simp;omega) (fun N hN=>?_)
     have hNO:=hN.outE ((HasE.of (gh_has rfl)).or (.of (Has.box (i:=0) (j:=5) 571 rfl rfl rfl (.d (.tree _))))) hFD (by simp) (fun i j h=>isPos_L posE h)
     refine .region<|.c (.bN 7)<|.c (.sT 7 true)<|.nn<|.ret ?_
     refine kt_wret (nthS [none',none',none',none',none',R27 1,N]) [eB 4 100 7,(.b 100,.b 64 7 [[.d (dI e.k),.d (dI e.n),(.d (.tree none' (dIs (if e.k=2 then g e.i else([],0)).1))),.d (dI (if e.k=2 then g e.i else([],0)).2),.d (dS (if e.k=3 then mapC g e.r else(ByteArray.empty,[])).1),(.d (.tree (R27 1) (dAs (if e.k=3 then mapC g e.r else(ByteArray.empty,[])).2))),.d (.tree N (dEs (e.ks.map (mapE g))))]]),eU 100] (Wk.keep [(100,570)] rfl rfl ⟨kX,kb 570 rfl (.cons (.cons .dt (.cons .dt (.cons (Cto.nilTE 1 (by rw[if_neg (show ¬e.k=2 by first|assumption|omega)];rfl)) (.cons (.dt (by first|(rw[if_pos h15];done)|(rw[if_pos h22];done)|(rw[if_neg (show ¬e.k=2 by omega)];done)|(rw[if_neg (show ¬e.k=3 by omega)];done))) (.cons (.dt (by first|(rw[if_pos h15];done)|(rw[if_pos h22];done)|(rw[if_neg (show ¬e.k=2 by omega)];done)|(rw[if_neg (show ¬e.k=3 by omega)];done))) (.cons (.dt (by rw[if_pos h22])) (.cons .dt Ctos.nil))))))) .nil),trivial⟩) rfl ?_ ?_ ?_
     ·rw[rX_map];rfl
     ·exact nthS_dis (by first|(simp only[List.pairwise_cons,List.forall_mem_cons,List.not_mem_nil,false_implies,implies_true,and_true,List.Pairwise.nil];done)|(simp only[List.pairwise_cons,List.forall_mem_cons,List.not_mem_nil,false_implies,implies_true,and_true,List.Pairwise.nil];simp[none'];done)|(simp only[List.pairwise_cons,List.forall_mem_cons,List.not_mem_nil,false_implies,implies_true,and_true,List.Pairwise.nil];simp[none'];exact fun b h1 h2=>hNO b h2 (.inr h1)))
     ·exact nthS_all (by simp only[List.forall_mem_cons,List.not_mem_nil,false_implies,implies_true,and_true];exact⟨(fun b h=>h.elim),(fun b h=>h.elim),(fun b h=>h.elim),(fun b h=>h.elim),(fun b h=>h.elim),(fun b h=>.inr ((new_of hR27 (gh_has rfl) 1) b h)),(fun b h=>.inr (fun hO=>hNO b h (.inl hO)))⟩)
  ·skip
   refine .skip<|kb_n<|ks_n<|.seq<|.r<|.c (.fP 6 0 false)<|.c (.l1 1)<|.c (.ln 64 7 112)<|.c .m<|.nn<|.block ?_
   refine .loopK (fun m σ=>(∃i:Nat,m=e.ks.length -i∧(i=0)∧σ=[(.t 1,.v (.o (.c (.fn f cap)))),eP 2 (rX e),eB 4 110 7,eB 5 111 7,eD 30 (dEs e.ks),eN 31 (e.ks.length:Nat),eN 32 (i:Nat),(.t 9999,.v (.gh O)),(.b 110,.b 64 7 [[.d (dI 0),.d (dI 0),nl,.d (dI 0),.d (dS ByteArray.empty),nl,nl]]),eU 110,(.b 111,.b 64 7 [[.d (dI e.k),.d (dI e.n),nl,.d (dI 0),.d (dS ByteArray.empty),nl,nl]]),eU 111])∨(∃(i:Nat) (F:Nat→Nat→Nat→Prop),m=e.ks.length -i∧(1≤i)∧(i≤e.ks.length)∧(FD (O) colX i F)∧σ=[(.t 1,.v (.o (.c (.fn f cap)))),eP 2 (rX e),eB 4 110 7,eB 5 111 7,eD 30 (dEs e.ks),eN 31 (e.ks.length:Nat),eN 32 (i:Nat),(.t 9999,.v (.gh O)),(.b 110,.b 64 7 [[.d (dI 0),.d (dI 0),nl,.d (dI 0),.d (dS ByteArray.empty),nl,nl]]),eU 110,(.b 112,.b 64 7 (dR (tagRs F 0 ((e.ks.take i).map fun x=>rX (mapE g x))))),eU 112,(.b 111,.b 64 7 [[.d (dI e.k),.d (dI e.n),nl,.d (dI 0),.d (dS ByteArray.empty),nl,.own 112 7 (i)]]),eU 111])) [(110,104),(111,105)] (.inl ⟨0,rfl,rfl,rfl⟩) ⟨kd,kd,kX,kX,kd,kd,kd,kd,kb 104 rfl (.cons (.cons .dt (.cons .dt (.cons .dt (.cons .dt (.cons .dt (.cons .dt (.cons .dt Ctos.nil))))))) .nil),kb 105 rfl (.cons (.cons .dt (.cons .dt (.cons .dt (.cons .dt (.cons .dt (.cons .dt (.cons .dt Ctos.nil))))))) .nil),trivial⟩ ?_
   rintro m σ (⟨i,hm0,rfl,rfl⟩|⟨i,F,hm0,hi1,hi2,hFD,rfl⟩)
   ·skip
    refine .r<|.c .ls<|.nn<|.seq ?_
    refine .cD rfl (fun h33=>?_) (fun h33=>?_)
    ·skip
     obtain⟨x,hx1⟩:∃x,e.ks[0]?=some x:=⟨_,List.getElem?_eq_getElem (by omega)⟩
     refine .skip<|ks_n<|.seq<|.block<|.r<|.c (.xL 64 7 112 rfl rfl rfl rfl rfl (rE_at hx1)) ?_
     refine .c (.lN 7)<|.c (.al 107 [.int .i64 0,.int .i64 0,.slice none 0 0,.int .i64 0,.string ByteArray.empty,.slice none 0 0,.slice none 0 0])<|.c (.sT 7 true)<|.nn ?_
     refine ACode.drawT (by kernel_rfl) (by kernel_rfl) (fun Uq10_4=>?_)
     refine .cons (fun _=>.fB 6 0 false)<|.cons (fun _=>.b1 1)<|.cons (fun _=>.bN 7)<|.cons (fun _=>.m) ?_
     refine .cT [.tmp 38,.tmp 39] rfl rfl (fun _=>rfl) (fun _=>rfl) (ih x (List.mem_of_getElem? hx1)) rfl rfl nosrcV ?_
     refine .cons (fun _=>.li 64 6 0 [.tmp 40]) ?_
     refine .cons (fun _=>(St1.appN (k':=142) (e:=64) (sz:=6) (by':=112) rfl rfl rfl rfl rfl (by kernel_rfl) rfl rfl rfl (by simp) (by first|(simp[dR,tagRs_len];done)|(simp[dR,tagRs_len];omega)) rfl rfl)) ?_
     refine .cons (fun _=>.fB 6 0 false)<|.cons (fun _=>.sT 1 false) ?_
     refine .nil ⟨⟨fun _=>by kernel_rfl,by repeat' (first|exact trivial|exact .inr (.inl rfl)|exact .inr (.inr fun _ _=>rfl)|refine⟨?_,?_⟩|exact .inl (by kernel_rfl)),rfl⟩,fun ρq10_4 Nq10_4 Fq10_4 Wq10_4=>?_⟩
     obtain⟨hR40,dR40,pR40⟩:=Fq10_4.hR Wq10_4 4 rfl rfl
     refine kb_n<|ks_n<|.region<|.c .pl<|.c .m<|.nil ?_
     refine kl_k [(110,110),(111,111),(112,142)] (.inr ⟨1,nextF noF 0 (ρq10_4 4),rfl,by omega,by omega,(FD.zero (O) colX noF).next (new_E hR40 (.of (gh_has rfl))) dR40 (fun _ _ _ _ h=>by omega),rfl⟩) ⟨kd,kd,kX,kX,kd,kd,kd,kd,kb 110 rfl (.cons (.cons .dt (.cons .dt (.cons .dt (.cons .dt (.cons .dt (.cons .dt (.cons .dt Ctos.nil))))))) .nil),kb 142 rfl (.dt rfl (by first|rfl|(rw[←dR_tagT hx1];rfl)|(rw[←dR_tag0 hx1];rfl))),kb 111 rfl (.cons (.cons .dt (.cons .dt (.cons .dt (.cons .dt (.cons .dt (.cons .dt (.cons .ow Ctos.nil))))))) .nil),trivial⟩
    ·skip
     have hn:e.ks=[]:=List.eq_nil_of_length_eq_zero (by omega)
     refine .exit<|ks_e<|kl_e<|kb_hit<|ks_n<|.r<|.c (.bN 7)<|.c (.sT 7 true)<|.nn<|.ret ?_
     refine kt_wret (nthS [none',none',none',none',none',none',none']) [eB 4 100 7,(.b 100,.b 64 7 [[.d (dI e.k),.d (dI e.n),(.d (.tree none' (dIs (if e.k=2 then g e.i else([],0)).1))),.d (dI (if e.k=2 then g e.i else([],0)).2),.d (dS (if e.k=3 then mapC g e.r else(ByteArray.empty,[])).1),(.d (.tree none' (dAs (if e.k=3 then mapC g e.r else(ByteArray.empty,[])).2))),(.d (.tree none' (dEs (e.ks.map (mapE g)))))]]),eU 100] (Wk.keep [(100,110)] rfl rfl ⟨kX,kb 110 rfl (.cons (.cons .dt (.cons .dt (.cons (Cto.nilTE 1 (by rw[if_neg (show ¬e.k=2 by first|assumption|omega)];rfl)) (.cons (.dt (by first|(rw[if_pos h15];done)|(rw[if_pos h22];done)|(rw[if_neg (show ¬e.k=2 by omega)];done)|(rw[if_neg (show ¬e.k=3 by omega)];done))) (.cons (.dt (by first|(rw[if_pos h15];done)|(rw[if_pos h22];done)|(rw[if_neg (show ¬e.k=2 by omega)];done)|(rw[if_neg (show ¬e.k=3 by omega)];done))) (.cons (Cto.nilTE 2 (by rw[if_neg (show ¬e.k=3 by first|assumption|omega)];rfl)) (.cons (Cto.nilTE 7 (by rw[hn];rfl)) Ctos.nil))))))) .nil),trivial⟩) rfl ?_ ?_ ?_
     ·rw[rX_map];rfl
     ·exact nthS_dis (by first|(simp only[List.pairwise_cons,List.forall_mem_cons,List.not_mem_nil,false_implies,implies_true,and_true,List.Pairwise.nil];done)|(simp only[List.pairwise_cons,List.forall_mem_cons,List.not_mem_nil,false_implies,implies_true,and_true,List.Pairwise.nil];simp[none'];done)|(simp only[List.pairwise_cons,List.forall_mem_cons,List.not_mem_nil,false_implies,implies_true,and_true,List.Pairwise.nil];simp[none'];exact fun b h1 h2=>hNO b h2 (.inr h1)))
     ·exact nthS_all (by simp only[List.forall_mem_cons,List.not_mem_nil,false_implies,implies_true,and_true];exact⟨(fun b h=>h.elim),(fun b h=>h.elim),(fun b h=>h.elim),(fun b h=>h.elim),(fun b h=>h.elim),(fun b h=>h.elim),(fun b h=>h.elim)⟩)
   ·skip
    refine .r<|.c .ls<|.nn<|.seq ?_
    refine .cD rfl (fun h33=>?_) (fun h33=>?_)
    ·skip
     obtain⟨x,hx1⟩:∃x,e.ks[i]?=some x:=⟨_,List.getElem?_eq_getElem (by omega)⟩
     refine .skip<|ks_n<|.seq<|.block<|.r<|.c (.xL 64 7 112 rfl rfl rfl rfl rfl (rE_at hx1)) ?_
     refine .c (.lN 7)<|.c (.al 107 [.int .i64 0,.int .i64 0,.slice none 0 0,.int .i64 0,.string ByteArray.empty,.slice none 0 0,.slice none 0 0])<|.c (.sT 7 true)<|.nn ?_
     refine ACode.drawT (by kernel_rfl) (by kernel_rfl) (fun Uq10_5=>?_)
     refine .cons (fun _=>.fB 6 0 false)<|.cons (fun _=>.b1 1)<|.cons (fun _=>.bN 7)<|.cons (fun _=>.m) ?_
     refine .cT [.tmp 38,.tmp 39] rfl rfl (fun _=>rfl) (fun _=>rfl) (ih x (List.mem_of_getElem? hx1)) rfl rfl nosrcV ?_
     refine .cons (fun _=>.li 64 6 0 [.tmp 40]) ?_
     refine .cons (fun _=>(St1.appB (k':=142) (e:=64) (sz:=6) (by':=112) rfl rfl rfl rfl rfl (by kernel_rfl) rfl rfl rfl rfl (by first|(simp[dR,tagRs_len];done)|(simp[dR,tagRs_len];omega)) (by first|(simp[dR,tagRs_len];done)|(simp[dR,tagRs_len];omega)) rfl rfl rfl)) ?_
     refine .cons (fun _=>.fB 6 0 false)<|.cons (fun _=>.sT 1 false) ?_
     refine .nil ⟨⟨fun _=>by kernel_rfl,by repeat' (first|exact trivial|exact .inr (.inl rfl)|exact .inr (.inr fun _ _=>rfl)|refine⟨?_,?_⟩|exact .inl (by kernel_rfl)),rfl⟩,fun ρq10_5 Nq10_5 Fq10_5 Wq10_5=>?_⟩
     obtain⟨hR40,dR40,pR40⟩:=Fq10_5.hR Wq10_5 4 rfl rfl
     have hRF:∀q c c' b,q<i→colX c→F q c b→¬(ρq10_5 4) c' b:=fun q c c' b hq hc hF hb=>by
      obtain⟨y,_,hy⟩:=tm_at (fn:=(fun x=>rX (mapE g x))) hi2 hq
      rcases hc with rfl|rfl|rfl
      ·exact new_of hR40 (Has.rows (k:=112) rfl hy rfl) c' b hb hF
      ·exact new_of hR40 (Has.rows (k:=112) rfl hy rfl) c' b hb hF
      ·exact new_of hR40 (Has.rows (k:=112) rfl hy rfl) c' b hb hF
     refine kb_n<|ks_n<|.region<|.c .pl<|.c .m<|.nil ?_
     refine kl_k [(110,110),(111,111),(112,142)] (.inr ⟨i+1,nextF F i (ρq10_5 4),rfl,by omega,by omega,hFD.next (new_E hR40 (.of (gh_has rfl))) dR40 hRF,rfl⟩) ⟨kd,kd,kX,kX,kd,kd,kd,kd,kb 110 rfl (.cons (.cons .dt (.cons .dt (.cons .dt (.cons .dt (.cons .dt (.cons .dt (.cons .dt Ctos.nil))))))) .nil),kb 142 rfl (.dt rfl (by first|rfl|(rw[←dR_tagT hx1];rfl)|(rw[←dR_tag0 hx1];rfl))),kb 111 rfl (.cons (.cons .dt (.cons .dt (.cons .dt (.cons .dt (.cons .dt (.cons .dt (.cons .ow Ctos.nil))))))) .nil),trivial⟩
    ·skip
     obtain rfl:i=e.ks.length:=by omega
     refine .exit<|ks_e<|kl_e<|kb_hit<|ks_n<|.seq ?_
     refine .keep [eB 4 570 7,eB 5 571 7,(.t 9999,.v (.gh O)),(.b 570,.b 64 7 [[.d (dI 0),.d (dI 0),nl,.d (dI 0),.d (dS ByteArray.empty),nl,nl]]),eU 570,(.b 572,.b 64 7 (dR (tagRs F 0 ((e.ks.map (mapE g)).map rE)))),eU 572,(.b 571,.b 64 7 [[.d (dI e.k),.d (dI e.n),nl,.d (dI 0),.d (dS ByteArray.empty),nl,.own 572 7 (((e.ks.map (mapE g)).map rE).length)]]),eU 571] [(570,110),(571,111),(572,112)] ⟨kX,kX,kd,kb 110 rfl (.cons (.cons .dt (.cons .dt (.cons .dt (.cons .dt (.cons .dt (.cons .dt (.cons .dt Ctos.nil))))))) .nil),kb 112 rfl (.dt rfl (by rw[tag_ex])),kb 111 rfl (.cons (.cons .dt (.cons .dt (.cons .dt (.cons .dt (.cons .dt (.cons .dt (.cons .ow Ctos.nil))))))) .nil),trivial⟩ ?_
     refine ACode.packB 571 0 6 572 (rows:=(e.ks.map (mapE g)).map rE) (F:=F) rfl rfl rfl rfl rfl (plain_map plE) (hFD.pos (by simp) (fun i j h=>isPos_L posE h)) (by simp;omega) (fun N hN=>?_)
     have hNO:=hN.outE (.of (gh_has rfl)) hFD (by simp) (fun i j h=>isPos_L posE h)
     refine .region<|.c (.bN 7)<|.c (.sT 7 true)<|.nn<|.ret ?_
     refine kt_wret (nthS [none',none',none',none',none',none',N]) [eB 4 100 7,(.b 100,.b 64 7 [[.d (dI e.k),.d (dI e.n),(.d (.tree none' (dIs (if e.k=2 then g e.i else([],0)).1))),.d (dI (if e.k=2 then g e.i else([],0)).2),.d (dS (if e.k=3 then mapC g e.r else(ByteArray.empty,[])).1),(.d (.tree none' (dAs (if e.k=3 then mapC g e.r else(ByteArray.empty,[])).2))),.d (.tree N (dEs (e.ks.map (mapE g))))]]),eU 100] (Wk.keep [(100,570)] rfl rfl ⟨kX,kb 570 rfl (.cons (.cons .dt (.cons .dt (.cons (Cto.nilTE 1 (by rw[if_neg (show ¬e.k=2 by first|assumption|omega)];rfl)) (.cons (.dt (by first|(rw[if_pos h15];done)|(rw[if_pos h22];done)|(rw[if_neg (show ¬e.k=2 by omega)];done)|(rw[if_neg (show ¬e.k=3 by omega)];done))) (.cons (.dt (by first|(rw[if_pos h15];done)|(rw[if_pos h22];done)|(rw[if_neg (show ¬e.k=2 by omega)];done)|(rw[if_neg (show ¬e.k=3 by omega)];done))) (.cons (Cto.nilTE 2 (by rw[if_neg (show ¬e.k=3 by first|assumption|omega)];rfl)) (.cons .dt Ctos.nil))))))) .nil),trivial⟩) rfl ?_ ?_ ?_
     ·rw[rX_map];rfl
     ·exact nthS_dis (by first|(simp only[List.pairwise_cons,List.forall_mem_cons,List.not_mem_nil,false_implies,implies_true,and_true,List.Pairwise.nil];done)|(simp only[List.pairwise_cons,List.forall_mem_cons,List.not_mem_nil,false_implies,implies_true,and_true,List.Pairwise.nil];simp[none'];done)|(simp only[List.pairwise_cons,List.forall_mem_cons,List.not_mem_nil,false_implies,implies_true,and_true,List.Pairwise.nil];simp[none'];exact fun b h1 h2=>hNO b h2 (.inr h1)))
     ·exact nthS_all (by simp only[List.forall_mem_cons,List.not_mem_nil,false_implies,implies_true,and_true];exact⟨(fun b h=>h.elim),(fun b h=>h.elim),(fun b h=>h.elim),(fun b h=>h.elim),(fun b h=>h.elim),(fun b h=>h.elim),(fun b h=>.inr (hNO b h))⟩)
theorem exprMap_T {f:FuncId} {cap:List (List D)} (hc:callable Tryz.prog f=true) (g:Aff→Aff):∀e:Ex,szE e≤1073741824→(∀x∈affsE e,FnT Tryz.prog f (ad (rA x)::cap.map fun c=>.c (.ptr c)) none' (.str (rA (g x))))→FnT Tryz.prog 180 [ad (rX e),.c (.fn f cap)] none' (.str (rX (mapE g e))):=by
  intro e
  induction e using Ex.rec' with
  |h e ih=>
    intro hs hg
    rw[szE_eq,szC]at hs
    have:=szAs_len e.r.2
    exact exprMap_T1 hc g e (by omega) (by omega) hg fun x hx=>ih x hx (by have:=szEs_mem hx;omega) fun a ha=>hg a (affsE_k hx ha)
def outE (k:Int) (x y:Ex):Ex:=.mk k 0 ([],0) (ByteArray.empty,[]) [x,y]
def shR (A:Nat→Prop) (R:Nat→Nat→Prop):Nat→Nat→Prop
  |0=>none'
  |1=>A
  |j+2=>R j
theorem shR_all {A:Nat→Prop} {R:Nat→Nat→Prop} {Q:Nat→Prop} (h1:∀b,A b→Q b) (h2:∀j b,R j b→Q b):∀j b,shR A R j b→Q b
  |0,b,h=>h.elim
  |1,b,h=>h1 b h
  |j+2,b,h=>h2 j b h
theorem shR_dis {A:Nat→Prop} {R:Nat→Nat→Prop} (h:∀i j b,R i b→R j b→i=j) (h2:∀j b,A b→¬R j b):∀i j b,shR A R i b→shR A R j b→i=j
  |0,j,b,h1,_=>h1.elim
  |1,0,b,_,h3=>h3.elim
  |1,1,b,_,_=>rfl
  |1,j+2,b,h1,h3=>absurd h3 (h2 j b h1)
  |i+2,0,b,_,h3=>h3.elim
  |i+2,1,b,h1,h3=>absurd h1 (h2 i b h3)
  |i+2,j+2,b,h1,h3=>by rw[h i j b h1 h3]
theorem stmtMap_T {f:FuncId} {cap:List (List D)} (hc:callable Tryz.prog f=true) (g:Aff→Aff) (s:Stm) (hs:szS s≤1073741824) (hg:∀x∈affsS s,FnT Tryz.prog f (ad (rA x)::cap.map fun c=>.c (.ptr c)) none' (.str (rA (g x)))):FnT Tryz.prog 156 [ad (rS s),.c (.fn f cap)] (none') (.str (rS (mapS g s))):=by
 have h1:s.1.2.length≤1073741824:=by rw[szS,szC]at hs;have:=szAs_len s.1.2;omega
 have h2:szE s.2≤1073741824:=by rw[szS]at hs;omega
 refine FnT.of_code Tryz.func156 rfl rfl rfl (fun O=>?_)
 refine .r<|.c .bp<|.c (.al 104 [.string ByteArray.empty,.slice none 0 0,.int .i64 0,.int .i64 0,.slice none 0 0,.int .i64 0,.string ByteArray.empty,.slice none 0 0,.slice none 0 0])<|.nn<|.seq ?_
 refine ACode.drawT (by kernel_rfl) (by kernel_rfl) (fun Uq1_0=>?_)
 refine .cons (fun _=>.fP 0 1 true)<|.cons (fun _=>.lN 2)<|.cons (fun _=>.m) ?_
 refine .cT [.tmp 6,.tmp 7] rfl rfl (fun _=>rfl) (fun _=>rfl) (accMap_T hc g s.1 h1 (fun x hx=>hg x (by rw[affsS];exact List.mem_append_left _ hx))) rfl rfl nosrcV ?_
 refine .cons (fun _=>.fP 2 6 true)<|.cons (fun _=>.lN 7)<|.cons (fun _=>.m) ?_
 refine .cT [.tmp 10,.tmp 11] rfl rfl (fun _=>rfl) (fun _=>rfl) (exprMap_T hc g s.2 h2 (fun x hx=>hg x (by rw[affsS];exact List.mem_append_right _ hx))) rfl rfl nosrcV ?_
 refine .cons (fun _=>.bu [(0,.tmp 8),(1,.tmp 12)] [(0,2),(2,7)] [.string ByteArray.empty,.slice none 0 0,.int .i64 0,.int .i64 0,.slice none 0 0,.int .i64 0,.string ByteArray.empty,.slice none 0 0,.slice none 0 0])<|.cons (fun _=>.sT 9 true) ?_
 refine .nil ⟨⟨fun _=>by kernel_rfl,by repeat' (first|exact trivial|exact .inr (.inl rfl)|exact .inl (by decide +kernel)|exact .inr (.inr fun _ _=>rfl)|refine⟨?_,?_⟩),rfl⟩,fun ρq1_0 Nq1_0 Fq1_0 Wq1_0=>?_⟩
 obtain⟨hR8,dR8,pR8⟩:=Fq1_0.hR Wq1_0 3 rfl rfl
 obtain⟨hR12,dR12,pR12⟩:=Fq1_0.hR Wq1_0 7 rfl rfl
 refine ks_n<|.ret ?_
 refine kt_ret (shR ((ρq1_0 3) 1) (ρq1_0 7)) rfl ?_ ?_ ?_
 ·rfl
 ·exact shR_dis dR12 (fun j b h1 h2=>(Fq1_0.two 3 7 rfl rfl rfl rfl rfl (fun b h=>h.elim) (fun b h=>h.elim) 1 j b h1 h2).1.elim)
 ·exact shR_all (fun b h=>.inr (new_of hR8 (gh_has rfl) 1 b h)) (fun j b h=>.inr (new_of hR12 (gh_has rfl) j b h))
theorem ownStmt_T (s:Stm) (hs:szS s≤1073741824):FnT Tryz.prog 115 [ad (rS s)] (none') (.str (rS (mapS id s))):=by
  refine FnT.of_code Tryz.func115 rfl rfl rfl (fun O=>?_)
  refine .r<|.c .bp<|.c (.al 102 [.string ByteArray.empty,.slice none 0 0,.int .i64 0,.int .i64 0,.slice none 0 0,.int .i64 0,.string ByteArray.empty,.slice none 0 0,.slice none 0 0])<|.r<|.c (.lN 9) ?_
  refine AOps.cT [.tmp 3,.func 157] rfl rfl rfl rfl (stmtMap_T (f:=157) (cap:=[]) (by kernel_rfl) id s hs (fun x hx=>ownAff_T x (szS_aff hs x hx))) rfl rfl nosrc (fun R4 hR4 dR4 pR4=>?_)
  refine .c (.sT 9 true)<|.nn<|.ret ?_
  refine kt_ret (R4) rfl ?_ ?_ ?_
  ·rfl
  ·exact dR4
  ·exact fun j b h=>.inr (new_of hR4 (gh_has rfl) j b h)
theorem ownAffs_T (l:List Aff) (hl:szAs l≤1073741824):FnT Tryz.prog 155 [vD (dAs l)] (none') (.one (dAs l)):=by
 have hl2:=szAs_len l
 refine FnT.of_code Tryz.func155 rfl rfl rfl (fun O=>?_)
 refine .r<|.c .a<|.r<|.c .a<|.nn<|.seq<|.r<|.c .m<|.c (.ln 61 2 32)<|.c .m<|.nn<|.block ?_
 refine .loopK (fun m σ=>(∃i:Nat,m=l.length -i∧(i=0)∧σ=[(.t 3,.v (.o (.c (nl)))),eD 6 (dAs l),eN 7 (l.length:Nat),eN 8 (i:Nat),(.t 9999,.v (.gh O))])∨(∃(i:Nat) (F:Nat→Nat→Nat→Prop),m=l.length -i∧(1≤i)∧(i≤l.length)∧(FD (O) colA i F)∧σ=[(.t 3,.v (.o (.c (.own 110 2 (i))))),eD 6 (dAs l),eN 7 (l.length:Nat),eN 8 (i:Nat),(.t 9999,.v (.gh O)),(.b 110,.b 61 2 (dR (tagRs F 0 ((l.take i).map rA)))),eU 110])) [] (.inl ⟨0,rfl,rfl,rfl⟩) ⟨kd,kd,kd,kd,kd,trivial⟩ ?_
 rintro m σ (⟨i,hm0,rfl,rfl⟩|⟨i,F,hm0,hi1,hi2,hFD,rfl⟩)
 ·skip
  refine .r<|.c .ls<|.nn<|.seq ?_
  refine .cD rfl (fun h9=>?_) (fun h9=>?_)
  ·skip
   obtain⟨x,hx1⟩:∃x,l[0]?=some x:=⟨_,List.getElem?_eq_getElem (by omega)⟩
   refine .skip<|ks_n<|.seq<|.block<|.r<|.c (.xL 61 2 32 rfl rfl rfl rfl rfl (map_at hx1)) ?_
   refine .c (.lN 2)<|.c (.al 105 [.slice none 0 0,.int .i64 0])<|.c (.sT 2 true)<|.nn<|.region<|.c .m<|.c (.bN 2) ?_
   refine AOps.cT [.tmp 13] rfl rfl rfl rfl (ownAff_T x (by have:=szAs_mem (List.mem_of_getElem? hx1);omega)) rfl rfl nosrc (fun R14 hR14 dR14 pR14=>?_)
   have hNew:=new_E hR14 (.of (gh_has rfl))
   refine .c (.li 61 1 0 [.tmp 14]) ?_
   refine .c (St1.appN (k':=116) (e:=61) (sz:=1) (by':=32) rfl rfl rfl rfl rfl (by kernel_rfl) rfl rfl rfl (by simp) (by first|(simp[dR,tagRs_len];done)|(simp[dR,tagRs_len];omega)) rfl rfl) ?_
   refine .c .a<|.nil<|kb_n<|ks_n<|.region<|.c .pl<|.c .m<|.nil ?_
   refine kl_k [(110,116)] (.inr ⟨1,nextF noF 0 R14,rfl,by omega,by omega,(FD.zero (O) colA noF).next hNew dR14 (fun _ _ _ _ h=>by omega),rfl⟩) ⟨kW,kd,kd,kd,kd,kb 116 rfl (.dt rfl (by first|rfl|(rw[←dR_tagT hx1];rfl)|(rw[←dR_tag0 hx1];rfl))),trivial⟩
  ·skip
   have hn:l=[]:=List.eq_nil_of_length_eq_zero (by omega)
   refine .exit<|ks_e<|kl_e<|kb_hit<|ks_n<|.r<|.c .m<|.c .a<|.nn<|.ret ?_
   refine kt_wret (nthS [none']) [eD 2 (.tree none' (dAs l))] (Wk.keep [] rfl rfl ⟨ks rfl (.c (Cto.nilTE 2 (by rw[hn];rfl))),trivial⟩) rfl ?_ ?_ ?_
   ·rfl
   ·exact nthS_dis (by first|(simp only[List.pairwise_cons,List.forall_mem_cons,List.not_mem_nil,false_implies,implies_true,and_true,List.Pairwise.nil];done)|(simp only[List.pairwise_cons,List.forall_mem_cons,List.not_mem_nil,false_implies,implies_true,and_true,List.Pairwise.nil];simp[none'];done))
   ·exact nthS_all (by simp only[List.forall_mem_cons,List.not_mem_nil,false_implies,implies_true,and_true];exact(fun b h=>h.elim))
 ·skip
  refine .r<|.c .ls<|.nn<|.seq ?_
  refine .cD rfl (fun h9=>?_) (fun h9=>?_)
  ·skip
   obtain⟨x,hx1⟩:∃x,l[i]?=some x:=⟨_,List.getElem?_eq_getElem (by omega)⟩
   refine .skip<|ks_n<|.seq<|.block<|.r<|.c (.xL 61 2 32 rfl rfl rfl rfl rfl (map_at hx1)) ?_
   refine .c (.lN 2)<|.c (.al 105 [.slice none 0 0,.int .i64 0])<|.c (.sT 2 true)<|.nn<|.region<|.c .m<|.c (.bN 2) ?_
   refine AOps.cT [.tmp 13] rfl rfl rfl rfl (ownAff_T x (by have:=szAs_mem (List.mem_of_getElem? hx1);omega)) rfl rfl nosrc (fun R14 hR14 dR14 pR14=>?_)
   have hNew:=new_E hR14 (.of (gh_has rfl))
   have hRF:∀q c c' b,q<i→colA c→F q c b→¬R14 c' b:=fun q c c' b hq hc hF hb=>by
    obtain⟨y,_,hy⟩:=tm_at (fn:=rA) hi2 hq
    have hc:c=0:=hc
    subst hc
    exact new_of hR14 (Has.rows (k:=110) rfl hy rfl) c' b hb hF
   refine .c (.li 61 1 0 [.tmp 14]) ?_
   refine .c (St1.appB (k':=116) (e:=61) (sz:=1) (by':=32) rfl rfl rfl rfl rfl (by kernel_rfl) rfl rfl rfl rfl (by first|(simp[dR,tagRs_len];done)|(simp[dR,tagRs_len];omega)) (by first|(simp[dR,tagRs_len];done)|(simp[dR,tagRs_len];omega)) rfl rfl rfl) ?_
   refine .c .a<|.nil<|kb_n<|ks_n<|.region<|.c .pl<|.c .m<|.nil ?_
   refine kl_k [(110,116)] (.inr ⟨i+1,nextF F i R14,rfl,by omega,by omega,hFD.next hNew dR14 hRF,rfl⟩) ⟨kW,kd,kd,kd,kd,kb 116 rfl (.dt rfl (by first|rfl|(rw[←dR_tagT hx1];rfl)|(rw[←dR_tag0 hx1];rfl))),trivial⟩
  ·skip
   obtain rfl:i=l.length:=by omega
   refine .exit<|ks_e<|kl_e<|kb_hit<|ks_n<|.seq ?_
   refine .keep [(.t 3,.v (.o (.c (.own 570 2 ((l.map rA).length))))),(.t 9999,.v (.gh O)),(.b 570,.b 61 2 (dR (tagRs F 0 (l.map rA)))),eU 570] [(570,110)] ⟨ks rfl (.c (.ow (by simp))),kd,kb 110 rfl (.dt rfl (by rw[List.take_length])),trivial⟩ ?_
   refine ACode.packC 3 570 (rows:=l.map rA) (F:=F) rfl rfl (plain_map plA) (hFD.pos (by simp) (fun i j h=>isPos_L posA h)) (by simp;omega) (fun N hN=>?_)
   have hNO:=hN.outE (.of (gh_has rfl)) hFD (by simp) (fun i j h=>isPos_L posA h)
   refine .region<|.c .m<|.c .a<|.nn<|.ret ?_
   refine kt_ret (nthS [N]) rfl ?_ ?_ ?_
   ·rfl
   ·exact nthS_dis (by first|(simp only[List.pairwise_cons,List.forall_mem_cons,List.not_mem_nil,false_implies,implies_true,and_true,List.Pairwise.nil];done)|(simp only[List.pairwise_cons,List.forall_mem_cons,List.not_mem_nil,false_implies,implies_true,and_true,List.Pairwise.nil];simp[none'];done))
   ·exact nthS_all (by simp only[List.forall_mem_cons,List.not_mem_nil,false_implies,implies_true,and_true];exact(fun b h=>.inr (hNO b h)))
theorem ownNest_T (l:List Lp) (hl:szLs l≤1073741824):FnT Tryz.prog 114 [vD (dLs l)] (none') (.one (dLs l)):=by
 have hl2:l.length≤szLs l:=by rw[szLs];omega
 refine FnT.of_code Tryz.func114 rfl rfl rfl (fun O=>?_)
 refine .r<|.c .a<|.r<|.c .a<|.nn<|.seq<|.r<|.c .m<|.c (.ln 148 2 48)<|.c .m<|.nn<|.block ?_
 refine .loopK (fun m σ=>(∃i:Nat,m=l.length -i∧(i=0)∧σ=[(.t 3,.v (.o (.c (nl)))),eD 6 (dLs l),eN 7 (l.length:Nat),eN 8 (i:Nat),(.t 9999,.v (.gh O))])∨(∃(i:Nat) (F:Nat→Nat→Nat→Prop),m=l.length -i∧(1≤i)∧(i≤l.length)∧(FD (O) col2 i F)∧σ=[(.t 3,.v (.o (.c (.own 110 2 (i))))),eD 6 (dLs l),eN 7 (l.length:Nat),eN 8 (i:Nat),(.t 9999,.v (.gh O)),(.b 110,.b 148 2 (dR (tagRs F 0 ((l.take i).map rL)))),eU 110])) [] (.inl ⟨0,rfl,rfl,rfl⟩) ⟨kd,kd,kd,kd,kd,trivial⟩ ?_
 rintro m σ (⟨i,hm0,rfl,rfl⟩|⟨i,F,hm0,hi1,hi2,hFD,rfl⟩)
 ·skip
  refine .r<|.c .ls<|.nn<|.seq ?_
  refine .cD rfl (fun h9=>?_) (fun h9=>?_)
  ·skip
   obtain⟨x,hx1⟩:∃x,l[0]?=some x:=⟨_,List.getElem?_eq_getElem (by omega)⟩
   refine .skip<|ks_n<|.seq<|.block<|.r<|.c (.xL 148 2 48 rfl rfl rfl rfl rfl (map_at hx1)) ?_
   refine .c (.lN 2)<|.c (.al 105 [.slice none 0 0,.slice none 0 0])<|.c (.sT 2 true)<|.nn ?_
   refine ACode.drawT (by kernel_rfl) (by kernel_rfl) (fun Uq5_0=>?_)
   refine .cons (fun _=>.m)<|.cons (fun _=>.fB 0 0 false)<|.cons (fun _=>.b1 1) ?_
   refine .cT [.tmp 14] rfl rfl (fun _=>rfl) (fun _=>rfl) (ownAffs_T x.1 (by have:=szLs_mem (List.mem_of_getElem? hx1);rw[szL]at this;omega)) rfl rfl nosrcV ?_
   refine .cons (fun _=>.fB 1 0 false)<|.cons (fun _=>.b1 1) ?_
   refine .cT [.tmp 17] rfl rfl (fun _=>rfl) (fun _=>rfl) (ownAffs_T x.2 (by have:=szLs_mem (List.mem_of_getElem? hx1);rw[szL]at this;omega)) rfl rfl nosrcV ?_
   refine .cons (fun _=>.bu [(0,.tmp 15),(1,.tmp 18)] [(0,1),(1,1)] [.slice none 0 0,.slice none 0 0])<|.cons (fun _=>.li 148 1 0 [.tmp 19]) ?_
   refine .cons (fun _=>(St1.appN (k':=121) (e:=148) (sz:=1) (by':=48) rfl rfl rfl rfl rfl (by kernel_rfl) rfl rfl rfl (by simp) (by first|(simp[dR,tagRs_len];done)|(simp[dR,tagRs_len];omega)) rfl rfl)) ?_
   refine .cons (fun _=>.a) ?_
   refine .nil ⟨⟨fun _=>by kernel_rfl,by repeat' (first|exact trivial|exact .inr (.inl rfl)|exact .inl (by decide +kernel)|exact .inr (.inr fun _ _=>rfl)|refine⟨?_,?_⟩),rfl⟩,fun ρq5_0 Nq5_0 Fq5_0 Wq5_0=>?_⟩
   obtain⟨hR15,dR15,pR15⟩:=Fq5_0.hR Wq5_0 3 rfl rfl
   obtain⟨hR18,dR18,pR18⟩:=Fq5_0.hR Wq5_0 6 rfl rfl
   have hAB:∀b,(ρq5_0 3) 0 b→¬(ρq5_0 6) 0 b:=fun b h1 h2=>(Fq5_0.two 3 6 rfl rfl rfl rfl rfl (fun b h=>h.elim) (fun b h=>h.elim) 0 0 b h1 h2).1.elim
   have hdR:∀c c' b,(nthS [(ρq5_0 3) 0,(ρq5_0 6) 0]) c b→(nthS [(ρq5_0 3) 0,(ρq5_0 6) 0]) c' b→c=c':=nthS_dis (by simp only[List.pairwise_cons,List.forall_mem_cons,List.not_mem_nil,false_implies,implies_true,and_true,List.Pairwise.nil];exact hAB)
   have hNew:∀c b,(nthS [(ρq5_0 3) 0,(ρq5_0 6) 0]) c b→¬O b:=nthS_all (by simp only[List.forall_mem_cons,List.not_mem_nil,false_implies,implies_true,and_true];exact⟨new_of hR15 (gh_has rfl) 0,new_of hR18 (gh_has rfl) 0⟩)
   refine kb_n<|ks_n<|.region<|.c .pl<|.c .m<|.nil ?_
   refine kl_k [(110,121)] (.inr ⟨1,nextF noF 0 (nthS [(ρq5_0 3) 0,(ρq5_0 6) 0]),rfl,by omega,by omega,(FD.zero (O) col2 noF).next hNew hdR (fun _ _ _ _ h=>by omega),rfl⟩) ⟨kW,kd,kd,kd,kd,kb 121 rfl (.dt rfl (by first|rfl|(rw[←dR_tagT hx1];rfl)|(rw[←dR_tag0 hx1];rfl))),trivial⟩
  ·skip
   have hn:l=[]:=List.eq_nil_of_length_eq_zero (by omega)
   refine .exit<|ks_e<|kl_e<|kb_hit<|ks_n<|.r<|.c .m<|.c .a<|.nn<|.ret ?_
   refine kt_wret (nthS [none']) [eD 2 (.tree none' (dLs l))] (Wk.keep [] rfl rfl ⟨ks rfl (.c (Cto.nilTE 2 (by rw[hn];rfl))),trivial⟩) rfl ?_ ?_ ?_
   ·rfl
   ·exact nthS_dis (by first|(simp only[List.pairwise_cons,List.forall_mem_cons,List.not_mem_nil,false_implies,implies_true,and_true,List.Pairwise.nil];done)|(simp only[List.pairwise_cons,List.forall_mem_cons,List.not_mem_nil,false_implies,implies_true,and_true,List.Pairwise.nil];simp[none'];done))
   ·exact nthS_all (by simp only[List.forall_mem_cons,List.not_mem_nil,false_implies,implies_true,and_true];exact(fun b h=>h.elim))
 ·skip
  refine .r<|.c .ls<|.nn<|.seq ?_
  refine .cD rfl (fun h9=>?_) (fun h9=>?_)
  ·skip
   obtain⟨x,hx1⟩:∃x,l[i]?=some x:=⟨_,List.getElem?_eq_getElem (by omega)⟩
   refine .skip<|ks_n<|.seq<|.block<|.r<|.c (.xL 148 2 48 rfl rfl rfl rfl rfl (map_at hx1)) ?_
   refine .c (.lN 2)<|.c (.al 105 [.slice none 0 0,.slice none 0 0])<|.c (.sT 2 true)<|.nn ?_
   refine ACode.drawT (by kernel_rfl) (by kernel_rfl) (fun Uq5_1=>?_)
   refine .cons (fun _=>.m)<|.cons (fun _=>.fB 0 0 false)<|.cons (fun _=>.b1 1) ?_
   refine .cT [.tmp 14] rfl rfl (fun _=>rfl) (fun _=>rfl) (ownAffs_T x.1 (by have:=szLs_mem (List.mem_of_getElem? hx1);rw[szL]at this;omega)) rfl rfl nosrcV ?_
   refine .cons (fun _=>.fB 1 0 false)<|.cons (fun _=>.b1 1) ?_
   refine .cT [.tmp 17] rfl rfl (fun _=>rfl) (fun _=>rfl) (ownAffs_T x.2 (by have:=szLs_mem (List.mem_of_getElem? hx1);rw[szL]at this;omega)) rfl rfl nosrcV ?_
   refine .cons (fun _=>.bu [(0,.tmp 15),(1,.tmp 18)] [(0,1),(1,1)] [.slice none 0 0,.slice none 0 0])<|.cons (fun _=>.li 148 1 0 [.tmp 19]) ?_
   refine .cons (fun _=>(St1.appB (k':=121) (e:=148) (sz:=1) (by':=48) rfl rfl rfl rfl rfl (by kernel_rfl) rfl rfl rfl rfl (by first|(simp[dR,tagRs_len];done)|(simp[dR,tagRs_len];omega)) (by first|(simp[dR,tagRs_len];done)|(simp[dR,tagRs_len];omega)) rfl rfl rfl)) ?_
   refine .cons (fun _=>.a) ?_
   refine .nil ⟨⟨fun _=>by kernel_rfl,by repeat' (first|exact trivial|exact .inr (.inl rfl)|exact .inl (by decide +kernel)|exact .inr (.inr fun _ _=>rfl)|refine⟨?_,?_⟩),rfl⟩,fun ρq5_1 Nq5_1 Fq5_1 Wq5_1=>?_⟩
   obtain⟨hR15,dR15,pR15⟩:=Fq5_1.hR Wq5_1 3 rfl rfl
   obtain⟨hR18,dR18,pR18⟩:=Fq5_1.hR Wq5_1 6 rfl rfl
   have hAB:∀b,(ρq5_1 3) 0 b→¬(ρq5_1 6) 0 b:=fun b h1 h2=>(Fq5_1.two 3 6 rfl rfl rfl rfl rfl (fun b h=>h.elim) (fun b h=>h.elim) 0 0 b h1 h2).1.elim
   have hdR:∀c c' b,(nthS [(ρq5_1 3) 0,(ρq5_1 6) 0]) c b→(nthS [(ρq5_1 3) 0,(ρq5_1 6) 0]) c' b→c=c':=nthS_dis (by simp only[List.pairwise_cons,List.forall_mem_cons,List.not_mem_nil,false_implies,implies_true,and_true,List.Pairwise.nil];exact hAB)
   have hNew:∀c b,(nthS [(ρq5_1 3) 0,(ρq5_1 6) 0]) c b→¬O b:=nthS_all (by simp only[List.forall_mem_cons,List.not_mem_nil,false_implies,implies_true,and_true];exact⟨new_of hR15 (gh_has rfl) 0,new_of hR18 (gh_has rfl) 0⟩)
   have hRF:∀q c c' b,q<i→col2 c→F q c b→¬(nthS [(ρq5_1 3) 0,(ρq5_1 6) 0]) c' b:=fun q c c' b hq hc hF=>by
    obtain⟨y,_,hy⟩:=tm_at (fn:=rL) hi2 hq
    rcases hc with rfl|rfl
    ·exact fun hb=>nthS_all (Q:=fun b=>¬F q _ b) (by simp only[List.forall_mem_cons,List.not_mem_nil,false_implies,implies_true,and_true];exact⟨new_of hR15 (Has.rows (k:=110) rfl hy rfl) 0,new_of hR18 (Has.rows (k:=110) rfl hy rfl) 0⟩) c' b hb hF
    ·exact fun hb=>nthS_all (Q:=fun b=>¬F q _ b) (by simp only[List.forall_mem_cons,List.not_mem_nil,false_implies,implies_true,and_true];exact⟨new_of hR15 (Has.rows (k:=110) rfl hy rfl) 0,new_of hR18 (Has.rows (k:=110) rfl hy rfl) 0⟩) c' b hb hF
   refine kb_n<|ks_n<|.region<|.c .pl<|.c .m<|.nil ?_
   refine kl_k [(110,121)] (.inr ⟨i+1,nextF F i (nthS [(ρq5_1 3) 0,(ρq5_1 6) 0]),rfl,by omega,by omega,hFD.next hNew hdR hRF,rfl⟩) ⟨kW,kd,kd,kd,kd,kb 121 rfl (.dt rfl (by first|rfl|(rw[←dR_tagT hx1];rfl)|(rw[←dR_tag0 hx1];rfl))),trivial⟩
  ·skip
   obtain rfl:i=l.length:=by omega
   refine .exit<|ks_e<|kl_e<|kb_hit<|ks_n<|.seq ?_
   refine .keep [(.t 3,.v (.o (.c (.own 570 2 ((l.map rL).length))))),(.t 9999,.v (.gh O)),(.b 570,.b 148 2 (dR (tagRs F 0 (l.map rL)))),eU 570] [(570,110)] ⟨ks rfl (.c (.ow (by simp))),kd,kb 110 rfl (.dt rfl (by rw[List.take_length])),trivial⟩ ?_
   refine ACode.packC 3 570 (rows:=l.map rL) (F:=F) rfl rfl (plain_map plL) (hFD.pos (by simp) (fun i j h=>isPos_L posL h)) (by simp;omega) (fun N hN=>?_)
   have hNO:=hN.outE (.of (gh_has rfl)) hFD (by simp) (fun i j h=>isPos_L posL h)
   refine .region<|.c .m<|.c .a<|.nn<|.ret ?_
   refine kt_ret (nthS [N]) rfl ?_ ?_ ?_
   ·rfl
   ·exact nthS_dis (by first|(simp only[List.pairwise_cons,List.forall_mem_cons,List.not_mem_nil,false_implies,implies_true,and_true,List.Pairwise.nil];done)|(simp only[List.pairwise_cons,List.forall_mem_cons,List.not_mem_nil,false_implies,implies_true,and_true,List.Pairwise.nil];simp[none'];done))
   ·exact nthS_all (by simp only[List.forall_mem_cons,List.not_mem_nil,false_implies,implies_true,and_true];exact(fun b h=>.inr (hNO b h)))
theorem ownStmtI_T (x:Stm) (hs:szS x≤1073741824) (hid:mapS id x=x):FnT Tryz.prog 115 [ad (rS x)] none' (.str (rS x)):=by
  have h:=ownStmt_T x hs
  rw[hid]at h
  exact h
theorem ownPart_T (q:Prt) (hl:szLs q.1≤1073741824) (hk:q.2.length≤1073741824) (hs:∀x∈q.2,szS x≤1073741824) (hid:∀x∈q.2,mapS id x=x):FnT Tryz.prog 68 [ad (rP q)] (none') (.str (rP q)):=by
 refine FnT.of_code Tryz.func68 rfl rfl rfl (fun O=>?_)
 refine .r<|.c .bp<|.c (.al 102 [.slice none 0 0,.slice none 0 0])<|.r<|.c (.fP 0 0 false)<|.c (.l1 1) ?_
 refine AOps.cT [.tmp 7] rfl rfl rfl rfl (ownNest_T q.1 hl) rfl rfl nosrc (fun R8 hR8 dR8 pR8=>?_)
 refine .c (.bu [(0,.tmp 8)] [(0,1),(1,1)] [.slice none 0 0,.slice none 0 0])<|.c (.al 103 [.slice none 0 0,.slice none 0 0])<|.c (.sT 2 true)<|.nn<|.seq<|.r<|.c (.fP 1 0 false)<|.c (.l1 1)<|.c (.ln 66 9 152)<|.c .m<|.nn<|.block ?_
 refine .loopK (fun m σ=>(∃i:Nat,m=q.2.length -i∧(i=0)∧σ=[eP 1 (rP q),eB 2 110 2,eB 3 111 2,eD 11 (dMs q.2),eN 12 (q.2.length:Nat),eN 13 (i:Nat),(.t 9999,.v (.gh O)),(.b 110,.b 80 2 [[nl,nl]]),eU 110,(.b 111,.b 80 2 [[.d (.tree (R8 0) (dLs q.1)),nl]]),eU 111])∨(∃(i:Nat) (F:Nat→Nat→Nat→Prop),m=q.2.length -i∧(1≤i)∧(i≤q.2.length)∧(FD (or2 O (R8 0)) colS i F)∧σ=[eP 1 (rP q),eB 2 110 2,eB 3 111 2,eD 11 (dMs q.2),eN 12 (q.2.length:Nat),eN 13 (i:Nat),(.t 9999,.v (.gh O)),(.b 110,.b 80 2 [[nl,nl]]),eU 110,(.b 112,.b 66 9 (dR (tagRs F 0 ((q.2.take i).map rS)))),eU 112,(.b 111,.b 80 2 [[.d (.tree (R8 0) (dLs q.1)),.own 112 9 (i)]]),eU 111])) [(110,102),(111,103)] (.inl ⟨0,rfl,rfl,rfl⟩) ⟨kd,kX,kX,kd,kd,kd,kd,kb 102 rfl (.r2 .dt .dt),kb 103 rfl (.r2 .dt .dt),trivial⟩ ?_
 rintro m σ (⟨i,hm0,rfl,rfl⟩|⟨i,F,hm0,hi1,hi2,hFD,rfl⟩)
 ·skip
  refine .r<|.c .ls<|.nn<|.seq ?_
  refine .cD rfl (fun h14=>?_) (fun h14=>?_)
  ·skip
   obtain⟨x,hx1⟩:∃x,q.2[0]?=some x:=⟨_,List.getElem?_eq_getElem (by omega)⟩
   refine .skip<|ks_n<|.seq<|.block<|.r<|.c (.xL 66 9 152 rfl rfl rfl rfl rfl (map_at hx1)) ?_
   refine .c (.lN 9)<|.c (.al 105 [.string ByteArray.empty,.slice none 0 0,.int .i64 0,.int .i64 0,.slice none 0 0,.int .i64 0,.string ByteArray.empty,.slice none 0 0,.slice none 0 0])<|.c (.sT 9 true)<|.nn ?_
   refine ACode.drawT (by kernel_rfl) (by kernel_rfl) (fun Uq5_0=>?_)
   refine .cons (fun _=>.fB 1 0 false)<|.cons (fun _=>.b1 1)<|.cons (fun _=>.bN 9) ?_
   refine .cT [.tmp 19] rfl rfl (fun _=>rfl) (fun _=>rfl) (ownStmtI_T x (hs x (List.mem_of_getElem? hx1)) (hid x (List.mem_of_getElem? hx1))) rfl rfl nosrcV ?_
   refine .cons (fun _=>.li 66 8 0 [.tmp 20]) ?_
   refine .cons (fun _=>(St1.appN (k':=122) (e:=66) (sz:=8) (by':=152) rfl rfl rfl rfl rfl (by kernel_rfl) rfl rfl rfl (by simp) (by first|(simp[dR,tagRs_len];done)|(simp[dR,tagRs_len];omega)) rfl rfl)) ?_
   refine .cons (fun _=>.fB 1 0 false)<|.cons (fun _=>.sT 1 false) ?_
   refine .nil ⟨⟨fun _=>by kernel_rfl,by repeat' (first|exact trivial|exact .inr (.inl rfl)|exact .inl (by decide +kernel)|exact .inr (.inr fun _ _=>rfl)|refine⟨?_,?_⟩),rfl⟩,fun ρq5_0 Nq5_0 Fq5_0 Wq5_0=>?_⟩
   obtain⟨hR20,dR20,pR20⟩:=Fq5_0.hR Wq5_0 3 rfl rfl
   have hNew:=new_E hR20 ((HasE.of (gh_has rfl)).or (.of (Has.box (i:=0) (j:=0) 111 rfl rfl rfl (.d (.tree _)))))
   refine kb_n<|ks_n<|.region<|.c .pl<|.c .m<|.nil ?_
   refine kl_k [(110,110),(111,111),(112,122)] (.inr ⟨1,nextF noF 0 (ρq5_0 3),rfl,by omega,by omega,(FD.zero (or2 O (R8 0)) colS noF).next hNew dR20 (fun _ _ _ _ h=>by omega),rfl⟩) ⟨kd,kX,kX,kd,kd,kd,kd,kb 110 rfl (.r2 .dt .dt),kb 122 rfl (.dt rfl (by first|rfl|(rw[←dR_tagT hx1];rfl)|(rw[←dR_tag0 hx1];rfl))),kb 111 rfl (.r2 .dt .ow),trivial⟩
  ·skip
   have hn:q.2=[]:=List.eq_nil_of_length_eq_zero (by omega)
   refine .exit<|ks_e<|kl_e<|kb_hit<|ks_n<|.r<|.c (.bN 2)<|.c (.sT 2 true)<|.nn<|.ret ?_
   refine kt_wret (nthS [R8 0,none']) [eB 2 100 2,(.b 100,.b 80 2 [[.d (.tree (R8 0) (dLs q.1)),(.d (.tree none' (dMs q.2)))]]),eU 100] (Wk.keep [(100,110)] rfl rfl ⟨kX,kb 110 rfl (.r2 .dt (Cto.nilTE 9 (by rw[hn];rfl))),trivial⟩) rfl ?_ ?_ ?_
   ·rfl
   ·exact nthS_dis (by first|(simp only[List.pairwise_cons,List.forall_mem_cons,List.not_mem_nil,false_implies,implies_true,and_true,List.Pairwise.nil];done)|(simp only[List.pairwise_cons,List.forall_mem_cons,List.not_mem_nil,false_implies,implies_true,and_true,List.Pairwise.nil];simp[none'];done))
   ·exact nthS_all (by simp only[List.forall_mem_cons,List.not_mem_nil,false_implies,implies_true,and_true];exact⟨(fun b h=>.inr ((new_of hR8 (gh_has rfl) 0) b h)),(fun b h=>h.elim)⟩)
 ·skip
  refine .r<|.c .ls<|.nn<|.seq ?_
  refine .cD rfl (fun h14=>?_) (fun h14=>?_)
  ·skip
   obtain⟨x,hx1⟩:∃x,q.2[i]?=some x:=⟨_,List.getElem?_eq_getElem (by omega)⟩
   refine .skip<|ks_n<|.seq<|.block<|.r<|.c (.xL 66 9 152 rfl rfl rfl rfl rfl (map_at hx1)) ?_
   refine .c (.lN 9)<|.c (.al 105 [.string ByteArray.empty,.slice none 0 0,.int .i64 0,.int .i64 0,.slice none 0 0,.int .i64 0,.string ByteArray.empty,.slice none 0 0,.slice none 0 0])<|.c (.sT 9 true)<|.nn ?_
   refine ACode.drawT (by kernel_rfl) (by kernel_rfl) (fun Uq5_1=>?_)
   refine .cons (fun _=>.fB 1 0 false)<|.cons (fun _=>.b1 1)<|.cons (fun _=>.bN 9) ?_
   refine .cT [.tmp 19] rfl rfl (fun _=>rfl) (fun _=>rfl) (ownStmtI_T x (hs x (List.mem_of_getElem? hx1)) (hid x (List.mem_of_getElem? hx1))) rfl rfl nosrcV ?_
   refine .cons (fun _=>.li 66 8 0 [.tmp 20]) ?_
   refine .cons (fun _=>(St1.appB (k':=122) (e:=66) (sz:=8) (by':=152) rfl rfl rfl rfl rfl (by kernel_rfl) rfl rfl rfl rfl (by first|(simp[dR,tagRs_len];done)|(simp[dR,tagRs_len];omega)) (by first|(simp[dR,tagRs_len];done)|(simp[dR,tagRs_len];omega)) rfl rfl rfl)) ?_
   refine .cons (fun _=>.fB 1 0 false)<|.cons (fun _=>.sT 1 false) ?_
   refine .nil ⟨⟨fun _=>by kernel_rfl,by repeat' (first|exact trivial|exact .inr (.inl rfl)|exact .inl (by decide +kernel)|exact .inr (.inr fun _ _=>rfl)|refine⟨?_,?_⟩),rfl⟩,fun ρq5_1 Nq5_1 Fq5_1 Wq5_1=>?_⟩
   obtain⟨hR20,dR20,pR20⟩:=Fq5_1.hR Wq5_1 3 rfl rfl
   have hNew:=new_E hR20 ((HasE.of (gh_has rfl)).or (.of (Has.box (i:=0) (j:=0) 111 rfl rfl rfl (.d (.tree _)))))
   have hRF:∀q c c' b,q<i→colS c→F q c b→¬(ρq5_1 3) c' b:=fun q c c' b hq hc hF hb=>by
    obtain⟨y,_,hy⟩:=tm_at (fn:=rS) hi2 hq
    rcases hc with rfl|rfl|rfl|rfl
    ·exact new_of hR20 (Has.rows (k:=112) rfl hy rfl) c' b hb hF
    ·exact new_of hR20 (Has.rows (k:=112) rfl hy rfl) c' b hb hF
    ·exact new_of hR20 (Has.rows (k:=112) rfl hy rfl) c' b hb hF
    ·exact new_of hR20 (Has.rows (k:=112) rfl hy rfl) c' b hb hF
   refine kb_n<|ks_n<|.region<|.c .pl<|.c .m<|.nil ?_
   refine kl_k [(110,110),(111,111),(112,122)] (.inr ⟨i+1,nextF F i (ρq5_1 3),rfl,by omega,by omega,hFD.next hNew dR20 hRF,rfl⟩) ⟨kd,kX,kX,kd,kd,kd,kd,kb 110 rfl (.r2 .dt .dt),kb 122 rfl (.dt rfl (by first|rfl|(rw[←dR_tagT hx1];rfl)|(rw[←dR_tag0 hx1];rfl))),kb 111 rfl (.r2 .dt .ow),trivial⟩
  ·skip
   obtain rfl:i=q.2.length:=by omega
   refine .exit<|ks_e<|kl_e<|kb_hit<|ks_n<|.seq ?_
   refine .keep [eB 2 570 2,eB 3 571 2,(.t 9999,.v (.gh O)),(.b 570,.b 80 2 [[nl,nl]]),eU 570,(.b 572,.b 66 9 (dR (tagRs F 0 (q.2.map rS)))),eU 572,(.b 571,.b 80 2 [[.d (.tree (R8 0) (dLs q.1)),.own 572 9 ((q.2.map rS).length)]]),eU 571] [(570,110),(571,111),(572,112)] ⟨kX,kX,kd,kb 110 rfl (.r2 .dt .dt),kb 112 rfl (.dt rfl (by rw[List.take_length])),kb 111 rfl (.r2 .dt .ow),trivial⟩ ?_
   refine ACode.packB 571 0 1 572 (rows:=q.2.map rS) (F:=F) rfl rfl rfl rfl rfl (plain_map plS) (hFD.pos (by simp) (fun i j h=>isPos_L posS h)) (by simp;omega) (fun N hN=>?_)
   have hNO:=hN.outE ((HasE.of (gh_has rfl)).or (.of (Has.box (i:=0) (j:=0) 571 rfl rfl rfl (.d (.tree _))))) hFD (by simp) (fun i j h=>isPos_L posS h)
   refine .region<|.c (.bN 2)<|.c (.sT 2 true)<|.nn<|.ret ?_
   refine kt_ret (nthS [R8 0,N]) rfl ?_ ?_ ?_
   ·rfl
   ·exact nthS_dis (List.Pairwise.cons (by simp only[List.forall_mem_cons,List.not_mem_nil,false_implies,implies_true,and_true];exact fun b h1 h2=>hNO b h2 (.inr h1)) (List.pairwise_singleton _ _))
   ·exact nthS_all (by simp only[List.forall_mem_cons,List.not_mem_nil,false_implies,implies_true,and_true];exact⟨(fun b h=>.inr ((new_of hR8 (gh_has rfl) 0) b h)),(fun b h=>.inr (fun hO=>hNO b h (.inl hO)))⟩)
structure OwnG (g:Prg):Prop where
  n1:g.1.length≤1073741824
  n2:g.2.length≤1073741824
  arr:∀x∈g.1,x.2.length≤4294967296
  part:∀x∈g.2,szLs x.1≤1073741824∧x.2.length≤1073741824∧(∀y∈x.2,szS y≤1073741824)∧∀y∈x.2,mapS id y=y
def hb1 (e:TypeId) (sz:Nat) (rows:List (List D)):St:=[(.b 101,.b e sz (dR rows)),(.u 101,.u)]
theorem hb1_b {e:TypeId} {sz:Nat} {rows:List (List D)} {k:Nat} {e':TypeId} {sz':Nat} {rows':List (List C)} (h:lk (hb1 e sz rows) (.b k)= .b e' sz' rows'):k=101∧e'=e∧sz'=sz∧rows'=dR rows:=by
  unfold hb1 at h
  rw[lk_cons]at h
  by_cases hk:k=101
  ·subst hk;rw[upd_same]at h;cases h;exact⟨rfl,rfl,rfl,rfl⟩
  ·rw[upd_other _ _ (by simpa using hk),lk_cons,upd_other _ _ (by simp)]at h;cases h
theorem hb1_al {e:TypeId} {sz:Nat} {rows:List (List D)} {k:Nat} (h:Al (lk (hb1 e sz rows)) k):k=101:=by
  obtain⟨_,_,_,h⟩:=h
  exact(hb1_b h).1
def FnB {ι:Type} (P:Program) (f:FuncId) (args:List V1) (fr:ι→(Nat→Prop)→Prop) (y:ι→V) (e:TypeId) (sz:Nat) (rows:ι→List (List D)):Prop:=
  ∀(B:Nat→Prop) (bx:Nat→Nat×Nat) (w:World) (vs:List Value),Vals (V1r bx0 al0 B w) args vs→
    Calls P f vs.toArray w fun x w'=>∃v bx' i,x= .returned v∧HPost bx bx' B w w' (lk []) (lk (hb1 e sz (rows i))) (y i) v∧fr i (fun b=>B b∧b<w.heap.size)
def KfinB {ι:Type} (P:Program) (res:Array ResultVar) (O:Nat→Prop) (fr:ι→(Nat→Prop)→Prop) (y:ι→V) (e:TypeId) (sz:Nat) (rows:ι→List (List D)):Exit→St→Prop
  | .normal,σ| .ret,σ=>∃σ2 xs i,Wk σ σ2∧resL σ2 P res.toList=some xs∧tupV xs=y i∧lk σ2 (.b 101)= .b e sz (dR (rows i))∧fr i O
  |_,_=>False
section
variable {ι : Type} {P : Program} {fr : ι → (Nat → Prop) → Prop} {y : ι → V} {e : TypeId} {sz : Nat} {rows : ι → List (List D)}
theorem FnB.of_code {f:FuncId} {fn:Func} {c:Code} {args:List V1} (hf:P.funcs[f]?=some fn) (hbd:fn.body=some c) (hn:(Nat.ble args.length 9000&&Nat.ble args.length fn.ntmps)=true) (href:noRefs args=true)
    (h:∀O:Nat→Prop,ACode P fn.ntmps c (KfinB P fn.results O fr y e sz rows) (argS 0 args++ghS O)):FnB P f args fr y e sz rows:=by
  intro B bx w vs hv
  rw[Bool.and_eq_true]at hn
  have hn1:=Nat.le_of_ble_eq_true hn.1
  have hn':=Nat.le_of_ble_eq_true hn.2
  refine calls_of_wp hf hbd ?_
  let E:Env:={w:=w,B:=B,n:=fn.ntmps,mt:=[]}
  let O:Nat→Prop:=fun b=>B b∧b<w.heap.size
  have hslot:∀ {args:List V1} {i t:Nat} {x:V},i+args.length≤9000→lk (argS i args++ghS O) (.t t)= .v x→(∃a,i≤t∧args[t -i]?=some a∧x= .o a)∨x= .gh O:=by
    intro args
    induction args with
    |nil=>
      intro i t x _ h
      rw[argS,List.nil_append,ghS,lk_cons]at h
      by_cases e:t=9999
      ·subst e;rw[upd_same]at h;cases h;exact .inr rfl
      ·rw[upd_other _ _ (by simpa using e)]at h;cases h
    |cons a l ih=>
      intro i t x hl h
      rw[argS,List.cons_append,lk_cons]at h
      rw[List.length_cons]at hl
      by_cases e:t=i
      ·subst e;rw[upd_same]at h;cases h;exact .inl ⟨a,Nat.le_refl _,by simp,rfl⟩
      · rw[upd_other _ _ (by simpa using e)]at h
        rcases ih (by omega) h with⟨b,h1,h2,h3⟩|h
        ·exact .inl ⟨b,by omega,by rw[show t -i=(t -(i+1))+1 by omega,List.getElem?_cons_succ];exact h2,h3⟩
        ·exact .inr h
  have hother:∀ {args:List V1} {i:Nat} {r:Res},(∀t,r≠ .t t)→lk (argS i args++ghS O) r= .no:=by
    intro args
    induction args with
    |nil=>intro i r hr;rw[argS,List.nil_append,ghS,lk_cons,upd_other _ _ (hr _)];rfl
    |cons a l ih=>intro i r hr;rw[argS,List.cons_append,lk_cons,upd_other _ _ (hr _)];exact ih hr
  have hno:∀k,¬Al (lk (argS 0 args++ghS O)) k:=fun k ⟨e,sz,rows,h⟩=>by rw[hother (by simp)]at h;cases h
  have hbf:∀b,B b→Bf E (fun _=>(0,0)) (lk (argS 0 args++ghS O)) b:=fun b hb=>⟨.inl hb,fun k hk=>(hno k hk).elim⟩
  have hSR:SR E (fun _=>(0,0)) (lk (argS 0 args++ghS O)) {tmps:=vs.toArray++Array.replicate (fn.ntmps -vs.toArray.size) undef,defers:=[]} w:=by
    refine⟨fun t x ht=>?_,fun k e sz rows hk=>?_,fun k l hk hl=>(hno k hk).elim,fun k hk=>?_,?_,rfl,fun k hk=>(hno k hk).elim,fun p hp=>(by cases hp),fun k g hm hk=>(by cases hm),rfl,rfl,rfl,Nat.le_refl _,fun b hb hm=>rfl⟩
    · rcases hslot (by omega) ht with⟨a,_,h1,rfl⟩|rfl
      · rw[Nat.sub_zero]at h1
        have hl:t<args.length:=(List.getElem?_eq_some_iff.1 h1).1
        have hvl:t<vs.length:=by rw[hv.1];exact hl
        have h2:=hv.2 t a _ h1 (List.getElem?_eq_getElem hvl)
        have h3:(vs.toArray++Array.replicate (fn.ntmps -vs.toArray.size) undef).getD t undef=vs[t]:=by
          rw[Array.getD_eq_getD_getElem?,Array.getElem?_append_left (by simpa using hvl)]
          simp[hvl]
        show V1r _ _ _ w a _
        rw[h3]
        exact h2.to (Same.refl _ _) (fun b hb _=>hbf b hb) (fun k hk=>by rw[noRefs_at href (List.mem_of_getElem? h1)]at hk;cases hk)
      ·exact fun b hb=>⟨hbf b hb.1,hb.2⟩
    ·rw[hother (by simp)]at hk;cases hk
    · refine⟨hno k,fun t x ht hr=>?_,fun l e sz rows hl=>?_⟩
      · rcases hslot (by omega) ht with⟨a,_,h1,rfl⟩|rfl
        · have:=noRefs_at href (List.mem_of_getElem? h1)
          have hr':k∈a.refs:=hr
          rw[this]at hr';cases hr'
        ·cases hr
      ·rw[hother (by simp)]at hl;cases hl
    · show (vs.toArray++Array.replicate (fn.ntmps -vs.toArray.size) undef).size=fn.ntmps
      simp[hv.1];omega
  refine wp_mono (h O E _ _ w rfl hSR) ?_
  rintro x a' w' ⟨σ',bx',hK,hs⟩
  have key:(∃σ2 xs i,Wk σ' σ2∧resL σ2 P fn.results.toList=some xs∧tupV xs=y i∧lk σ2 (.b 101)= .b e sz (dR (rows i))∧fr i O)→a'.defers=[]∧∃v,(results fn a'.tmps).run P w'= .ok v w'∧∃v' bx' i,Ending.returned v= .returned v'∧HPost bx bx' B w w' (lk []) (lk (hb1 e sz (rows i))) (y i) v'∧fr i O:=by
    rintro⟨σ2,xs,i,hwk,hres,hy,hbox1,hfr⟩
    obtain⟨bx2,hs2⟩:=hwk E bx' a' w' hs
    obtain⟨v,hrun,hvr⟩:=results_ok hres hs2
    rw[hy]at hvr
    have hbox:∀k e' sz' rows',lk (hb1 e sz (rows i)) (.b k)= .b e' sz' rows'→lk σ2 (.b k)= .b e' sz' rows':=fun k e' sz' rows' h=>by
      obtain⟨rfl,rfl,rfl,rfl⟩:=hb1_b h
      exact hbox1
    have hal':∀k,Al (lk (hb1 e sz (rows i))) k→Al (lk σ2) k:=fun k ⟨e,sz,rows,hk⟩=>⟨e,sz,rows,hbox k e sz rows hk⟩
    have hbaft:∀b,Bf E bx2 (lk σ2) b→b<w'.heap.size→Baft bx2 B w (lk (hb1 e sz (rows i))) b:=fun b hb _=>⟨hb.1,fun k hk=>hb.2 k (hal' k hk)⟩
    refine⟨hs2.defers,v,hrun,v,bx2,i,rfl,⟨⟨fun k e sz rows hk=>?_,fun k l hk hl=>hs2.inj k l (hal' k hk) (hal' l hl),fun k hk hb=>hb.2 k hk rfl⟩,hvr.to (Same.refl _ _) hbaft (fun k hk hk'=>⟨hal' k hk',rfl⟩),hs2.os,hs2.tape,hs2.output,hs2.hsize,fun b hb1 hb2=>hs2.old b hb1 (fun k g hm=>by cases hm),fun k hk hk'=>absurd (hb1_al hk') (by omega),fun k hk=>?_⟩,hfr⟩
    · obtain⟨cur,h1,h2,h3,h4,h5⟩:=hs2.box k e sz rows (hbox k e sz rows hk)
      refine⟨cur,h1,h2,h3,h4,fun i r j c hi hj=>?_⟩
      obtain⟨u,h6,h7⟩:=h5 i r j c hi hj
      exact⟨u,h6,h7.to (Same.refl _ _) hbaft (fun k hk hk'=>⟨hal' k hk',rfl⟩)⟩
    · rcases hs2.own k (hal' k hk)with h1|⟨_,p,hp,h1⟩
      ·exact .inl h1
      ·cases hp
  cases x with
  |normal=>exact key hK
  |ret=>exact key hK
  |_=>exact hK.elim
variable {n : Nat} {ops : Array Oper} {l : List Oper} {o : Oper} {K : St → Prop} {σ : St}
end
section
variable {P : Program} {n : Nat} {ops : Array Oper} {o : Oper} {σ : St} {d : Nat} {t t2 : TypeId} {x y : Operand} {a b : ByteArray}
theorem St1.ltS (h4:(o.op,o.guard,o.dst,Nat.blt d n)=(Op.binOp .lss t x y t2,none,some d,true)) (hx:ev σ x=some (.o (st1 a))) (hy:ev σ y=some (.o (st1 b))):
    St1 P n ops o σ (rd x++rd y) [.t d] ((.t d,.v (.o (bo1 (sLt a b))))::σ):=by
  simp only[Prod.mk.injEq]at h4
  exact St1.bin h4.1 h4.2.1 h4.2.2.1 h4.2.2.2 hx hy (fun w=>by simp[eqGuard,binOp,Op.stringOp,sLt]) rfl
theorem St1.gtS (h4:(o.op,o.guard,o.dst,Nat.blt d n)=(Op.binOp .gtr t x y t2,none,some d,true)) (hx:ev σ x=some (.o (st1 a))) (hy:ev σ y=some (.o (st1 b))):
    St1 P n ops o σ (rd x++rd y) [.t d] ((.t d,.v (.o (bo1 (!(sLt a b||sEq a b)))))::σ):=by
  simp only[Prod.mk.injEq]at h4
  exact St1.bin h4.1 h4.2.1 h4.2.2.1 h4.2.2.2 hx hy (fun w=>by simp[eqGuard,binOp,Op.stringOp,sLt,sEq]) rfl
end
theorem arrOk_eq (a:Arr):arrOk a=(arrV a.1&&(inB (a.2.length:Nat) 1 2&& !(a.2.any fun n=> !dimV n))):=by
  rw[arrOk,inB]
  congr 1
  congr 1
  ·rw[decide_eq_decide];omega
  ·rw[List.any_eq_not_all_not,Bool.not_not];simp
theorem arr1_fn (n:Int):Fn Tryz.prog 104 [] [nat1 n] (.o (bo1 (!dimV n))) []:=by
  refine Fn.code0 Tryz.func104 rfl rfl rfl rfl ?_
  refine .r<|.c .a<|.r<|.c .m ?_
  refine .c (.cP [.tmp 3,.const (.int .i64 (1)),.const (.int .i64 (6))] rfl rfl rfl rfl (within_fn _ 1 6) rfl) ?_
  refine .c .nt<|.c .a<|.nn<|.ret ?_
  refine kf_ret rfl ?_ nobox
  first|rfl|exact leafB (by rw[dimV])
theorem arraysOk_fn (ar:List Arr) (hl:ar.length≤1099511627776) (hq:∀x∈ar,x.2.length≤1099511627776):Fn Tryz.prog 59 [] [vD (dRs ar)] (.o (bo1 (arrsV ar))) []:=by
 refine Fn.code0 Tryz.func59 rfl rfl rfl rfl ?_
 refine .r<|.c .a<|.nn<|.seq<|.r<|.c .m<|.c (.ln 45 2 40)<|.c .m<|.nn<|.block ?_
 refine .loopK (fun m σ=>(∃i:Nat,m=ar.length -i∧(i≤ar.length)∧(∀j,j<i→arrAt ar j=true)∧σ=[eD 0 (dRs ar),eT 2 false,eD 5 (dRs ar),eN 6 (ar.length:Nat),eN 7 (i:Nat)])) [] ⟨0,rfl,by omega,fun j hj=>absurd hj (by omega),rfl⟩ ⟨kd,kd,kd,kd,kd,trivial⟩ ?_
 rintro m σ ⟨i,hm0,hi,hF,rfl⟩
 refine .r<|.c .ls<|.nn<|.seq ?_
 refine .cD rfl (fun h8=>?_) (fun h8=>?_)
 ·skip
  obtain⟨x,hx1⟩:∃x_,ar[i]?=some x_:=⟨_,List.getElem?_eq_getElem (by omega)⟩
  have hA:=arrAt_eq hx1
  refine .skip<|ks_n<|.seq<|.block<|.r<|.c .m<|.c (.xL 45 2 40) ?_
  refine .c (.lN 2)<|.c (.al 104 [.string ByteArray.empty,.slice none 0 0])<|.c .a<|.c (.sT 2 true)<|.nn<|.seq ?_
  refine ACode.drawK (by kernel_rfl) (by kernel_rfl) ?_
  refine .c (.fB 0 0 false)<|.c (.b1 1) ?_
  refine .c (.cP [.tmp 13] rfl rfl rfl rfl (isArray_fn _) rfl) ?_
  refine .c .nt<|.c .m ?_
  refine RunK.cases 16 _ rfl (fun g16=>?_) (fun g16=>?_)
  ·try simp only[zs]at g16
   refine .c .f<|.c .f<|.c .f<|.c .gU<|.c .gU<|.c .gU<|.c .gU<|.c .gU<|.c .gU<|.c .gU<|.c .gU<|.c .gU<|.c .f<|.c .pT<|.c .m<|.c .f<|.c .f<|.c .f<|.c .f<|.c .f<|.c .pT<|.c .m<|.c .f<|.c .f<|.c .f<|.c .pT ?_
   refine .nil ⟨by kernel_rfl,?_⟩
   refine ks_n ?_
   refine .k1 ?_
   refine .r<|.c .a<|.nn<|.ret<|kb_r<|ks_r<|kl_r<|kb_r<|ks_r ?_
   refine kf_ret rfl ?_ nobox
   exact leafB (arrsV_bad (i:=i) (by omega) (by rw[hA,arrOk_eq];first|(simp_all;done)|(simp_all;omega)|grind)).symm
  ·try simp only[zs]at g16
   refine .c (.g .m)<|.c (.g .gt)<|.c (.g .m) ?_
   refine .cD 19 rfl (fun g19=>?_) (fun g19=>?_)
   ·skip
    obtain⟨y,hy1⟩:∃x_,ar[i -1]?=some x_:=⟨_,List.getElem?_eq_getElem (by omega)⟩
    have hB:=lastV_eq (a:=x) hy1
    refine .c (.g .m)<|.c (.g .m)<|.c (.g .sb) ?_
    refine .c (.gT rfl rfl rfl (.xL 45 2 40 (i:=(i -1)) rfl rfl rfl rfl (by omega) (map_at hy1))) ?_
    refine .c (.g (.fP 0 0 false))<|.c (.g (.l1 1))<|.c (.g (.fB 0 0 false))<|.c (.g (.b1 1)) ?_
    refine .c (.gT rfl rfl rfl (St1.geS rfl rfl rfl))<|.c (.g .pT)<|.c .pF<|.c .m ?_
    refine RunK.cases 31 _ rfl (fun g31=>?_) (fun g31=>?_)
    ·try simp only[zs]at g31
     refine .c .f<|.c .f<|.c .f<|.c .f<|.c .f<|.c .pT<|.c .m<|.c .f<|.c .f<|.c .f<|.c .pT ?_
     refine .nil ⟨by kernel_rfl,?_⟩
     refine ks_n ?_
     refine .k1 ?_
     refine .r<|.c .a<|.nn<|.ret<|kb_r<|ks_r<|kl_r<|kb_r<|ks_r ?_
     refine kf_ret rfl ?_ nobox
     exact leafB (arrsV_bad (i:=i) (by omega) (by rw[hA,arrOk_eq];first|(simp_all;done)|(simp_all;omega)|grind)).symm
    ·try simp only[zs]at g31
     refine .c (.g (.fB 1 0 false))<|.c (.g (.b1 1))<|.c (.g (.ln 3 1 8)) ?_
     refine .c (.gT rfl rfl rfl (.cP [.tmp 34,.const (.int .i64 (1)),.const (.int .i64 (2))] rfl rfl rfl rfl (within_fn _ 1 2) rfl)) ?_
     refine .c (.g .nt)<|.c .pF<|.c .m ?_
     refine RunK.cases 38 _ rfl (fun g38=>?_) (fun g38=>?_)
     ·try simp only[zs]at g38
      refine .c .f<|.c .f<|.c .f<|.c .pT ?_
      refine .nil ⟨by kernel_rfl,?_⟩
      refine ks_n ?_
      refine .k1 ?_
      refine .r<|.c .a<|.nn<|.ret<|kb_r<|ks_r<|kl_r<|kb_r<|ks_r ?_
      refine kf_ret rfl ?_ nobox
      exact leafB (arrsV_bad (i:=i) (by omega) (by rw[hA,arrOk_eq];first|(simp_all;done)|(simp_all;omega)|grind)).symm
     ·try simp only[zs]at g38
      refine .c (.g (.fB 1 0 false))<|.c (.g (.b1 1)) ?_
      refine .c (.gT rfl rfl rfl (.cP [.tmp 40,.func 104] rfl rfl rfl rfl (cnt_int (f:=104) (cap:=[]) (by kernel_rfl) (fun n=> !dimV n) x.2 (hq x (List.mem_of_getElem? hx1)) (fun n _=>arr1_fn n)) rfl)) ?_
      refine .c .pF ?_
      refine .nil ⟨by kernel_rfl,?_⟩
      refine ks_n ?_
      refine ACode.condT rfl (fun h42=>?_) (fun h42=>?_)
      ·try simp only[zs]at h42
       refine .r<|.c .a<|.nn<|.ret<|kb_r<|ks_r<|kl_r<|kb_r<|ks_r ?_
       refine kf_ret rfl ?_ nobox
       exact leafB (arrsV_bad (i:=i) (by omega) (by rw[hA,arrOk_eq];first|(simp_all;done)|(simp_all;omega)|grind)).symm
      ·try simp only[zs]at h42
       refine .skip<|kb_n<|ks_n<|.region<|.c .pl<|.c .m<|.nil ?_
       refine kl_k [] ⟨i+1,rfl,by omega,fun j hj=>by exact(Nat.lt_succ_iff_lt_or_eq.1 hj).elim (fun h=>hF j h) (fun h=>by rw[h,hA,arrOk_eq];first|(simp_all;done)|(simp_all;omega)|grind),rfl⟩ ⟨kd,kd,kd,kd,kd,trivial⟩
   ·skip
    have hB0:i=0:=by omega
    refine .c .f<|.c .f<|.c .f<|.c .f<|.c .f<|.c .f<|.c .f<|.c .f<|.c .f<|.c (.g .pF)<|.c .pF<|.c .m<|.c (.g (.fB 1 0 false))<|.c (.g (.b1 1))<|.c (.g (.ln 3 1 8)) ?_
    refine .c (.gT rfl rfl rfl (.cP [.tmp 34,.const (.int .i64 (1)),.const (.int .i64 (2))] rfl rfl rfl rfl (within_fn _ 1 2) rfl)) ?_
    refine .c (.g .nt)<|.c .pF<|.c .m ?_
    refine RunK.cases 38 _ rfl (fun g38=>?_) (fun g38=>?_)
    ·try simp only[zs]at g38
     refine .c .f<|.c .f<|.c .f<|.c .pT ?_
     refine .nil ⟨by kernel_rfl,?_⟩
     refine ks_n ?_
     refine .k1 ?_
     refine .r<|.c .a<|.nn<|.ret<|kb_r<|ks_r<|kl_r<|kb_r<|ks_r ?_
     refine kf_ret rfl ?_ nobox
     exact leafB (arrsV_bad (i:=i) (by omega) (by rw[hA,arrOk_eq];first|(simp_all;done)|(simp_all;omega)|grind)).symm
    ·try simp only[zs]at g38
     refine .c (.g (.fB 1 0 false))<|.c (.g (.b1 1)) ?_
     refine .c (.gT rfl rfl rfl (.cP [.tmp 40,.func 104] rfl rfl rfl rfl (cnt_int (f:=104) (cap:=[]) (by kernel_rfl) (fun n=> !dimV n) x.2 (hq x (List.mem_of_getElem? hx1)) (fun n _=>arr1_fn n)) rfl)) ?_
     refine .c .pF ?_
     refine .nil ⟨by kernel_rfl,?_⟩
     refine ks_n ?_
     refine ACode.condT rfl (fun h42=>?_) (fun h42=>?_)
     ·try simp only[zs]at h42
      refine .r<|.c .a<|.nn<|.ret<|kb_r<|ks_r<|kl_r<|kb_r<|ks_r ?_
      refine kf_ret rfl ?_ nobox
      exact leafB (arrsV_bad (i:=i) (by omega) (by rw[hA,arrOk_eq];first|(simp_all;done)|(simp_all;omega)|grind)).symm
     ·try simp only[zs]at h42
      refine .skip<|kb_n<|ks_n<|.region<|.c .pl<|.c .m<|.nil ?_
      refine kl_k [] ⟨i+1,rfl,by omega,fun j hj=>by exact(Nat.lt_succ_iff_lt_or_eq.1 hj).elim (fun h=>hF j h) (fun h=>by rw[h,hA,arrOk_eq];first|(simp_all;done)|(simp_all;omega)|grind),rfl⟩ ⟨kd,kd,kd,kd,kd,trivial⟩
 ·skip
  refine .exit<|ks_e<|kl_e<|kb_hit<|ks_n<|.r<|.c .m<|.c (.ln 45 2 40)<|.c .le<|.c .a<|.nn<|.ret ?_
  refine kf_ret rfl ?_ nobox
  exact leafB (by rw[arrsV_end fun j hj=>hF j (by omega)];rw[decide_eq_decide];omega)
theorem l4Arrays_fn (ar:List Arr) (hl:ar.length≤1099511627776) (hq:∀x∈ar,x.2.length≤1099511627776):Fn Tryz.prog 51 [] [vD (dRs ar)] (.o (bo1 (arrsV ar))) []:=by
 refine Fn.code0 Tryz.func51 rfl rfl rfl rfl ?_
 refine .r<|.c .a<|.nn<|.seq<|.r<|.c .a<|.nn<|.block ?_
 refine .loopK (fun m σ=>(∃i:Nat,m=ar.length -i∧(i≤ar.length)∧(∀j,j<i→arrAt ar j=true)∧σ=[eD 0 (dRs ar),eT 2 false,eN 3 (i:Nat)])) [] ⟨0,rfl,by omega,fun j hj=>absurd hj (by omega),rfl⟩ ⟨kd,kd,kd,trivial⟩ ?_
 rintro m σ ⟨i,hm0,hi,hF,rfl⟩
 refine .seq<|.r<|.c .m<|.c .m<|.c (.ln 45 2 40)<|.c .ls<|.nn ?_
 refine .cD rfl (fun h9=>?_) (fun h9=>?_)
 ·skip
  obtain⟨x,hx1⟩:∃x_,ar[i]?=some x_:=⟨_,List.getElem?_eq_getElem (by omega)⟩
  have hA:=arrAt_eq hx1
  have hxl:=hq x (List.mem_of_getElem? hx1)
  refine .skip<|ks_n<|.seq<|.block<|.r<|.c .m<|.c .m<|.c (.xL 45 2 40) ?_
  refine .c (.lN 2)<|.c (.al 104 [.string ByteArray.empty,.slice none 0 0])<|.c (.sT 2 true)<|.nn<|.seq<|.seq ?_
  refine ACode.drawK (by kernel_rfl) (by kernel_rfl) ?_
  refine .c (.fB 0 0 false)<|.c (.b1 1) ?_
  refine .c (St1.lenS rfl rfl rfl rfl rfl (by kernel_rfl) rfl) ?_
  refine .c .ne<|.c .m ?_
  refine .cND 20 rfl (fun g20=>?_) (fun g20=>?_)
  ·skip
   have hAr:=arrV_size (s:=x.1) (by omega)
   refine .c .f<|.c .f<|.c .f<|.c .pT<|.c .m<|.c .f<|.c .f<|.c .f<|.c .pT<|.c .m<|.c .f<|.c .f<|.c .f<|.c .gU<|.c .gU<|.c .gU<|.c .gU<|.c .gU<|.c .gU<|.c .gU<|.c .gU<|.c .gU<|.c .f<|.c .pT<|.c .m<|.c .f<|.c .f<|.c .f<|.c .f<|.c .pT<|.c .m<|.c .f<|.c .f<|.c .f<|.c .f<|.c .pT ?_
   refine .nil ⟨by kernel_rfl,?_⟩
   refine ks_n ?_
   refine .k1 ?_
   refine .r<|.c .a<|.nn<|.ret<|ks_r<|kb_r<|ks_r<|kl_r<|kb_r<|ks_r ?_
   refine kf_ret rfl ?_ nobox
   exact leafB (arrsV_bad (i:=i) (by omega) (by rw[hA,arrOk];rw[hAr]at *;first|(simp_all;done)|(simp_all;omega)|grind)).symm
  ·skip
   have hAr:=arr_leaf (s:=x.1) (by omega)
   refine .c (.g (.fB 0 0 false))<|.c (.g (.b1 1)) ?_
   refine .c (.gT rfl rfl rfl (St1.ltS rfl rfl rfl))<|.c .pF<|.c .m ?_
   refine RunK.cases 25 _ rfl (fun g25=>?_) (fun g25=>?_)
   ·try simp only[zs]at g25
    refine .c .f<|.c .f<|.c .f<|.c .pT<|.c .m<|.c .f<|.c .f<|.c .f<|.c .gU<|.c .gU<|.c .gU<|.c .gU<|.c .gU<|.c .gU<|.c .gU<|.c .gU<|.c .gU<|.c .f<|.c .pT<|.c .m<|.c .f<|.c .f<|.c .f<|.c .f<|.c .pT<|.c .m<|.c .f<|.c .f<|.c .f<|.c .f<|.c .pT ?_
    refine .nil ⟨by kernel_rfl,?_⟩
    refine ks_n ?_
    refine .k1 ?_
    refine .r<|.c .a<|.nn<|.ret<|ks_r<|kb_r<|ks_r<|kl_r<|kb_r<|ks_r ?_
    refine kf_ret rfl ?_ nobox
    exact leafB (arrsV_bad (i:=i) (by omega) (by rw[hA,arrOk];rw[hAr]at *;first|(simp_all;done)|(simp_all;omega)|grind)).symm
   ·try simp only[zs]at g25
    refine .c (.g (.fB 0 0 false))<|.c (.g (.b1 1)) ?_
    refine .c (.gT rfl rfl rfl (St1.gtS rfl rfl rfl))<|.c .pF<|.c .m ?_
    refine RunK.cases 30 _ rfl (fun g30=>?_) (fun g30=>?_)
    ·try simp only[zs]at g30
     refine .c .f<|.c .f<|.c .f<|.c .gU<|.c .gU<|.c .gU<|.c .gU<|.c .gU<|.c .gU<|.c .gU<|.c .gU<|.c .gU<|.c .f<|.c .pT<|.c .m<|.c .f<|.c .f<|.c .f<|.c .f<|.c .pT<|.c .m<|.c .f<|.c .f<|.c .f<|.c .f<|.c .pT ?_
     refine .nil ⟨by kernel_rfl,?_⟩
     refine ks_n ?_
     refine .k1 ?_
     refine .r<|.c .a<|.nn<|.ret<|ks_r<|kb_r<|ks_r<|kl_r<|kb_r<|ks_r ?_
     refine kf_ret rfl ?_ nobox
     exact leafB (arrsV_bad (i:=i) (by omega) (by rw[hA,arrOk];rw[hAr]at *;first|(simp_all;done)|(simp_all;omega)|grind)).symm
    ·try simp only[zs]at g30
     refine .c (.g .m)<|.c (.g .gt)<|.c (.g .m) ?_
     refine .cD 33 rfl (fun g33=>?_) (fun g33=>?_)
     ·skip
      obtain⟨y,hy1⟩:∃x_,ar[i -1]?=some x_:=⟨_,List.getElem?_eq_getElem (by omega)⟩
      have hB:=lastV_eq (a:=x) hy1
      refine .c (.g .m)<|.c (.g .m)<|.c (.g .sb) ?_
      refine .c (.gT rfl rfl rfl (.xL 45 2 40 (i:=(i -1)) rfl rfl rfl rfl (by omega) (map_at hy1))) ?_
      refine .c (.g (.fP 0 0 false))<|.c (.g (.l1 1))<|.c (.g (.fB 0 0 false))<|.c (.g (.b1 1)) ?_
      refine .c (.gT rfl rfl rfl (St1.geS rfl rfl rfl))<|.c (.g .pT)<|.c .pF<|.c .m ?_
      refine RunK.cases 45 _ rfl (fun g45=>?_) (fun g45=>?_)
      ·try simp only[zs]at g45
       refine .c .f<|.c .f<|.c .f<|.c .f<|.c .pT<|.c .m<|.c .f<|.c .f<|.c .f<|.c .f<|.c .pT ?_
       refine .nil ⟨by kernel_rfl,?_⟩
       refine ks_n ?_
       refine .k1 ?_
       refine .r<|.c .a<|.nn<|.ret<|ks_r<|kb_r<|ks_r<|kl_r<|kb_r<|ks_r ?_
       refine kf_ret rfl ?_ nobox
       exact leafB (arrsV_bad (i:=i) (by omega) (by rw[hA,arrOk];rw[hAr]at *;first|(simp_all;done)|(simp_all;omega)|grind)).symm
      ·try simp only[zs]at g45
       refine .c (.g (.fB 1 0 false))<|.c (.g (.b1 1))<|.c (.g (.ln 3 1 8))<|.c (.g .ls)<|.c .pF<|.c .m ?_
       refine RunK.cases 51 _ rfl (fun g51=>?_) (fun g51=>?_)
       ·try simp only[zs]at g51
        refine .c .f<|.c .f<|.c .f<|.c .f<|.c .pT ?_
        refine .nil ⟨by kernel_rfl,?_⟩
        refine ks_n ?_
        refine .k1 ?_
        refine .r<|.c .a<|.nn<|.ret<|ks_r<|kb_r<|ks_r<|kl_r<|kb_r<|ks_r ?_
        refine kf_ret rfl ?_ nobox
        exact leafB (arrsV_bad (i:=i) (by omega) (by rw[hA,arrOk];rw[hAr]at *;first|(simp_all;done)|(simp_all;omega)|grind)).symm
       ·try simp only[zs]at g51
        refine .c (.g (.fB 1 0 false))<|.c (.g (.b1 1))<|.c (.g (.ln 3 1 8))<|.c (.g .gt)<|.c .pF ?_
        refine .nil ⟨by kernel_rfl,?_⟩
        refine ks_n ?_
        refine ACode.condT rfl (fun h56=>?_) (fun h56=>?_)
        ·try simp only[zs]at h56
         refine .r<|.c .a<|.nn<|.ret<|ks_r<|kb_r<|ks_r<|kl_r<|kb_r<|ks_r ?_
         refine kf_ret rfl ?_ nobox
         exact leafB (arrsV_bad (i:=i) (by omega) (by rw[hA,arrOk];rw[hAr]at *;first|(simp_all;done)|(simp_all;omega)|grind)).symm
        ·try simp only[zs]at h56
         refine .skip<|ks_n<|.r<|.c .a<|.nn<|.block ?_
         refine .loopK (fun m σ=>(∃k:Nat,m=x.2.length -k∧(k≤x.2.length)∧(x.2.all dimV=(x.2.drop k).all dimV)∧σ=[eD 0 (dRs ar),eT 2 false,eN 3 (i:Nat),eP 4 (rR x),eN 5 (k:Nat)])) [] ⟨0,rfl,by omega,rfl,rfl⟩ ⟨kd,kd,kd,ks rfl (.c (.frzP _ _ _ _ _ _ _ _ rfl (show _=dR [rR x]from rfl) rfl rfl rfl)),kd,trivial⟩ ?_
         rintro m σ ⟨k,hm0,hk,hG,rfl⟩
         refine .seq<|.r<|.c .m<|.c (.fP 1 0 false)<|.c (.l1 1)<|.c (.ln 3 1 8)<|.c .ls<|.nn ?_
         refine .cD rfl (fun h61=>?_) (fun h61=>?_)
         ·skip
          obtain⟨d,hd1⟩:∃x_,x.2[k]?=some x_:=⟨_,List.getElem?_eq_getElem (by omega)⟩
          refine .skip<|ks_n<|.seq<|.block<|.r<|.c (.fP 1 0 false)<|.c (.l1 1)<|.c .m<|.c (.xL 3 1 8) ?_
          refine .c (.l1 1)<|.c .ls<|.c .m ?_
          refine .cD 70 rfl (fun g70=>?_) (fun g70=>?_)
          ·skip
           refine .c .f<|.c .f<|.c .f<|.c .f<|.c .f<|.c .f<|.c .pT<|.nn ?_
           refine .k1 ?_
           refine .seq ?_
           have hdv:dimV d=false:=decide_eq_false (by omega)
           have hD:x.2.all dimV=false:=by rw[hG,all_drop hd1,hdv,Bool.false_and]
           refine .region<|.c .a<|.nn<|.ret<|kb_r<|ks_r<|kl_r<|kb_r<|kb_r<|ks_r<|kl_r<|kb_r<|ks_r ?_
           refine kf_ret rfl ?_ nobox
           exact leafB (arrsV_bad (i:=i) (by omega) (by rw[hA,arrOk,hD,Bool.and_false,Bool.and_false,Bool.false_and])).symm
          ·skip
           refine .c (.g (.fP 1 0 false))<|.c (.g (.l1 1))<|.c (.g .m)<|.c (.g (.xL 3 1 8)) ?_
           refine .c (.g (.l1 1))<|.c (.g .gt)<|.c .pF<|.nn ?_
           refine ACode.condT rfl (fun h77=>?_) (fun h77=>?_)
           ·try simp only[zs]at h77
            refine .seq ?_
            have hdv:dimV d=false:=decide_eq_false (by omega)
            have hD:x.2.all dimV=false:=by rw[hG,all_drop hd1,hdv,Bool.false_and]
            refine .region<|.c .a<|.nn<|.ret<|kb_r<|ks_r<|kl_r<|kb_r<|kb_r<|ks_r<|kl_r<|kb_r<|ks_r ?_
            refine kf_ret rfl ?_ nobox
            exact leafB (arrsV_bad (i:=i) (by omega) (by rw[hA,arrOk,hD,Bool.and_false,Bool.and_false,Bool.false_and])).symm
           ·try simp only[zs]at h77
            have hdv:dimV d=true:=decide_eq_true (by omega)
            refine .skip<|kb_n<|ks_n<|.region<|.c .m<|.c .pl<|.c .a<|.nil ?_
            refine kl_k [] ⟨k+1,rfl,by omega,by rw[hG,all_drop hd1,hdv,Bool.true_and],rfl⟩ ⟨kd,kd,kd,kd,kd,trivial⟩
         ·skip
          have hD:x.2.all dimV=true:=by rw[hG,List.drop_of_length_le (by omega)];rfl
          refine .exit<|ks_e<|kl_e<|kb_hit<|kb_n<|ks_n<|.region<|.c .m<|.c .pl<|.c .a<|.nil ?_
          refine kl_k [] ⟨i+1,rfl,by omega,fun j hj=>(Nat.lt_succ_iff_lt_or_eq.1 hj).elim (fun h=>hF j h) (fun h=>by rw[h,hA,arrOk,hD];rw[hAr]at *;first|(simp_all;done)|(simp_all;omega)|grind),rfl⟩ ⟨kd,kd,kd,trivial⟩
     ·skip
      have hB0:i=0:=by omega
      refine .c .f<|.c .f<|.c .f<|.c .f<|.c .f<|.c .f<|.c .f<|.c .f<|.c .f<|.c (.g .pF)<|.c .pF<|.c .m<|.c (.g (.fB 1 0 false))<|.c (.g (.b1 1))<|.c (.g (.ln 3 1 8))<|.c (.g .ls)<|.c .pF<|.c .m ?_
      refine RunK.cases 51 _ rfl (fun g51=>?_) (fun g51=>?_)
      ·try simp only[zs]at g51
       refine .c .f<|.c .f<|.c .f<|.c .f<|.c .pT ?_
       refine .nil ⟨by kernel_rfl,?_⟩
       refine ks_n ?_
       refine .k1 ?_
       refine .r<|.c .a<|.nn<|.ret<|ks_r<|kb_r<|ks_r<|kl_r<|kb_r<|ks_r ?_
       refine kf_ret rfl ?_ nobox
       exact leafB (arrsV_bad (i:=i) (by omega) (by rw[hA,arrOk];rw[hAr]at *;first|(simp_all;done)|(simp_all;omega)|grind)).symm
      ·try simp only[zs]at g51
       refine .c (.g (.fB 1 0 false))<|.c (.g (.b1 1))<|.c (.g (.ln 3 1 8))<|.c (.g .gt)<|.c .pF ?_
       refine .nil ⟨by kernel_rfl,?_⟩
       refine ks_n ?_
       refine ACode.condT rfl (fun h56=>?_) (fun h56=>?_)
       ·try simp only[zs]at h56
        refine .r<|.c .a<|.nn<|.ret<|ks_r<|kb_r<|ks_r<|kl_r<|kb_r<|ks_r ?_
        refine kf_ret rfl ?_ nobox
        exact leafB (arrsV_bad (i:=i) (by omega) (by rw[hA,arrOk];rw[hAr]at *;first|(simp_all;done)|(simp_all;omega)|grind)).symm
       ·try simp only[zs]at h56
        refine .skip<|ks_n<|.r<|.c .a<|.nn<|.block ?_
        refine .loopK (fun m σ=>(∃k:Nat,m=x.2.length -k∧(k≤x.2.length)∧(x.2.all dimV=(x.2.drop k).all dimV)∧σ=[eD 0 (dRs ar),eT 2 false,eN 3 (i:Nat),eP 4 (rR x),eN 5 (k:Nat)])) [] ⟨0,rfl,by omega,rfl,rfl⟩ ⟨kd,kd,kd,ks rfl (.c (.frzP _ _ _ _ _ _ _ _ rfl (show _=dR [rR x]from rfl) rfl rfl rfl)),kd,trivial⟩ ?_
        rintro m σ ⟨k,hm0,hk,hG,rfl⟩
        refine .seq<|.r<|.c .m<|.c (.fP 1 0 false)<|.c (.l1 1)<|.c (.ln 3 1 8)<|.c .ls<|.nn ?_
        refine .cD rfl (fun h61=>?_) (fun h61=>?_)
        ·skip
         obtain⟨d,hd1⟩:∃x_,x.2[k]?=some x_:=⟨_,List.getElem?_eq_getElem (by omega)⟩
         refine .skip<|ks_n<|.seq<|.block<|.r<|.c (.fP 1 0 false)<|.c (.l1 1)<|.c .m<|.c (.xL 3 1 8) ?_
         refine .c (.l1 1)<|.c .ls<|.c .m ?_
         refine .cD 70 rfl (fun g70=>?_) (fun g70=>?_)
         ·skip
          refine .c .f<|.c .f<|.c .f<|.c .f<|.c .f<|.c .f<|.c .pT<|.nn ?_
          refine .k1 ?_
          refine .seq ?_
          have hdv:dimV d=false:=decide_eq_false (by omega)
          have hD:x.2.all dimV=false:=by rw[hG,all_drop hd1,hdv,Bool.false_and]
          refine .region<|.c .a<|.nn<|.ret<|kb_r<|ks_r<|kl_r<|kb_r<|kb_r<|ks_r<|kl_r<|kb_r<|ks_r ?_
          refine kf_ret rfl ?_ nobox
          exact leafB (arrsV_bad (i:=i) (by omega) (by rw[hA,arrOk,hD,Bool.and_false,Bool.and_false,Bool.false_and])).symm
         ·skip
          refine .c (.g (.fP 1 0 false))<|.c (.g (.l1 1))<|.c (.g .m)<|.c (.g (.xL 3 1 8)) ?_
          refine .c (.g (.l1 1))<|.c (.g .gt)<|.c .pF<|.nn ?_
          refine ACode.condT rfl (fun h77=>?_) (fun h77=>?_)
          ·try simp only[zs]at h77
           refine .seq ?_
           have hdv:dimV d=false:=decide_eq_false (by omega)
           have hD:x.2.all dimV=false:=by rw[hG,all_drop hd1,hdv,Bool.false_and]
           refine .region<|.c .a<|.nn<|.ret<|kb_r<|ks_r<|kl_r<|kb_r<|kb_r<|ks_r<|kl_r<|kb_r<|ks_r ?_
           refine kf_ret rfl ?_ nobox
           exact leafB (arrsV_bad (i:=i) (by omega) (by rw[hA,arrOk,hD,Bool.and_false,Bool.and_false,Bool.false_and])).symm
          ·try simp only[zs]at h77
           have hdv:dimV d=true:=decide_eq_true (by omega)
           refine .skip<|kb_n<|ks_n<|.region<|.c .m<|.c .pl<|.c .a<|.nil ?_
           refine kl_k [] ⟨k+1,rfl,by omega,by rw[hG,all_drop hd1,hdv,Bool.true_and],rfl⟩ ⟨kd,kd,kd,kd,kd,trivial⟩
        ·skip
         have hD:x.2.all dimV=true:=by rw[hG,List.drop_of_length_le (by omega)];rfl
         refine .exit<|ks_e<|kl_e<|kb_hit<|kb_n<|ks_n<|.region<|.c .m<|.c .pl<|.c .a<|.nil ?_
         refine kl_k [] ⟨i+1,rfl,by omega,fun j hj=>(Nat.lt_succ_iff_lt_or_eq.1 hj).elim (fun h=>hF j h) (fun h=>by rw[h,hA,arrOk,hD];rw[hAr]at *;first|(simp_all;done)|(simp_all;omega)|grind),rfl⟩ ⟨kd,kd,kd,trivial⟩
 ·skip
  refine .exit<|ks_e<|kl_e<|kb_hit<|ks_n<|.r<|.c .m<|.c (.ln 45 2 40)<|.c .le<|.c .a<|.nn<|.ret ?_
  refine kf_ret rfl ?_ nobox
  exact leafB (by rw[arrsV_end fun j hj=>hF j (by omega)];rw[decide_eq_decide];omega)
theorem accV_at {D:Nat} {a:Acc} (h:accV D a=true):(1≤a.2.length∧a.2.length≤2)∧∀s∈a.2,affV s=true:=by
  simp only[accV,sideV,bndV,Bool.and_eq_true,List.all_eq_true,decide_eq_true_eq]at h
  exact⟨by omega,fun x hx=>(h.2.1.1 x hx).1⟩
theorem arr_mem {as_:List Arr} (h:arrsV as_=true) {i:Nat} {x:Arr} (hx:as_[i]?=some x):arrOk x=true:=arrsV_at h (List.mem_of_getElem? hx)
theorem size_fn {a:Arr} (h:arrOk a=true):Fn Tryz.prog 153 [] [ad (rR a)] (.o (nat1 (sizeA a.2))) []:=by
  obtain⟨hl,hd⟩:=arrOk_at h
  refine Fn.code0 Tryz.func153 rfl rfl rfl rfl ?_
  refine .r<|.c .bp<|.c .a<|.r<|.c .a<|.nn<|.seq<|.r<|.c (.fP 1 0 false)<|.c (.l1 1)<|.c (.ln 3 1 8)<|.c .m<|.nn<|.block ?_
  refine .loopK (fun m σ=>(∃(i:Nat) (n:Int),m=a.2.length -i∧(i≤a.2.length)∧(sizeA a.2=sizeF n (a.2.drop i))∧(B6 i n)∧σ=[eP 1 (rR a),eN 2 0,eN 3 n,eD 7 (dIs a.2),eN 8 (a.2.length:Nat),eN 9 (i:Nat)])) [] ⟨0,1,rfl,by omega,rfl,by unfold B6;omega,rfl⟩ ⟨kd,kd,kd,kd,kd,kd,trivial⟩ ?_
  rintro m σ ⟨i,n,hm0,hi,hF,hB,rfl⟩
  refine .r<|.c .ls<|.nn<|.seq ?_
  refine .cD rfl (fun h10=>?_) (fun h10=>?_)
  · skip
    obtain⟨d,hd1⟩:∃x_,a.2[i]?=some x_:=⟨_,List.getElem?_eq_getElem (by omega)⟩
    have hM:=hB.mul (hd d (List.mem_of_getElem? hd1)) (by omega)
    have hMb:=hM.bd
    refine .skip<|ks_n<|.seq<|.block<|.r<|.c (.xL 3 1 8) ?_
    refine .c (.l1 1)<|.c .a<|.nn<|.region<|.c .m<|.c .m<|.c .ml<|.c .a<|.nil<|kb_n<|ks_n<|.region<|.c .pl<|.c .m<|.nil ?_
    refine kl_k [] ⟨i+1,n *d,rfl,by omega,by rw[hF,sizeF_drop hd1],hM,rfl⟩ ⟨kd,kd,kd,kd,kd,kd,trivial⟩
  · skip
    refine .exit<|ks_e<|kl_e<|kb_hit<|ks_n<|.r<|.c .m<|.c .a<|.nn<|.ret ?_
    refine kf_ret rfl ?_ nobox
    exact leafI (by rw[hF,sizeF_end (by omega)])
theorem l4Size_fn {a:Arr} (h:arrOk a=true):Fn Tryz.prog 160 [] [ad (rR a)] (.o (nat1 (sizeA a.2))) []:=by
  obtain⟨hl,hd⟩:=arrOk_at h
  refine Fn.code0 Tryz.func160 rfl rfl rfl rfl ?_
  refine .r<|.c .bp<|.c .a<|.r<|.c .a<|.nn<|.seq<|.r<|.c .a<|.nn<|.block ?_
  refine .loopK (fun m σ=>(∃(i:Nat) (n:Int),m=a.2.length -i∧(i≤a.2.length)∧(sizeA a.2=sizeF n (a.2.drop i))∧(B6 i n)∧σ=[eP 1 (rR a),eN 2 0,eN 3 n,eN 4 (i:Nat)])) [] ⟨0,1,rfl,by omega,rfl,by unfold B6;omega,rfl⟩ ⟨kd,kd,kd,kd,trivial⟩ ?_
  rintro m σ ⟨i,n,hm0,hi,hF,hB,rfl⟩
  refine .seq<|.r<|.c .m<|.c (.fP 1 0 false)<|.c (.l1 1)<|.c (.ln 3 1 8)<|.c .ls<|.nn ?_
  refine .cD rfl (fun h9=>?_) (fun h9=>?_)
  · skip
    obtain⟨d,hd1⟩:∃x_,a.2[i]?=some x_:=⟨_,List.getElem?_eq_getElem (by omega)⟩
    have hM:=hB.mul (hd d (List.mem_of_getElem? hd1)) (by omega)
    have hMb:=hM.bd
    refine .skip<|ks_n<|.seq<|.block<|.region<|.c .m<|.c (.fP 1 0 false)<|.c (.l1 1)<|.c .m<|.c (.xL 3 1 8) ?_
    refine .c (.l1 1)<|.c .ml<|.c .a<|.nil<|kb_n<|ks_n<|.region<|.c .m<|.c .pl<|.c .a<|.nil ?_
    refine kl_k [] ⟨i+1,n *d,rfl,by omega,by rw[hF,sizeF_drop hd1],hM,rfl⟩ ⟨kd,kd,kd,kd,trivial⟩
  · skip
    refine .exit<|ks_e<|kl_e<|kb_hit<|ks_n<|.r<|.c .m<|.c .a<|.nn<|.ret ?_
    refine kf_ret rfl ?_ nobox
    exact leafI (by rw[hF,sizeF_end (by omega)])
theorem cell_fn {g:Prg} (hv:arrsV g.1=true) {D:Nat} {a:Acc} {p:List Int} (ha:accV D a=true) (hS:Small p) (hn:p.length≤4):Fn Tryz.prog 111 [] [ad (rG g),ad (rC a),vD (dIs p)] (.o (nat1 (cellG a p g.1 0))) []:=by
 obtain⟨hal,hav⟩:=accV_at ha
 have hl:=arrsV_len hv
 refine Fn.code0 Tryz.func111 rfl rfl rfl rfl ?_
 refine .r<|.c .bp<|.c .bp<|.c .a<|.r<|.c .a<|.nn<|.seq<|.r<|.c (.fP 0 0 false)<|.c (.l1 1)<|.c (.ln 45 2 40)<|.c .m<|.nn<|.block ?_
 refine .loopK (fun m σ=>(∃(i:Nat) (b:Int),m=g.1.length -i∧(i≤g.1.length)∧(cellG a p g.1 0=cellG a p (g.1.drop i) b)∧(0≤b∧b≤36 *i)∧σ=[eD 2 (dIs p),eP 3 (rG g),eP 4 (rC a),eN 6 0,eN 7 b,eD 15 (dRs g.1),eN 16 (g.1.length:Nat),eN 17 (i:Nat)])) [] ⟨0,0,rfl,by omega,rfl,by omega,rfl⟩ ⟨kd,kd,kd,kd,kd,kd,kd,kd,trivial⟩ ?_
 rintro m σ ⟨i,b,hm0,hi,hF,hb,rfl⟩
 refine .r<|.c .ls<|.nn<|.seq ?_
 refine .cD rfl (fun h18=>?_) (fun h18=>?_)
 ·skip
  obtain⟨x,hx1⟩:∃x_,g.1[i]?=some x_:=⟨_,List.getElem?_eq_getElem (by omega)⟩
  have hxo:=arr_mem hv hx1
  obtain⟨hxl,hxd⟩:=arrOk_at hxo
  have hsz:=sizeA_bd hxo
  refine .skip<|ks_n<|.seq<|.block<|.r<|.c (.xL 45 2 40) ?_
  refine .c (.lN 2)<|.c (.al 109 [.string ByteArray.empty,.slice none 0 0])<|.c (.sT 2 true)<|.nn<|.seq<|.r<|.c (.fB 0 0 false)<|.c (.b1 1)<|.c (.fP 0 0 false)<|.c (.l1 1) ?_
  refine .c (St1.neS rfl rfl rfl)<|.nn ?_
  refine ACode.condT rfl (fun h25=>?_) (fun h25=>?_)
  ·try simp only[zs]at h25
   have hne:sEq x.1 a.1=false:=by first|assumption|simp_all
   refine .r<|.c .m<|.c (.bN 2) ?_
   refine .c (.cP [.tmp 27] rfl rfl rfl rfl (size_fn hxo) rfl) ?_
   refine .c .pl<|.c .a<|.nn<|.exit<|ks_e<|kb_hit<|ks_n<|.region<|.c .pl<|.c .m<|.nil ?_
   refine kl_k [] ⟨i+1,b+sizeA x.2,rfl,by omega,by rw[hF,cellG_next hx1 hne],by omega,rfl⟩ ⟨kd,kd,kd,kd,kd,kd,kd,kd,trivial⟩
  ·try simp only[zs]at h25
   have heq:sEq x.1 a.1=true:=by first|assumption|simp_all
   refine .skip<|ks_n<|.seq<|.r<|.c (.fP 1 0 false)<|.c (.l1 1)<|.c (.ln 61 2 32)<|.c (.fB 1 0 false)<|.c (.b1 1)<|.c (.ln 3 1 8)<|.c .ne<|.nn ?_
   refine .cND rfl (fun h36=>?_) (fun h36=>?_)
   ·skip
    refine .r<|.c .a<|.nn<|.ret<|ks_r<|kb_r<|ks_r<|kl_r<|kb_r<|ks_r ?_
    refine kf_ret rfl ?_ nobox
    exact leafI (by rw[hF,cellG_len hx1 heq (by omega)])
   ·skip
    have hle:a.2.length=x.2.length:=by omega
    refine .skip<|ks_n<|.r<|.c .a<|.nn<|.seq<|.r<|.c (.fP 1 0 false)<|.c (.l1 1)<|.c (.ln 61 2 32)<|.c .m<|.nn<|.block ?_
    refine .loopK (fun m σ=>(∃(k:Nat) (n:Int),m=a.2.length -k∧(k≤a.2.length)∧(atG p x.2 a.2 0=atG p (x.2.drop k) (a.2.drop k) n)∧(0≤n)∧(B6 k (n+1))∧σ=[eD 2 (dIs p),eP 3 (rG g),eP 4 (rC a),eN 6 0,eN 7 b,eP 9 (rR x),eN 10 n,eD 15 (dRs g.1),eN 16 (g.1.length:Nat),eN 17 (i:Nat),eD 38 (dAs a.2),eN 39 (a.2.length:Nat),eN 40 (k:Nat)])) [] ⟨0,0,rfl,by omega,rfl,by omega,by unfold B6;omega,rfl⟩ ⟨kd,kd,kd,kd,kd,ks rfl (.c (.frzP _ _ _ _ _ _ _ _ rfl (show _=dR [rR x]from rfl) rfl rfl rfl)),kd,kd,kd,kd,kd,kd,kd,trivial⟩ ?_
    rintro m σ ⟨k,n,hm0,hk,hG,h0,hB,rfl⟩
    refine .r<|.c .ls<|.nn<|.seq ?_
    refine .cD rfl (fun h41=>?_) (fun h41=>?_)
    ·skip
     obtain⟨s,hs1⟩:∃x_,a.2[k]?=some x_:=⟨_,List.getElem?_eq_getElem (by omega)⟩
     have hsv:=hav s (List.mem_of_getElem? hs1)
     obtain⟨d,hd1⟩:∃x_,x.2[k]?=some x_:=⟨_,List.getElem?_eq_getElem (by omega)⟩
     have hdd:=hxd d (List.mem_of_getElem? hd1)
     refine .skip<|ks_n<|.seq<|.block<|.r<|.c .m<|.c (.xL 61 2 32) ?_
     refine .c (.lN 2)<|.c (.al 112 [.slice none 0 0,.int .i64 0])<|.c .a<|.c (.sT 2 true)<|.r<|.c (.bN 2)<|.c .m ?_
     refine .c (.cP [.tmp 45,.tmp 46] rfl rfl rfl rfl (eval_fn hsv hS hn) rfl) ?_
     refine .c .a<|.nn<|.seq<|.r<|.c .m<|.c (.fP 1 0 false)<|.c (.l1 1)<|.c .m<|.c (.xL 3 1 8) ?_
     refine .c (.l1 1)<|.c .sb ?_
     refine .c (.cP [.tmp 48,.const (.int .i64 (0)),.tmp 54] rfl rfl rfl rfl (within_fn _ 0 _) rfl) ?_
     refine .c .nt<|.nn ?_
     refine ACode.condT rfl (fun h56=>?_) (fun h56=>?_)
     ·try simp only[zs]at h56
      have hnin:¬inB (affEval s p) 0 (d -1)=true:=by first|assumption|simp_all
      refine .r<|.c .a<|.nn<|.ret<|ks_r<|kb_r<|ks_r<|kl_r<|kb_r<|ks_r<|kb_r<|ks_r<|kl_r<|kb_r<|ks_r ?_
      refine kf_ret rfl ?_ nobox
      exact leafI (by rw[hF,cellG_at hx1 heq hle,hG,atG_no hd1 hs1 hnin,if_pos rfl])
     ·try simp only[zs]at h56
      have hin:inB (affEval s p) 0 (d -1)=true:=by first|assumption|simp_all
      have hM:=B6.at h0 hB hdd (by omega) (of_decide_eq_true hin)
      have hvb:=of_decide_eq_true hin
      refine .skip<|ks_n<|.region<|.c .m<|.c (.fP 1 0 false)<|.c (.l1 1)<|.c .m<|.c (.xL 3 1 8) ?_
      refine .c (.l1 1)<|.c .ml<|.c .m<|.c .pl<|.c .a<|.nil<|kb_n<|ks_n<|.region<|.c .pl<|.c .m<|.nil ?_
      refine kl_k [] ⟨k+1,n *d+affEval s p,rfl,by omega,by rw[hG,atG_yes hd1 hs1 hin],by omega,hM.2.2.2,rfl⟩ ⟨kd,kd,kd,kd,kd,kd,kd,kd,kd,kd,kd,kd,kd,trivial⟩
    ·skip
     have hnb:=hB.bd
     refine .exit<|ks_e<|kl_e<|kb_hit<|ks_n<|.r<|.c .m<|.c .m<|.c .pl<|.c .a<|.nn<|.ret<|kb_r<|ks_r<|kl_r<|kb_r<|ks_r ?_
     refine kf_ret rfl ?_ nobox
     exact leafI (by rw[hF,cellG_at hx1 heq hle,hG,atG_end (by omega),if_neg (by omega)])
 ·skip
  refine .exit<|ks_e<|kl_e<|kb_hit<|ks_n<|.r<|.c .a<|.nn<|.ret ?_
  refine kf_ret rfl ?_ nobox
  exact leafI (by rw[hF,cellG_end (by omega)])
theorem l4Cell_fn {ar:List Arr} (hv:arrsV ar=true) {D:Nat} {a:Acc} {p:List Int} (ha:accV D a=true) (hS:Small p) (hn:p.length≤4):Fn Tryz.prog 137 [] [vD (dRs ar),ad (rC a),vD (dIs p)] (.o (nat1 (cellG a p ar 0))) []:=by
 obtain⟨hal,hav⟩:=accV_at ha
 have hl:=arrsV_len hv
 refine Fn.code0 Tryz.func137 rfl rfl rfl rfl ?_
 refine .r<|.c .bp<|.c .a<|.r<|.c .a<|.nn<|.seq<|.r<|.c .a<|.nn<|.block ?_
 refine .loopK (fun m σ=>(∃(i:Nat) (b:Int),m=ar.length -i∧(i≤ar.length)∧(cellG a p ar 0=cellG a p (ar.drop i) b)∧(0≤b∧b≤36 *i)∧σ=[eD 0 (dRs ar),eD 2 (dIs p),eP 4 (rC a),eN 6 0,eN 7 b,eN 8 (i:Nat)])) [] ⟨0,0,rfl,by omega,rfl,by omega,rfl⟩ ⟨kd,kd,kd,kd,kd,kd,trivial⟩ ?_
 rintro m σ ⟨i,b,hm0,hi,hF,hb,rfl⟩
 refine .seq<|.r<|.c .m<|.c .m<|.c (.ln 45 2 40)<|.c .ls<|.nn ?_
 refine .cD rfl (fun h15=>?_) (fun h15=>?_)
 ·skip
  obtain⟨x,hx1⟩:∃x_,ar[i]?=some x_:=⟨_,List.getElem?_eq_getElem (by omega)⟩
  have hxo:=arr_mem hv hx1
  obtain⟨hxl,hxd⟩:=arrOk_at hxo
  have hsz:=sizeA_bd hxo
  refine .skip<|ks_n<|.seq<|.block<|.seq<|.seq ?_
  refine ACode.drawK (by kernel_rfl) (by kernel_rfl) ?_
  refine .c .m<|.c .m<|.c (.xL 45 2 40) ?_
  refine .c (.fP 0 0 false)<|.c (.l1 1)<|.c (.fP 0 0 false)<|.c (.l1 1) ?_
  refine .c (St1.neS rfl rfl rfl) ?_
  refine .nil ⟨by kernel_rfl,?_⟩
  refine ks_n ?_
  refine ACode.condT rfl (fun h25=>?_) (fun h25=>?_)
  ·try simp only[zs]at h25
   have hne:sEq x.1 a.1=false:=by first|assumption|simp_all
   refine .r<|.c .m<|.c .m<|.c .m<|.c (.xL 45 2 40) ?_
   refine .c (.lN 2) ?_
   refine .c (.cP [.tmp 30] rfl rfl rfl rfl (l4Size_fn hxo) rfl) ?_
   refine .c .pl<|.c .a<|.nn<|.exit<|ks_e<|kb_hit<|ks_n<|.region<|.c .m<|.c .pl<|.c .a<|.nil ?_
   refine kl_k [] ⟨i+1,b+sizeA x.2,rfl,by omega,by rw[hF,cellG_next hx1 hne],by omega,rfl⟩ ⟨kd,kd,kd,kd,kd,kd,trivial⟩
  ·try simp only[zs]at h25
   have heq:sEq x.1 a.1=true:=by first|assumption|simp_all
   refine .skip<|ks_n<|.r<|.c .a<|.nn<|.seq<|.r<|.c .a<|.nn<|.block ?_
   refine .loopK (fun m σ=>(∃(k:Nat) (n:Int),m=a.2.length -k∧(k≤a.2.length)∧(atG p x.2 a.2 0=atG p (x.2.drop k) (a.2.drop k) n)∧(0≤n)∧(B6 k (n+1))∧(k=0∨a.2.length=x.2.length)∧σ=[eD 0 (dRs ar),eD 2 (dIs p),eP 4 (rC a),eN 6 0,eN 7 b,eN 8 (i:Nat),eN 9 n,eN 10 (k:Nat)])) [] ⟨0,0,rfl,by omega,rfl,by omega,by unfold B6;omega,.inl rfl,rfl⟩ ⟨kd,kd,kd,kd,kd,kd,kd,kd,trivial⟩ ?_
   rintro m σ ⟨k,n,hm0,hk,hG,h0,hB,hz,rfl⟩
   refine .seq<|.r<|.c .m<|.c (.fP 1 0 false)<|.c (.l1 1)<|.c (.ln 61 2 32)<|.c .ls<|.nn ?_
   refine .cD rfl (fun h37=>?_) (fun h37=>?_)
   ·skip
    obtain⟨s,hs1⟩:∃x_,a.2[k]?=some x_:=⟨_,List.getElem?_eq_getElem (by omega)⟩
    have hsv:=hav s (List.mem_of_getElem? hs1)
    refine .skip<|ks_n<|.seq<|.block<|.seq<|.seq ?_
    refine ACode.drawK (by kernel_rfl) (by kernel_rfl) ?_
    refine .c (.fP 1 0 false)<|.c (.l1 1)<|.c (.ln 61 2 32)<|.c .m<|.c .m<|.c (.xL 45 2 40) ?_
    refine .c (.fP 1 0 false)<|.c (.l1 1)<|.c (.ln 3 1 8)<|.c .ne ?_
    refine .nil ⟨by kernel_rfl,?_⟩
    refine ks_n ?_
    refine .cND rfl (fun h49=>?_) (fun h49=>?_)
    ·skip
     refine .r<|.c .a<|.nn<|.ret<|ks_r<|kb_r<|ks_r<|kl_r<|kb_r<|ks_r<|kb_r<|ks_r<|kl_r<|kb_r<|ks_r ?_
     refine kf_ret rfl ?_ nobox
     exact leafI (by rw[hF,cellG_len hx1 heq (by omega)])
    ·skip
     have hle:a.2.length=x.2.length:=by omega
     obtain⟨d,hd1⟩:∃x_,x.2[k]?=some x_:=⟨_,List.getElem?_eq_getElem (by omega)⟩
     have hdd:=hxd d (List.mem_of_getElem? hd1)
     refine .skip<|ks_n<|.r<|.c (.fP 1 0 false)<|.c (.l1 1)<|.c .m<|.c (.xL 61 2 32) ?_
     refine .c (.lN 2)<|.c .m ?_
     refine .c (.cP [.tmp 54,.tmp 55] rfl rfl rfl rfl (l1Eval_fn hsv hS hn) rfl) ?_
     refine .c .a<|.nn<|.seq<|.r<|.c .m<|.c .ls<|.c .m ?_
     refine .cD 59 rfl (fun g59=>?_) (fun g59=>?_)
     ·skip
      refine .c .f<|.c .f<|.c .f<|.c .f<|.c .f<|.c .f<|.c .f<|.c .f<|.c .f<|.c .f<|.c .pT<|.nn ?_
      refine .k1 ?_
      refine .seq ?_
      have hnin:¬inB (affEval s p) 0 (d -1)=true:=fun h=>by have:=of_decide_eq_true h;omega
      refine .region<|.c .a<|.nn<|.ret<|ks_r<|kb_r<|ks_r<|kl_r<|kb_r<|ks_r<|kb_r<|ks_r<|kl_r<|kb_r<|ks_r ?_
      refine kf_ret rfl ?_ nobox
      exact leafI (by rw[hF,cellG_at hx1 heq hle,hG,atG_no hd1 hs1 hnin,if_pos rfl])
     ·skip
      refine .c (.g .m)<|.c (.g .m)<|.c (.g .m)<|.c (.g (.xL 45 2 40)) ?_
      refine .c (.g (.fP 1 0 false))<|.c (.g (.l1 1))<|.c (.g .m)<|.c (.g (.xL 3 1 8)) ?_
      refine .c (.g (.l1 1))<|.c (.g .ge)<|.c .pF<|.nn ?_
      refine ACode.condT rfl (fun h70=>?_) (fun h70=>?_)
      ·try simp only[zs]at h70
       refine .seq ?_
       have hnin:¬inB (affEval s p) 0 (d -1)=true:=fun h=>by have:=of_decide_eq_true h;omega
       refine .region<|.c .a<|.nn<|.ret<|ks_r<|kb_r<|ks_r<|kl_r<|kb_r<|ks_r<|kb_r<|ks_r<|kl_r<|kb_r<|ks_r ?_
       refine kf_ret rfl ?_ nobox
       exact leafI (by rw[hF,cellG_at hx1 heq hle,hG,atG_no hd1 hs1 hnin,if_pos rfl])
      ·try simp only[zs]at h70
       have hin:inB (affEval s p) 0 (d -1)=true:=decide_eq_true (by omega)
       have hM:=B6.at h0 hB hdd (by omega) (of_decide_eq_true hin)
       have hvb:=of_decide_eq_true hin
       refine .skip<|ks_n<|.region<|.c .m<|.c .m<|.c .m<|.c (.xL 45 2 40) ?_
       refine .c (.fP 1 0 false)<|.c (.l1 1)<|.c .m<|.c (.xL 3 1 8) ?_
       refine .c (.l1 1)<|.c .ml<|.c .m<|.c .pl<|.c .a<|.nil<|kb_n<|ks_n<|.region<|.c .m<|.c .pl<|.c .a<|.nil ?_
       refine kl_k [] ⟨k+1,n *d+affEval s p,rfl,by omega,by rw[hG,atG_yes hd1 hs1 hin],by omega,hM.2.2.2,.inr hle,rfl⟩ ⟨kd,kd,kd,kd,kd,kd,kd,kd,trivial⟩
   ·skip
    have hnb:=hB.bd
    refine .exit<|ks_e<|kl_e<|kb_hit<|ks_n<|.seq ?_
    have hle:a.2.length=x.2.length:=by omega
    refine .region<|.c .m<|.c .m<|.c .pl<|.c .a<|.nn<|.ret<|kb_r<|ks_r<|kl_r<|kb_r<|ks_r ?_
    refine kf_ret rfl ?_ nobox
    exact leafI (by rw[hF,cellG_at hx1 heq hle,hG,atG_end (by omega),if_neg (by omega)])
 ·skip
  refine .exit<|ks_e<|kl_e<|kb_hit<|ks_n<|.r<|.c .a<|.nn<|.ret ?_
  refine kf_ret rfl ?_ nobox
  exact leafI (by rw[hF,cellG_end (by omega)])
section
variable {a : Aff} {o : Pts} {x : List Int}
end
theorem npR_pt {ns:List Lp} {x:List Int} (h:x∈npR ns):Small x∧x.length≤4:=by
  obtain⟨h1,h2,h3⟩:=npR_mem h
  have hv:=(okP_iff.1 h1).1
  obtain⟨h4,h5⟩:=mem_pts.1 h2
  have h6:=PB_of_in hv h4 h5 ns.length (Nat.le_refl _)
  rw[←h4,List.take_length]at h6
  have h7:=(nsV_at hv).1
  exact⟨h6.small (by omega),by omega⟩
def bgL (l:Lp):Prop:=l.1.length≤1073741824∧l.2.length≤1073741824∧(∀a∈l.1,a.1.length≤1073741824)∧∀a∈l.2,a.1.length≤1073741824
def bgN (ns:List Lp):Prop:=ns.length≤1073741824∧∀l∈ns,bgL l
theorem smN_of {ns:List Lp} (h:nsV ns=true):smN ns:=by
  obtain⟨h1,h2⟩:=nsV_at h
  refine⟨by omega,fun l hl=>?_⟩
  obtain⟨i,hi⟩:=List.mem_iff_getElem?.1 hl
  obtain⟨a,b⟩:=h2 i l hi
  simp only[sideV,bndV,Bool.and_eq_true,List.all_eq_true,decide_eq_true_eq]at a b
  exact⟨by omega,by omega,fun x hx=>by rw[affV_len (a.1.1 x hx).1];omega,fun x hx=>by rw[affV_len (b.1.1 x hx).1];omega⟩
theorem implNestV_B (ns:List Lp) (hs:bgN ns):Fn Tryz.prog 105 [] [vD (dLs ns)] (.o (bo1 (nsV ns))) []:=by
 have hn:=hs.1
 refine Fn.code0 Tryz.func105 rfl rfl rfl rfl ?_
 refine .r<|.c .a<|.nn<|.seq<|.r<|.c .m<|.c (.ln 148 2 48)<|.c .m<|.nn<|.block ?_
 refine .loopK (fun m σ=>(∃i:Nat,m=ns.length -i∧(i≤ns.length)∧(nestG 0 ns=nestG i (ns.drop i))∧σ=[eD 0 (dLs ns),eD 5 (dLs ns),eN 6 (ns.length:Nat),eN 7 (i:Nat)])) [] ⟨0,rfl,by omega,by simp,rfl⟩ ⟨kd,kd,kd,kd,trivial⟩ ?_
 rintro m σ ⟨i,hm0,hi,hF,rfl⟩
 refine .r<|.c .ls<|.nn<|.seq ?_
 refine .cD rfl (fun h8=>?_) (fun h8=>?_)
 ·skip
  obtain⟨x,hx1⟩:∃x,ns[i]?=some x:=⟨_,List.getElem?_eq_getElem (by omega)⟩
  have hq:=hs.2 x (List.mem_of_getElem? hx1)
  refine .skip<|ks_n<|.seq<|.block<|.r<|.c .m<|.c (.xL 148 2 48) ?_
  refine .c (.lN 2)<|.c (.al 104 [.slice none 0 0,.slice none 0 0])<|.c .a<|.c (.sT 2 true)<|.r<|.c (.fB 0 0 false)<|.c (.b1 1)<|.c .m ?_
  refine .c (.cP [.tmp 13,.tmp 14] rfl rfl rfl rfl (boundsOk_fn i _ (Nat.le_trans hq.1 (by omega))) rfl) ?_
  refine .c .nt<|.c .m ?_
  refine AOps.cases 17 _ rfl (fun g17=>?_) (fun g17=>?_)
  ·try simp only[zs]at g17
   refine .c .f<|.c .f<|.c .f<|.c .f<|.c .f<|.c .pT<|.nn ?_
   refine .k1 ?_
   refine .seq ?_
   have g:(sideV i x.1&&sideV i x.2)=false:=by simp[*]
   refine .region<|.c .a<|.nn<|.ret<|kb_r<|ks_r<|kl_r<|kb_r<|ks_r ?_
   refine kf_ret rfl ?_ nobox
   exact leafB (by rw[nsV,hF,nestG_drop hx1,g];simp)
  ·try simp only[zs]at g17
   refine .c (.g (.fB 1 0 false))<|.c (.g (.b1 1))<|.c (.g .m) ?_
   refine .c (.gT rfl rfl rfl (.cP [.tmp 19,.tmp 20] rfl rfl rfl rfl (boundsOk_fn i _ (Nat.le_trans hq.2.1 (by omega))) rfl)) ?_
   refine .c (.g .nt)<|.c .pF<|.nn ?_
   refine ACode.condT rfl (fun h23=>?_) (fun h23=>?_)
   ·try simp only[zs]at h23
    refine .seq ?_
    have g:(sideV i x.1&&sideV i x.2)=false:=by simp[*]
    refine .region<|.c .a<|.nn<|.ret<|kb_r<|ks_r<|kl_r<|kb_r<|ks_r ?_
    refine kf_ret rfl ?_ nobox
    exact leafB (by rw[nsV,hF,nestG_drop hx1,g];simp)
   ·try simp only[zs]at h23
    refine .skip<|kb_n<|ks_n ?_
    have g:(sideV i x.1&&sideV i x.2)=true:=by simp[*]
    refine .region<|.c .pl<|.c .m<|.nil ?_
    refine kl_k [] ⟨i+1,rfl,by omega,by rw[hF,nestG_drop hx1,g,Bool.true_and],rfl⟩ ⟨kd,kd,kd,kd,trivial⟩
 ·skip
  refine .exit<|ks_e<|kl_e<|kb_hit<|ks_n<|.r<|.c .m<|.c (.ln 148 2 48)<|.c .le<|.c .a<|.nn<|.ret ?_
  refine kf_ret rfl ?_ nobox
  exact leafB (by rw[nsV,hF,List.drop_of_length_le (by omega),nestG,Bool.and_true,Bool.eq_iff_iff];simp;omega)
theorem specNestV_B (ns:List Lp) (hs:bgN ns):Fn Tryz.prog 132 [] [vD (dLs ns)] (.o (bo1 (nsV ns))) []:=by
 have hn:=hs.1
 refine Fn.code0 Tryz.func132 rfl rfl rfl rfl ?_
 refine .r<|.c .a<|.nn<|.seq<|.r<|.c .a<|.nn<|.block ?_
 refine .loopK (fun m σ=>(∃i:Nat,m=ns.length -i∧(i≤ns.length)∧(nestG 0 ns=nestG i (ns.drop i))∧σ=[eD 0 (dLs ns),eN 3 (i:Nat)])) [] ⟨0,rfl,by omega,by simp,rfl⟩ ⟨kd,kd,trivial⟩ ?_
 rintro m σ ⟨i,hm0,hi,hF,rfl⟩
 refine .seq<|.r<|.c .m<|.c .m<|.c (.ln 148 2 48)<|.c .ls<|.c .m ?_
 refine .cD 8 rfl (fun g8=>?_) (fun g8=>?_)
 ·skip
  refine .c (.g .m)<|.c (.g (.ln 148 2 48))<|.c (.g .le)<|.c .pT<|.nn ?_
  refine ACode.condT rfl (fun h12=>?_) (fun h12=>?_)
  ·try simp only[zs]at h12
   obtain⟨x,hx1⟩:∃x,ns[i]?=some x:=⟨_,List.getElem?_eq_getElem (by omega)⟩
   have hq:=hs.2 x (List.mem_of_getElem? hx1)
   refine .skip<|ks_n<|.seq<|.block<|.r<|.c .m<|.c .m<|.c (.xL 148 2 48) ?_
   refine .c (.fP 0 0 false)<|.c (.l1 1)<|.c .m ?_
   refine .c (.cP [.tmp 19,.tmp 20] rfl rfl rfl rfl (l2Side_fn i _ (Nat.le_trans hq.1 (by omega))) rfl) ?_
   refine .c .nt<|.c .m ?_
   refine AOps.cases 23 _ rfl (fun g23=>?_) (fun g23=>?_)
   ·try simp only[zs]at g23
    refine .c .f<|.c .f<|.c .f<|.c .f<|.c .f<|.c .f<|.c .f<|.c .f<|.c .pT<|.nn ?_
    refine .k1 ?_
    refine .seq ?_
    have g:(sideV i x.1&&sideV i x.2)=false:=by simp[*]
    refine .region<|.c .a<|.nn<|.ret<|kb_r<|ks_r<|kl_r<|kb_r<|ks_r ?_
    refine kf_ret rfl ?_ nobox
    exact leafB (by rw[nsV,hF,nestG_drop hx1,g];simp)
   ·try simp only[zs]at g23
    refine .c (.g .m)<|.c (.g .m)<|.c (.g (.xL 148 2 48)) ?_
    refine .c (.g (.fP 1 0 false))<|.c (.g (.l1 1))<|.c (.g .m) ?_
    refine .c (.gT rfl rfl rfl (.cP [.tmp 28,.tmp 29] rfl rfl rfl rfl (l2Side_fn i _ (Nat.le_trans hq.2.1 (by omega))) rfl)) ?_
    refine .c (.g .nt)<|.c .pF<|.nn ?_
    refine ACode.condT rfl (fun h32=>?_) (fun h32=>?_)
    ·try simp only[zs]at h32
     refine .seq ?_
     have g:(sideV i x.1&&sideV i x.2)=false:=by simp[*]
     refine .region<|.c .a<|.nn<|.ret<|kb_r<|ks_r<|kl_r<|kb_r<|ks_r ?_
     refine kf_ret rfl ?_ nobox
     exact leafB (by rw[nsV,hF,nestG_drop hx1,g];simp)
    ·try simp only[zs]at h32
     refine .skip<|kb_n<|ks_n ?_
     have g:(sideV i x.1&&sideV i x.2)=true:=by simp[*]
     refine .region<|.c .m<|.c .pl<|.c .a<|.nil ?_
     refine kl_k [] ⟨i+1,rfl,by omega,by rw[hF,nestG_drop hx1,g,Bool.true_and],rfl⟩ ⟨kd,kd,trivial⟩
  ·try simp only[zs]at h12
   refine .exit<|ks_e<|kl_e<|kb_hit<|ks_n<|.r<|.c .m<|.c (.ln 148 2 48)<|.c .le<|.c .a<|.nn<|.ret ?_
   refine kf_ret rfl ?_ nobox
   first|exact leafB (by rw[nsV,hF,List.drop_of_length_le (by omega),nestG,Bool.and_true,Bool.eq_iff_iff];simp;omega)|exact leafB (by rw[nsV,decide_eq_false (show ¬ns.length≤4 by omega)];simp;omega)
 ·skip
  refine .c .f<|.c .f<|.c .f<|.c .pF<|.nn ?_
  refine .k0 ?_
  refine .exit<|ks_e<|kl_e<|kb_hit<|ks_n<|.r<|.c .m<|.c (.ln 148 2 48)<|.c .le<|.c .a<|.nn<|.ret ?_
  refine kf_ret rfl ?_ nobox
  first|exact leafB (by rw[nsV,hF,List.drop_of_length_le (by omega),nestG,Bool.and_true,Bool.eq_iff_iff];simp;omega)|exact leafB (by rw[nsV,decide_eq_false (show ¬ns.length≤4 by omega)];simp;omega)
theorem implNestPts_bad (ns:List Lp) (hs:bgN ns) (hb:nsV ns=false):Fn Tryz.prog 60 [] [vD (dLs ns)] (.tup [vD (dPs (npR ns)),bo1 (okP ns)]) []:=by
 have hO:okP ns=false:=by rw[okP,hb];rfl
 have hN:=npR_no hO
 refine Fn.code0 Tryz.func60 rfl rfl rfl rfl ?_
 refine .r<|.c .a<|.c .a<|.nn<|.seq<|.r<|.c .m ?_
 refine .c (.cP [.tmp 5] rfl rfl rfl rfl (implNestV_B ns hs) rfl) ?_
 refine .c .nt<|.nn ?_
 refine ACode.condT rfl (fun h7=>?_) (fun h7=>?_)
 ·try simp only[zs]at h7
  refine .r<|.c .a<|.c .a<|.nn<|.ret<|ks_r ?_
  refine kf_wret [eD 2 (dPs (npR ns)),eT 3 (okP ns)] (Wk.keep [] rfl rfl ⟨ks rfl (.c (Cto.nilE 1 (by rw[hN];rfl))),ks rfl (.dt (by rw[hO])),trivial⟩) rfl ?_ nobox
  rfl
 ·try simp only[zs]at h7
  rw[hb]at h7;cases h7
theorem specNestPts_bad (ns:List Lp) (hs:bgN ns) (hb:nsV ns=false):Fn Tryz.prog 93 [] [vD (dLs ns)] (.tup [vD (dPs (npR ns)),bo1 (okP ns)]) []:=by
 have hO:okP ns=false:=by rw[okP,hb];rfl
 have hN:=npR_no hO
 refine Fn.code0 Tryz.func93 rfl rfl rfl rfl ?_
 refine .r<|.c .a<|.c .a<|.nn<|.seq<|.r<|.c .m ?_
 refine .c (.cP [.tmp 5] rfl rfl rfl rfl (specNestV_B ns hs) rfl) ?_
 refine .c .nt<|.c .m ?_
 refine AOps.cases 8 _ rfl (fun g8=>?_) (fun g8=>?_)
 ·try simp only[zs]at g8
  refine .c .f<|.c .f<|.c .f<|.c .pT<|.nn ?_
  refine .k1 ?_
  refine .r<|.c (St1.lit0 (k':=113) (e:=43) (sz:=1) (b:=true) rfl rfl rfl rfl (by kernel_rfl) rfl rfl) ?_
  refine .c .a<|.c .a<|.nn<|.ret<|ks_r ?_
  refine kf_wret [eD 2 (dPs (npR ns)),eT 3 (okP ns)] (Wk.keep [] rfl rfl ⟨ks rfl (.c (.fz rfl (by rw[hN];first|rfl|simp[dR]) (by rw[hN];rfl) (by omega))),ks rfl (.dt (by rw[hO])),trivial⟩) rfl ?_ nobox
  rfl
 ·try simp only[zs]at g8
  rw[hb]at g8;cases g8
theorem implNestPts_B (ns:List Lp) (hs:bgN ns):Fn Tryz.prog 60 [] [vD (dLs ns)] (.tup [vD (dPs (npR ns)),bo1 (okP ns)]) []:=by
  cases h:nsV ns with
  |true=>exact implNestPts_fn ns (smN_of h)
  |false=>exact implNestPts_bad ns hs h
theorem specNestPts_B (ns:List Lp) (hs:bgN ns):Fn Tryz.prog 93 [] [vD (dLs ns)] (.tup [vD (dPs (npR ns)),bo1 (okP ns)]) []:=by
  cases h:nsV ns with
  |true=>exact specNestPts_fn ns (smN_of h)
  |false=>exact specNestPts_bad ns hs h
theorem sz_bg {ns:List Lp} (h:szLs ns≤1073741824):bgN ns:=by
  have hl:=szLs_len ns
  refine⟨by omega,fun l hl2=>?_⟩
  have h1:=szLs_mem hl2
  have e:szL l=szAs l.1+szAs l.2:=rfl
  have a1:=szAs_len l.1
  have a2:=szAs_len l.2
  exact⟨by omega,by omega,fun x hx=>by have:=szAs_mem hx;omega,fun x hx=>by have:=szAs_mem hx;omega⟩
theorem mem_rdEs {a:Acc}:∀ {l:List Ex},a∈rdEs l→∃x∈l,a∈rdE x
  |[],h=>by rw[rdEs]at h;cases h
  |x::l,h=>by
    rw[rdEs,List.mem_append]at h
    rcases h with h|h
    ·exact⟨x,by simp,h⟩
    · obtain⟨y,hy,h2⟩:=mem_rdEs h
      exact⟨y,by simp[hy],h2⟩
theorem rdE_acc {d:Nat} {a:Acc}:∀ {L:Nat} {e:Ex},exV d L e=true→a∈rdE e→accV d a=true
  |0,e,h,_=>by cases h
  |L+1,e,h,ha=>by
    rw[exV,Bool.and_eq_true,Bool.and_eq_true]at h
    rw[rdE_eq,List.mem_append]at ha
    rcases ha with ha|ha
    · split at ha
      · rename_i hk
        have h2:=h.1.2
        rw[fldV,if_neg (by omega),if_neg (by omega),if_pos hk,Bool.and_eq_true]at h2
        rw[List.mem_singleton.1 ha];exact h2.2
      ·cases ha
    · obtain⟨x,hx,h3⟩:=mem_rdEs ha
      exact rdE_acc (List.all_eq_true.1 h.2 x hx) h3
theorem stm_accs {D:Int} {s:Stm} (h:stmtV D s=true):accV D.toNat s.1=true∧(∀a∈rdE s.2,accV D.toNat a=true)∧(rdE s.2).length≤12:=by
  obtain⟨h1,h2,h3,_⟩:=stmtV_ex h
  exact⟨h2,fun a ha=>rdE_acc h1 ha,Nat.le_trans (rdE_len s.2) h3⟩
theorem accG_not {ar:List Arr} {p:List Int}:(fun a=>decide (cellG a p ar 0<0))=fun a=> !accG ar p a:=by
  funext a;rw[accG,Bool.eq_iff_iff];simp
theorem cloneInts_fn (p:List Int) (hp:p.length≤4294967296):Fn Tryz.prog 67 [] [vD (dIs p)] (.o (vD (dIs p))) []:=
  Fn.pure fun B bx al w vs hv=>by
    obtain⟨v,rfl,h⟩:=vals1 hv
    have h3:=dr_ints h
    obtain⟨a,n,c,rfl,rfl⟩:=sl_form h3
    exact(clone_any B a _ c p w h3 hp).mono fun e w' ⟨v,h1,h2,h4⟩=>⟨_,h1,h4,ints_dr ((h2.sl (by omega)).mono fun b hb _=>.inr (h2.lt b hb).1)⟩
theorem idx_stm {f:FuncId} {cap:List (List D)} (hc:callable Tryz.prog f=true) (p:Stm→Bool) (xs:List Stm) (hx:xs.length≤1099511627776) (hf:∀x∈xs,Fn Tryz.prog f [] (ad (rS x)::cap.map fun c=>.c (.ptr c)) (.o (bo1 (p x))) []):Fn Tryz.prog 107 [] [vD (.list 9 (xs.map rS)),.c (.fn f cap)] (.o (nat1 (idxF p xs))) []:=by
 refine Fn.code0 Tryz.func107 rfl rfl rfl rfl ?_
 refine .r<|.c .a<|.nn<|.seq<|.r<|.c .m<|.c (.ln 66 9 152)<|.c .m<|.nn<|.block ?_
 refine .loopK (fun m σ=>(∃i:Nat,m=xs.length -i∧(i≤xs.length)∧(idxF p xs=idxG p i (xs.drop i))∧σ=[eD 0 (.list 9 (xs.map rS)),(.t 1,.v (.o (.c (.fn f cap)))),eN 7 (xs.length:Nat),eN 8 (i:Nat)])) [] ⟨0,rfl,by omega,rfl,rfl⟩ ⟨kd,kd,kd,kd,trivial⟩ ?_
 rintro m σ ⟨i,hm0,hi,hF,rfl⟩
 refine .r<|.c .ls<|.nn<|.seq ?_
 refine .cD rfl (fun h9=>?_) (fun h9=>?_)
 ·skip
  obtain⟨x,hx1⟩:∃x_,xs[i]?=some x_:=⟨_,List.getElem?_eq_getElem (by omega)⟩
  refine .skip<|ks_n<|.seq<|.block<|.r<|.c .m<|.c .a<|.r<|.c .m<|.c .m<|.c .m<|.c (.xL 66 9 152) ?_
  refine .c (.lN 9) ?_
  refine .c (.cP [.tmp 15] rfl rfl rfl rfl (hf x (List.mem_of_getElem? hx1)) rfl hc) ?_
  refine .nn ?_
  refine ACode.condT rfl (fun h16=>?_) (fun h16=>?_)
  ·try simp only[zs]at h16
   refine .r<|.c .m<|.c .a<|.nn<|.ret<|kb_r<|ks_r<|kl_r<|kb_r<|ks_r ?_
   refine kf_ret rfl ?_ nobox
   exact leafI (by rw[hF,idxG_drop hx1,h16];rfl)
  ·try simp only[zs]at h16
   refine .skip<|kb_n<|ks_n<|.region<|.c .pl<|.c .m<|.nil ?_
   refine kl_k [] ⟨i+1,rfl,by omega,by rw[hF,idxG_drop hx1,h16];rfl,rfl⟩ ⟨kd,kd,kd,kd,trivial⟩
 ·skip
  refine .exit<|ks_e<|kl_e<|kb_hit<|ks_n<|.r<|.c .a<|.nn<|.ret ?_
  refine kf_ret rfl ?_ nobox
  exact leafI (by rw[hF,List.drop_of_length_le (by omega)];rfl)
theorem cnt_stm {f:FuncId} {cap:List (List D)} (hc:callable Tryz.prog f=true) (p:Stm→Bool) (xs:List Stm) (hx:xs.length≤1099511627776) (hf:∀x∈xs,Fn Tryz.prog f [] (ad (rS x)::cap.map fun c=>.c (.ptr c)) (.o (bo1 (p x))) []):Fn Tryz.prog 62 [] [vD (.list 9 (xs.map rS)),.c (.fn f cap)] (.o (bo1 (xs.any p))) []:=by
  refine Fn.code0 Tryz.func62 rfl rfl rfl rfl ?_
  refine .r<|.c .a<|.r<|.c .m<|.c .m ?_
  refine .c (.cP [.tmp 5,.tmp 6] rfl rfl rfl rfl (idx_stm hc p xs hx hf) rfl) ?_
  refine .c .ge<|.c .a<|.nn<|.ret ?_
  refine kf_ret rfl ?_ nobox
  exact leafB idxG_any
theorem sok1_fn {g:Prg} (hv:arrsV g.1=true) {D:Nat} {a:Acc} {p:List Int} (ha:accV D a=true) (hS:Small p) (hn:p.length≤4):Fn Tryz.prog 113 [] [ad (rC a),.c (.ptr (rG g)),.c (.ptr [dIs p])] (.o (bo1 (decide (cellG a p g.1 0<0)))) []:=by
  refine Fn.code0 Tryz.func113 rfl rfl rfl rfl ?_
  refine .r<|.c .bp<|.c .a<|.r<|.c (.lN 2)<|.c (.lN 2)<|.c (.l1 1) ?_
  refine .c (.cP [.tmp 5,.tmp 6,.tmp 7] rfl rfl rfl rfl (cell_fn hv ha hS hn) rfl) ?_
  refine .c .ls<|.c .a<|.nn<|.ret ?_
  refine kf_ret rfl ?_ nobox
  rfl
theorem sok_fn {g:Prg} (hv:arrsV g.1=true) {D:Int} {s:Stm} {p:List Int} (hs:stmtV D s=true) (hS:Small p) (hn:p.length≤4):Fn Tryz.prog 66 [] [ad (rG g),ad (rS s),vD (dIs p)] (.o (bo1 (stmG g.1 s p))) []:=by
  obtain⟨ha,hr,hrl⟩:=stm_accs hs
  refine Fn.code0 Tryz.func66 rfl rfl rfl rfl ?_
  refine .r<|.c .bp<|.c .bp<|.c .bp<|.c .a<|.r<|.c (.lN 2)<|.c (.fP 0 1 true)<|.c (.lN 2)<|.c (.l1 1) ?_
  refine .c (.cP [.tmp 7,.tmp 9,.tmp 10] rfl rfl rfl rfl (cell_fn hv ha hS hn) rfl) ?_
  refine .c .ge<|.c .m ?_
  refine .cD 13 rfl (fun g13=>?_) (fun g13=>?_)
  · skip
    refine .c (.g (.fP 2 6 true))<|.c (.g (.lN 7)) ?_
    refine .c (.gT rfl rfl rfl (.cP [.tmp 15] rfl rfl rfl rfl (reads_fn (L:=5) s.2 (by omega) (stmtV_ex hs).1) rfl)) ?_
    refine .c (.gT rfl rfl rfl (St1.makeFunc (xs:=[.tmp 3,.tmp 5]) rfl rfl rfl rfl rfl rfl rfl))<|.c (.gT rfl rfl rfl (.cP [.tmp 16,.tmp 17] rfl rfl rfl rfl (cnt_acc (f:=113) (cap:=[rG g,[dIs p]]) (by kernel_rfl) (fun a=>decide (cellG a p g.1 0<0)) (rdE s.2) (by omega) (fun a ha=>sok1_fn hv (hr a ha) hS hn)) rfl)) ?_
    refine .c (.g .nt)<|.c .pT<|.c .a<|.nn<|.ret ?_
    refine kf_ret rfl ?_ nobox
    exact leafB (by rw[stmG,accG];first|(rw[accG_not,nany];simp[*];done)|(simp[*];done))
  · skip
    refine .c .f<|.c .f<|.c .f<|.c .f<|.c .f<|.c .f<|.c .pF<|.c .a<|.nn<|.ret ?_
    refine kf_ret rfl ?_ nobox
    exact leafB (by rw[stmG,accG];first|(rw[accG_not,nany];simp[*];done)|(simp[*];done))
theorem ins1_fn {q:Prt} {s:Stm} (hs:szS s≤1073741824):Fn Tryz.prog 63 [] [ad (rS s),.c (.ptr (rP q))] (.o (bo1 (!stmtV (q.1.length:Nat) s))) []:=by
  refine Fn.code0 Tryz.func63 rfl rfl rfl rfl ?_
  refine .r<|.c .bp<|.c .a<|.r<|.c (.lN 9)<|.c (.fP 0 0 false)<|.c (.l1 1)<|.c (.ln 148 2 48) ?_
  refine .c (.cP [.tmp 4,.tmp 7] rfl rfl rfl rfl (implStmtV_fn (q.1.length:Nat) s (by omega)) rfl) ?_
  refine .c .nt<|.c .a<|.nn<|.ret ?_
  refine kf_ret rfl ?_ nobox
  rfl
end Go.Proofs.YtollooimmfngjaaGreat
