/- Part 1 of 7 of the proof: laws on memory and data, then what the functions compute, in the order in which they build on each other; conditions: those that each theorem names. -/
import Derived.Test.YtollooimmfngjaaGreatProg
import Derived.WalkKit
import Derived.WalkSpells
import Derived.Deep.QuietTactic
import Derived.BigQuiet
import Derived.ProofKit
import Derived.OpenShut
import Derived.ShutString
import Derived.ChangeOld
import Derived.Below
import Derived.Laws.IdiomCopy
import Derived.ArgAppend
import Derived.IntWalk
import Derived.Deep.MidRow
import Derived.Great.FillDense
import Derived.Great.BuildSlice
set_option maxRecDepth 100000
set_option maxHeartbeats 1600000

namespace Go.Proofs.YtollooimmfngjaaGreat
theorem zs1 {α β:Type} {l:List α} {f:α→β}:(l.map f).length=l.length:=List.length_map f
theorem zs2 {p:Prop} [Decidable p]:(decide p=true)=p:=decide_eq_true_eq
theorem zs3 {p:Prop} [Decidable p]:(decide p=false)↔¬p:=decide_eq_false_iff_not
theorem zs4 (b:Bool):((!b)=true)=(b=false):=Bool.not_eq_true' b
theorem zs5 (b:Bool):((!b)=false)=(b=true):=Bool.not_eq_false' b
theorem zs6 (b:Bool):(¬b=true)=(b=false):=Bool.not_eq_true b
theorem zs7 (b:Bool):(¬b=false)=(b=true):=Bool.not_eq_false b
theorem zs:(∀ {α β:Type} {l:List α} {f:α→β},(l.map f).length=l.length)∧(∀ {p:Prop} [Decidable p],(decide p=true)=p)∧(∀ {p:Prop} [Decidable p],(decide p=false)↔¬p)∧(∀b:Bool,((!b)=true)=(b=false))∧(∀b:Bool,((!b)=false)=(b=true))∧(∀b:Bool,(¬b=true)=(b=false))∧∀b:Bool,(¬b=false)=(b=true):=⟨zs1,zs2,zs3,zs4,zs5,zs6,zs7⟩
end Go.Proofs.YtollooimmfngjaaGreat
namespace Go.Proofs.YtollooimmfngjaaGreat
set_option linter.unusedVariables false
set_option linter.unusedSimpArgs false
open Go.RowKit
theorem hid {p:Prop} (h:p):Hid p:=h
theorem ret_bool {a b:Bool} (h:a=b):Ending.returned (.bool a)= .returned (.bool b):=by rw[h]
theorem ret_int {a b:Int} (h:a=b):Ending.returned (.int .i64 a)= .returned (.int .i64 b):=by rw[h]
theorem int_i64 {a b:Int} (h:a=b):Value.int .i64 a= .int .i64 b:=by rw[h]
theorem belowN {B n:Nat} {a w:World} (h:Below B a w):Below B a (w.drewN n):=⟨h.os,h.tape,h.output,h.size,h.block⟩
def Quiet (w w':World):Prop:=∃m,w'=w.drewN m
theorem Quiet.refl (w:World):Quiet w w:=⟨0,rfl⟩
theorem Quiet.drewN {w w':World} {n:Nat} (h:Quiet w w'):Quiet w (w'.drewN n):=by
  obtain⟨m,rfl⟩:=h
  exact⟨m+n,World.drewN_drewN _ _ _⟩
theorem Quiet.trans {w w' w'':World} (h:Quiet w w') (h':Quiet w' w''):Quiet w w'':=by
  obtain⟨m,rfl⟩:=h'
  exact h.drewN
theorem Quiet.below {w w':World} (h:Quiet w w') (B:Nat):Below B w w':=by
  obtain⟨m,rfl⟩:=h
  exact belowN (Below.refl _ _)
theorem Quiet.cell {w w':World} (h:Quiet w w') (p:Addr):w'.cell? p=w.cell? p:=by
  obtain⟨m,rfl⟩:=h
  rfl
theorem Quiet.heap {w w':World} (h:Quiet w w'):w'.heap=w.heap:=by
  obtain⟨m,rfl⟩:=h
  rfl
def IntsA (w:World) (a:Option Addr) (n cap:Nat) (xs:List Int):Prop:=
  xs.length=n∧n≤cap∧n≤17592186044416∧∀i,i<n→∃b off,a=some ⟨b,off,none⟩∧w.cell? ⟨b,off+i,none⟩=some (.int .i64 (xs.getD i 0))
theorem IntsA.len {w:World} {a:Option Addr} {n cap:Nat} {xs:List Int} (h:IntsA w a n cap xs):xs.length=n:=h.1
theorem IntsA.le {w:World} {a:Option Addr} {n cap:Nat} {xs:List Int} (h:IntsA w a n cap xs):n≤17592186044416:=h.2.2.1
theorem IntsA.at {w:World} {a:Option Addr} {n cap:Nat} {xs:List Int} (h:IntsA w a n cap xs) (hn:0<n):
    ∃b off,a=some ⟨b,off,none⟩∧b<w.heap.size∧∀i,i<n→w.cell? ⟨b,off+i,none⟩=some (.int .i64 (xs.getD i 0)):=by
  obtain⟨_,_,_,h4⟩:=h
  obtain⟨b,off,rfl,h0⟩:=h4 0 hn
  refine⟨b,off,rfl,World.block_lt_of_cell? _ _ h0,fun i hi=>?_⟩
  obtain⟨b',off',e,h⟩:=h4 i hi
  cases e
  exact h
theorem IntsA.below {w w':World} {a:Option Addr} {n cap:Nat} {xs:List Int} (h:IntsA w a n cap xs) (hb:Below w.heap.size w w'):IntsA w' a n cap xs:=by
  refine⟨h.1,h.2.1,h.2.2.1,fun i hi=>?_⟩
  obtain⟨b,off,e,hc⟩:=h.2.2.2 i hi
  exact⟨b,off,e,(hb.cell (p:=⟨b,off+i,none⟩) (World.block_lt_of_cell? _ _ hc)).trans hc⟩
theorem IntsA.drewN {w:World} {a:Option Addr} {n cap m:Nat} {xs:List Int} (h:IntsA w a n cap xs):IntsA (w.drewN m) a n cap xs:=h
theorem IntsA.quiet {w w':World} {a:Option Addr} {n cap:Nat} {xs:List Int} (h:IntsA w a n cap xs) (hq:Quiet w w'):IntsA w' a n cap xs:=by
  obtain⟨m,rfl⟩:=hq
  exact h
theorem IntsA.take {w:World} {a:Option Addr} {n cap:Nat} {xs:List Int} (h:IntsA w a n cap xs) (k:Nat) (hk:k≤n):IntsA w a k cap (xs.take k):=by
  refine⟨by rw[List.length_take,h.1];omega,Nat.le_trans hk h.2.1,Nat.le_trans hk h.2.2.1,fun i hi=>?_⟩
  obtain⟨b,off,e,hc⟩:=h.2.2.2 i (by omega)
  refine⟨b,off,e,?_⟩
  rw[hc,List.getD,List.getD,List.getElem?_take,if_pos hi]
theorem IntsA.nil (w:World):IntsA w none 0 0 []:=⟨rfl,Nat.le_refl _,by omega,fun i hi=>absurd hi (by omega)⟩
theorem Tryz.infoInt:(Tryz.prog.info? 3).map (fun i=>(i.zero,i.size,i.bytes))=some (some (.int .i64 0),1,8):=by kernel_rfl
def OwnInts (w:World) (g cap:Nat) (xs:List Int):Prop:=xs.length≤cap∧cap≤17592186044416∧∃cur:Array Value,w.heap[g]?=some (.cells cur 3 (0,0))∧cur.size=cap∧cur.toList.take xs.length=xs.map (Value.int .i64)
theorem OwnInts.row {w:World} {g cap:Nat} {xs:List Int} (h:OwnInts w g cap xs):w.ownsRow g 3 1 (.slice (some ⟨g,0,none⟩) xs.length cap) xs.length (xs.map (Value.int .i64)):=by
  obtain⟨h1,h2,cur,h3,h4,h5⟩:=h
  exact⟨by simp,.inr ⟨g,cap,cur,rfl,Nat.le_refl _,h3,h1,by unfold maxLen;omega,by omega,by simpa using h5⟩⟩
theorem OwnInts.cell {w:World} {g cap:Nat} {xs:List Int} (h:OwnInts w g cap xs) (j:Nat) (hj:j<xs.length):w.cell? ⟨g,j,none⟩=some (.int .i64 (xs.getD j 0)):=by
  rw[h.row.cellAt j (by omega),List.getElem?_map,List.getD,List.getElem?_eq_getElem hj];rfl
theorem OwnInts.frozen {w:World} {g cap:Nat} {xs:List Int} (h:OwnInts w g cap xs) (j:Nat):w.frozen? ⟨g,j,none⟩=false:=h.row.frozenAt j
theorem OwnInts.set {w:World} {g cap:Nat} {xs:List Int} (h:OwnInts w g cap xs) (j:Nat) (x:Int):OwnInts (w.setCell ⟨g,j,none⟩ (.int .i64 x)) g cap (xs.set j x):=by
  obtain⟨h1,h2,cur,h3,h4,h5⟩:=h
  refine⟨by simpa using h1,h2,cur.setIfInBounds j (.int .i64 x),heap_setCell_same w g j cur 3 _ h3,by simpa using h4,?_⟩
  rw[Array.toList_setIfInBounds,List.length_set,List.take_set,h5,List.map_set]
theorem OwnInts.new (w:World) (n:Nat) (h:n≤17592186044416):OwnInts (w.alloc (.cells (madeCells #[.int .i64 0] n) 3)) w.heap.size n (List.replicate n 0):=by
  refine⟨by rw[List.length_replicate];exact Nat.le_refl _,h,_,heap_alloc_new w _,size_madeCells _ _,?_⟩
  rw[toList_madeCells_one];simp
theorem OwnInts.drewN {w:World} {g cap n:Nat} {xs:List Int} (h:OwnInts w g cap xs):OwnInts (w.drewN n) g cap xs:=h
theorem OwnInts.below {B:Nat} {w w':World} {g cap:Nat} {xs:List Int} (h:OwnInts w g cap xs) (hb:Below B w w') (hg:g<B):OwnInts w' g cap xs:=by
  obtain⟨h1,h2,cur,h3,h4⟩:=h
  exact⟨h1,h2,cur,by rw[hb.block g hg];exact h3,h4⟩
theorem OwnInts.lt {w:World} {g cap:Nat} {xs:List Int} (h:OwnInts w g cap xs):g<w.heap.size:=by
  obtain⟨_,_,cur,h3,_⟩:=h
  exact(Array.getElem?_eq_some_iff.1 h3).1
/-! ### What the call owns, and grows by append. -/
theorem ownsRow_base {w:World} {B B':Nat} {e:TypeId} {size:Nat} {v:Value} {n:Nat} {xs:List Value} (h:w.ownsRow B e size v n xs) (hB:B'≤B):w.ownsRow B' e size v n xs:=by
  refine⟨h.1,?_⟩
  rcases h.2 with h|⟨g,cap,cur,hv,hg,r⟩
  ·exact .inl h
  ·exact .inr ⟨g,cap,cur,hv,Nat.le_trans hB hg,r⟩
structure AppPost (w w':World) (B:Nat) (e:TypeId) (size:Nat) (v v':Value) (n:Nat) (xs:List Value):Prop where
  own:w'.ownsRow B e size v' n xs
  grown:w.grownBy w' v.ownBlock
  blk:v'.ownBlock=v.ownBlock∨∃k,v'.ownBlock=some k∧w.heap.size≤k
section
variable {P : Program} (w : World)
theorem run_app (B:Nat) (t ty e:TypeId) (i:TypeInfo) (z:Value) (size bytes:Nat) (ht:P.underlying t=some (.slice e)) (hi:P.info? e=some i) (hz:i.zero=some z)
    (hsize:i.size=size) (hby:i.bytes=bytes) (hzs:z.cells.size=size) (hsz:0<size)
    (v:Value) (n:Nat) (xs:List Value) (hown:w.ownsRow B e size v n xs)
    (a:Addr) (m c:Nat) (news:List Value) (hl:news.length=m *size) (hnews:∀j u,news[j]?=some u→w.cell? (a.add j)=some u) (h1:∀u∈news,u.oneCell'=true)
    (h63:n+m≤maxLen) (hbytes:(n+m) *bytes≤140737488355328) (hbase:B≤w.heap.size):
    ∃v' w',(Builtin.append_ #[t,t] ty #[v,.slice (some a) m c]).run P w= .ok v' w'∧AppPost w w' B e size v v' (n+m) (xs++news):=by
  have hown0:=hown
  rcases hown.2 with⟨rfl,rfl⟩|⟨g,cap,cur,rfl,hbg,hg,hnc,hcm,hcs,htake⟩
  · have hx:xs=[]:=List.eq_nil_of_length_eq_zero (by simpa using hown.1)
    subst hx
    obtain⟨v',w',hr,h2,h3,h4⟩:=run_append_own (P:=P) w w.heap.size t ty e i z size bytes ht hi hz hsize hby hzs hsz _ 0 [] (World.ownsRow_nil w _ e size) a m c news hl hnews h1 h63 hbytes (Nat.le_refl _)
    refine⟨v',w',hr,ownsRow_base h2 hbase,h3,?_⟩
    cases hv:v'.ownBlock with
    |none=>exact .inl rfl
    |some k=>exact .inr ⟨k,rfl,(h2.lt k hv).1⟩
  · by_cases hroom:n+m≤cap
    · obtain⟨w',hr,h2,h3⟩:=run_append_fits (P:=P) w B t ty e i size ht hi hsize g n cap xs hown0 a m c news hl hnews h1 hroom
      exact⟨_,w',hr,h2,h3,.inl rfl⟩
    · obtain⟨v',w',hr,h2,h3⟩:=run_append_arg_grows (P:=P) w t ty e i z size bytes ht hi hz hsize hby hzs hsz ⟨g,0,none⟩ n cap xs hown0.1 (fun j u hu=>hown0.cells rfl j u hu) a m c news hl hnews (by omega) h63 hbytes
      refine⟨v',w',hr,ownsRow_base h2 hbase,⟨h3.os,h3.tape,h3.output,h3.size,fun k hk _=>h3.block k hk (by simp)⟩,?_⟩
      cases hv:v'.ownBlock with
      |none=>
        rcases h2.2 with⟨_,hn⟩|⟨g',cap',cur',rfl,_⟩
        ·omega
        ·simp[Value.ownBlock]at hv
      |some k=>exact .inr ⟨k,rfl,(h2.lt k hv).1⟩
end
def OwnS (w:World) (B:Nat) (v:Value) (xs:List Int):Prop:=w.ownsRow B 3 1 v xs.length (xs.map (Value.int .i64))
def Dis (u v:Value):Prop:=∀k,u.ownBlock=some k→v.ownBlock≠some k
theorem OwnS.nil (w:World) (B:Nat):OwnS w B (.slice none 0 0) []:=World.ownsRow_nil w B _ 1
theorem OwnS.form {w:World} {B:Nat} {v:Value} {xs:List Int} (h:OwnS w B v xs) (hn:xs.length≤17592186044416):∃a cap,v= .slice a xs.length cap∧IntsA w a xs.length cap xs∧(a=none∨∃g,a=some ⟨g,0,none⟩∧B≤g∧g<w.heap.size):=by
  have h0:=h
  rcases h.2 with⟨rfl,hl⟩|⟨g,cap,cur,rfl,hB,hg,hnc,hm,hsz,ht⟩
  · have hx:xs=[]:=List.eq_nil_of_length_eq_zero hl
    subst hx
    exact⟨none,0,rfl,IntsA.nil w,.inl rfl⟩
  · refine⟨_,cap,rfl,⟨rfl,hnc,hn,fun i hi=>⟨g,0,rfl,?_⟩⟩,.inr ⟨g,rfl,hB,(Array.getElem?_eq_some_iff.1 hg).1⟩⟩
    rw[Nat.zero_add,World.ownsRow.cellAt h0 i (by omega),List.getElem?_map,List.getD,List.getElem?_eq_getElem hi];rfl
theorem OwnS.lt {w:World} {B:Nat} {v:Value} {xs:List Int} (h:OwnS w B v xs):∀k,v.ownBlock=some k→B≤k∧k<w.heap.size:=World.ownsRow.lt h
theorem OwnS.below {w w':World} {B C:Nat} {v:Value} {xs:List Int} (h:OwnS w B v xs) (hb:Below C w w') (hl:∀k,v.ownBlock=some k→k<C):OwnS w' B v xs:=by
  refine⟨h.1,?_⟩
  rcases h.2 with h|⟨g,cap,cur,rfl,hg,hh,r⟩
  ·exact .inl h
  ·exact .inr ⟨g,cap,cur,rfl,hg,by rw[hb.block g (hl g rfl)];exact hh,r⟩
theorem OwnS.alloc {w:World} {B:Nat} {v:Value} {xs:List Int} (h:OwnS w B v xs) (o:Obj):OwnS (w.alloc o) B v xs:=World.ownsRow.alloc h o
theorem OwnS.drewN {w:World} {B n:Nat} {v:Value} {xs:List Int} (h:OwnS w B v xs):OwnS (w.drewN n) B v xs:=h
theorem OwnInts.own {w:World} {g cap B:Nat} {xs:List Int} (h:OwnInts w g cap xs) (hB:B≤g):OwnS w B (.slice (some ⟨g,0,none⟩) xs.length cap) xs:=ownsRow_base h.row hB
theorem AppPost.below {w w' W:World} {B:Nat} {e:TypeId} {size:Nat} {v v':Value} {n n':Nat} {xs ys:List Value} (h:AppPost w w' B e size v v' n xs) (ho:w.ownsRow B e size v n' ys) {C:Nat} (hb:Below C W w) (hC:C≤B) (hs:C≤w.heap.size):Below C W w':=
  hb.grown h.grown hs (fun k hk=>Nat.le_trans hC (ho.lt k hk).1)
theorem AppPost.dis {w w':World} {B:Nat} {e:TypeId} {size:Nat} {v v' u:Value} {n:Nat} {xs:List Value} (h:AppPost w w' B e size v v' n xs) (hd:Dis u v) (hu:∀k,u.ownBlock=some k→k<w.heap.size):Dis u v':=by
  intro k hk e
  rcases h.blk with hb|⟨g,hg,hle⟩
  ·exact hd k hk (hb▸e)
  · rw[hg]at e
    cases e
    exact absurd (hu k hk) (by omega)
theorem Dis.symm {u v:Value} (h:Dis u v):Dis v u:=fun k hk e=>h k e hk
end Go.Proofs.YtollooimmfngjaaGreat
namespace Go.Proofs.YtollooimmfngjaaGreat
set_option linter.unusedVariables false
set_option linter.unusedSimpArgs false
open Go.ChangeShapes Go.WideShapes Go.ChangeAt Go.RowKit
theorem own:ownKnob Tryz.prog.godebug=none:=by kernel_rfl
theorem laidOut:laidOutB Tryz.prog=true:=by kernel_rfl
def IsRow (k:IntKind) (w:World) (a:Option Addr) (len cap:Nat) (zs:List Int):Prop:=
  (a=none∧len=0∧cap=0∧zs=[])∨
  ∃x,a=some x∧len≤cap∧cap≤maxLen∧len≤zs.length∧(∀i,i<zs.length→w.cell? (x.add i)=some (.int k (zs.getD i 0)))∧∀n∈zs,(Lit.int k n).wf=true
theorem IsRow.wf {k:IntKind} {w:World} {a:Option Addr} {n cap:Nat} {zs:List Int} (h:IsRow k w a n cap zs):∀x∈zs.take n,(Lit.int k x).wf=true:=by
  intro x hx
  have hx':=List.mem_of_mem_take hx
  rcases h with⟨_,_,_,rfl⟩|⟨_,_,_,_,_,_,h⟩
  ·simp at hx'
  ·exact h x hx'
end Go.Proofs.YtollooimmfngjaaGreat
namespace Go.Proofs.YtollooimmfngjaaGreat
set_option linter.unusedVariables false
set_option linter.unusedSimpArgs false
open Go.RowKit
def Same (P:Nat→Prop) (w w':World):Prop:=∀b,P b→b<w.heap.size→w'.heap[b]?=w.heap[b]?
theorem Same.refl (P:Nat→Prop) (w:World):Same P w w:=fun _ _ _=>rfl
theorem below_sameAll {w w':World} (h:Below w.heap.size w w') (P:Nat→Prop):Same P w w':=fun b _ hb=>h.block b hb
theorem grown_same {w w':World} {r:Option Nat} (h:w.grownBy w' r) {P:Nat→Prop} (hP:∀b,P b→r≠some b):Same P w w':=fun b hb hl=>h.block b hl (fun e=>hP b hb e.symm)
theorem Same.cell {P:Nat→Prop} {w w':World} (h:Same P w w') {b o:Nat} {v:Value} (hb:P b) (hc:w.cell? ⟨b,o,none⟩=some v):w'.cell? ⟨b,o,none⟩=some v:=
  (World.cell?_of_block (a:=⟨b,o,none⟩) (h b hb (World.block_lt_of_cell? _ _ hc))).trans hc
structure Sh (α:Type) where
  sz:Nat
  pos:0<sz
  rep:(Nat→Prop)→World→List Value→α→Prop
  len:∀ {P w cs x},rep P w cs x→cs.length=sz
  one:∀ {P w cs x},rep P w cs x→∀c∈cs,c.oneCell'=true
  frame:∀ {P w w' cs x},Same P w w'→rep P w cs x→rep P w' cs x
  mono:∀ {P Q w cs x},(∀b,P b→b<w.heap.size→Q b)→rep P w cs x→rep Q w cs x
def Sl {α:Type} (S:Sh α) (P:Nat→Prop) (w:World) (v:Value) (xs:List α):Prop:=
  ∃a cap,v= .slice a xs.length cap∧xs.length≤cap∧xs.length≤17592186044416∧(a=none→cap=0)∧
    ∀(i:Nat) x,xs[i]?=some x→∃b off cs,a=some ⟨b,off,none⟩∧P b∧S.rep P w cs x∧∀j c,cs[j]?=some c→w.cell? ⟨b,off+(i *S.sz+j),none⟩=some c
section
variable {α : Type} {S : Sh α} {P Q : Nat → Prop} {w w' : World} {v : Value} {xs : List α} {x : α}
theorem Sl.frame (hs:Same P w w') (h:Sl S P w v xs):Sl S P w' v xs:=by
  obtain⟨a,cap,rfl,h1,h2,h3,h4⟩:=h
  refine⟨a,cap,rfl,h1,h2,h3,fun i x hx=>?_⟩
  obtain⟨b,off,cs,ha,hb,hr,hc⟩:=h4 i x hx
  exact⟨b,off,cs,ha,hb,S.frame hs hr,fun j c hj=>hs.cell hb (hc j c hj)⟩
theorem cells_lt {b off:Nat} {cs:List Value} (hr:S.rep P w cs x) (hc:∀j c,cs[j]?=some c→w.cell? ⟨b,off+j,none⟩=some c):b<w.heap.size:=by
  have hl:=S.len hr
  have hp:=S.pos
  exact World.block_lt_of_cell? _ _ (hc 0 cs[0] (List.getElem?_eq_getElem (by omega)))
theorem Sl.mono (hp:∀b,P b→b<w.heap.size→Q b) (h:Sl S P w v xs):Sl S Q w v xs:=by
  obtain⟨a,cap,rfl,h1,h2,h3,h4⟩:=h
  refine⟨a,cap,rfl,h1,h2,h3,fun i x hx=>?_⟩
  obtain⟨b,off,cs,ha,hb,hr,hc⟩:=h4 i x hx
  exact⟨b,off,cs,ha,hp b hb (cells_lt (off:=off+i *S.sz) hr (fun j c hj=>by rw[Nat.add_assoc];exact hc j c hj)),S.mono hp hr,hc⟩
theorem Sl.lt (h:Sl S P w v xs):Sl S (fun b=>P b∧b<w.heap.size) w v xs:=h.mono fun _ h1 h2=>⟨h1,h2⟩
theorem Sl.below (h:Sl S P w v xs) (hb:Below w.heap.size w w'):Sl S P w' v xs:=h.frame (below_sameAll hb P)
theorem Sl.alloc (h:Sl S P w v xs) (o:Obj):Sl S P (w.alloc o) v xs:=h.below ((Below.refl _ _).alloc (Nat.le_refl _) o)
theorem Sl.drewN {n:Nat} (h:Sl S P w v xs):Sl S P (w.drewN n) v xs:=h.below (belowN (Below.refl _ _))
theorem Sl.drew (h:Sl S P w v xs):Sl S P w.drew v xs:=h.below ((Below.refl _ _).drew)
theorem Sl.quiet (h:Sl S P w v xs) (hq:Quiet w w'):Sl S P w' v xs:=h.below (hq.below _)
theorem Sl.grown {r:Option Nat} (h:Sl S P w v xs) (hg:w.grownBy w' r) (hP:∀b,P b→r≠some b):Sl S P w' v xs:=h.frame (grown_same hg hP)
theorem Sl.any (h:Sl S P w v xs):Sl S (fun _=>True) w v xs:=h.mono fun _ _ _=>trivial
theorem Sl.form (h:Sl S P w v xs):∃a cap,v= .slice a xs.length cap∧xs.length≤cap∧xs.length≤17592186044416∧(a=none→cap=0):=by
  obtain⟨a,cap,rfl,h1,h2,h3,_⟩:=h
  exact⟨a,cap,rfl,h1,h2,h3⟩
theorem Sl.len {a:Option Addr} {n cap:Nat} (h:Sl S P w (.slice a n cap) xs):xs.length=n:=by
  obtain⟨a',cap',e,_⟩:=h
  simp only[Value.slice.injEq]at e
  exact e.2.1.symm
theorem Sl.le {a:Option Addr} {n cap:Nat} (h:Sl S P w (.slice a n cap) xs):n≤cap∧n≤17592186044416:=by
  obtain⟨a',cap',e,h1,h2,_⟩:=h
  simp only[Value.slice.injEq]at e
  obtain⟨_,rfl,rfl⟩:=e
  exact⟨h1,h2⟩
theorem Sl.at {a:Option Addr} {n cap:Nat} (h:Sl S P w (.slice a n cap) xs) (hn:0<n):
    ∃b off,a=some ⟨b,off,none⟩∧P b∧b<w.heap.size∧∀(i:Nat) x,xs[i]?=some x→∃cs,S.rep P w cs x∧∀j c,cs[j]?=some c→w.cell? ⟨b,off+(i *S.sz+j),none⟩=some c:=by
  have hl:=h.len
  obtain⟨a',cap',e,h1,h2,_,h4⟩:=h
  simp only[Value.slice.injEq]at e
  obtain⟨rfl,rfl,rfl⟩:=e
  obtain⟨b,off,cs,rfl,hb,hr0,hc0⟩:=h4 0 xs[0] (List.getElem?_eq_getElem hn)
  refine⟨b,off,rfl,hb,cells_lt (off:=off) hr0 (fun j c hj=>by simpa using hc0 j c hj),fun i x hx=>?_⟩
  obtain⟨b',off',cs,e,_,hr,hc⟩:=h4 i x hx
  cases e
  exact⟨cs,hr,hc⟩
theorem Sl.nil (S:Sh α) (P:Nat→Prop) (w:World):Sl S P w (.slice none 0 0) []:=⟨none,0,rfl,Nat.le_refl _,Nat.zero_le _,fun _=>rfl,fun i x h=>by simp at h⟩
theorem Sl.empty (S:Sh α) (P:Nat→Prop) (w:World) (a:Addr) (c:Nat):Sl S P w (.slice (some a) 0 c) []:=⟨some a,c,rfl,Nat.zero_le _,Nat.zero_le _,(fun h=>by cases h),fun i x h=>by simp at h⟩
theorem Sl.take {a:Option Addr} {n cap:Nat} (h:Sl S P w (.slice a n cap) xs) (k:Nat) (hk:k≤n):Sl S P w (.slice a k cap) (xs.take k):=by
  have hl:=h.len
  obtain⟨a',cap',e,h1,h2,h3,h4⟩:=h
  simp only[Value.slice.injEq]at e
  obtain⟨rfl,rfl,rfl⟩:=e
  refine⟨a,cap,by rw[List.length_take,Nat.min_eq_left hk],by rw[List.length_take];omega,by rw[List.length_take];omega,h3,fun i x hx=>h4 i x ?_⟩
  rw[List.getElem?_take]at hx
  split at hx
  ·exact hx
  ·cases hx
theorem Sl.drop {b off n cap:Nat} (h:Sl S P w (.slice (some ⟨b,off,none⟩) n cap) xs) (k:Nat) (hk:k≤n):Sl S P w (.slice (some ⟨b,off+k *S.sz,none⟩) (n -k) (cap -k)) (xs.drop k):=by
  have hl:=h.len
  obtain⟨a',cap',e,h1,h2,h3,h4⟩:=h
  simp only[Value.slice.injEq]at e
  obtain⟨rfl,rfl,rfl⟩:=e
  refine⟨_,_,by rw[List.length_drop],by rw[List.length_drop];omega,by rw[List.length_drop];omega,(fun h=>by cases h),fun i x hx=>?_⟩
  rw[List.getElem?_drop]at hx
  obtain⟨b',off',cs,e,hb,hr,hc⟩:=h4 _ _ hx
  cases e
  refine⟨_,_,cs,rfl,hb,hr,fun j c hj=>?_⟩
  rw[show off+k *S.sz+(i *S.sz+j)=off+((k+i) *S.sz+j)by rw[Nat.add_mul];omega]
  exact hc j c hj
end
/-! ### Shapes -/
def Sh.int:Sh Int where
  sz:=1
  pos:=by decide
  rep:=fun _ _ cs x=>cs=[.int .i64 x]
  len:=fun h=>by rw[h];rfl
  one:=fun h c hc=>by rw[h,List.mem_singleton]at hc;rw[hc];rfl
  frame:=fun _ h=>h
  mono:=fun _ h=>h
def Sh.bool:Sh Bool where
  sz:=1
  pos:=by decide
  rep:=fun _ _ cs x=>cs=[.bool x]
  len:=fun h=>by rw[h];rfl
  one:=fun h c hc=>by rw[h,List.mem_singleton]at hc;rw[hc];rfl
  frame:=fun _ h=>h
  mono:=fun _ h=>h
def Sh.str:Sh ByteArray where
  sz:=1
  pos:=by decide
  rep:=fun _ _ cs x=>cs=[.string x]
  len:=fun h=>by rw[h];rfl
  one:=fun h c hc=>by rw[h,List.mem_singleton]at hc;rw[hc];rfl
  frame:=fun _ h=>h
  mono:=fun _ h=>h
def Sh.slice {α:Type} (S:Sh α):Sh (List α) where
  sz:=1
  pos:=by decide
  rep:=fun P w cs xs=>∃v,cs=[v]∧Sl S P w v xs
  len:=fun⟨_,h,_⟩=>by rw[h];rfl
  one:=fun⟨v,h,hs⟩ c hc=>by
    rw[h,List.mem_singleton]at hc
    obtain⟨a,cap,e,_⟩:=hs
    rw[hc,e];rfl
  frame:=fun hs ⟨v,h,hl⟩=>⟨v,h,hl.frame hs⟩
  mono:=fun hp ⟨v,h,hl⟩=>⟨v,h,hl.mono hp⟩
/-! ### Slices of the call's own -/
theorem heap_setCells (b:Nat) (t:TypeId):∀(vs:List Value) (o:Nat) (w:World) (cur:Array Value),w.heap[b]?=some (.cells cur t)→o+vs.length≤cur.size→
    ∃cur',(w.setCells b o vs).heap[b]?=some (.cells cur' t)∧cur'.size=cur.size∧cur'.toList=cur.toList.take o++vs++cur.toList.drop (o+vs.length)
  |[],o,w,cur,h,_=>⟨cur,h,rfl,by simp⟩
  |v::r,o,w,cur,h,hl=>by
    rw[List.length_cons]at hl
    obtain⟨cur',h1,h2,h3⟩:=heap_setCells b t r (o+1) (w.setCell ⟨b,o,none⟩ v) (cur.setIfInBounds o v) (heap_setCell_same w b o cur t v h) (by rw[Array.size_setIfInBounds];omega)
    refine⟨cur',h1,by rw[h2,Array.size_setIfInBounds],?_⟩
    have hlen:o<cur.toList.length:=by rw[Array.length_toList];omega
    rw[h3,Array.toList_setIfInBounds,List.length_cons]
    rw[List.take_set,List.drop_set,if_pos (by omega),List.take_succ_eq_append_getElem hlen,List.set_append,if_neg (by rw[List.length_take];omega)]
    rw[show o -(cur.toList.take o).length=0 by rw[List.length_take];omega,List.set_cons_zero,show o+1+r.length=o+(r.length+1)by omega]
    simp
theorem heap_setCells_other (b:Nat):∀(vs:List Value) (o:Nat) (w:World) (k:Nat),k≠b→(w.setCells b o vs).heap[k]?=w.heap[k]?
  |[],_,_,_,_=>rfl
  |v::r,o,w,k,h=>by rw[World.setCells,heap_setCells_other b r _ _ k h,Below.heap_setCell _ _ _ _ h]
theorem setCells_grown (b:Nat):∀(vs:List Value) (o:Nat) (w:World),w.grownBy (w.setCells b o vs) (some b)
  |[],_,w=>World.grownBy.refl _ _
  |v::r,o,w=>by
    have h:=setCells_grown b r (o+1) (w.setCell ⟨b,o,none⟩ v)
    refine⟨h.os,h.tape,h.output,?_,fun k hk hne=>heap_setCells_other b _ _ _ k (fun e=>hne (by rw[e]))⟩
    exact Nat.le_trans (by simp) h.size
def Own (w:World) (B:Nat) (e:TypeId) (sz:Nat) (v:Value) (n:Nat) (cells:List Value):Prop:=
  cells.length=n *sz∧((v= .slice none 0 0∧n=0)∨
    ∃g off cap cur,v= .slice (some ⟨g,off,none⟩) n cap∧B≤g∧w.heap[g]?=some (.cells cur e (0,0))∧n≤cap∧cap≤maxLen∧off+cap *sz≤cur.size∧(cur.toList.drop off).take (n *sz)=cells)
section
variable {w w' : World} {B B' : Nat} {e : TypeId} {sz : Nat} {v v' : Value} {n k : Nat} {cells : List Value}
theorem Own.nil (w:World) (B:Nat) (e:TypeId) (sz:Nat):Own w B e sz (.slice none 0 0) 0 []:=⟨by simp,.inl ⟨rfl,rfl⟩⟩
theorem Own.lt (h:Own w B e sz v n cells):∀k,v.ownBlock=some k→B≤k∧k<w.heap.size:=by
  intro k hk
  rcases h.2 with⟨rfl,_⟩|⟨g,off,cap,cur,rfl,hb,hg,_⟩
  ·simp[Value.ownBlock]at hk
  · simp[Value.ownBlock]at hk
    subst hk
    exact⟨hb,(Array.getElem?_eq_some_iff.1 hg).1⟩
theorem Own.frame (h:Own w B e sz v n cells) (hs:∀k,v.ownBlock=some k→w'.heap[k]?=w.heap[k]?):Own w' B e sz v n cells:=by
  refine⟨h.1,?_⟩
  rcases h.2 with hn|⟨g,off,cap,cur,rfl,hb,hg,rest⟩
  ·exact .inl hn
  ·exact .inr ⟨g,off,cap,cur,rfl,hb,by rw[hs g rfl];exact hg,rest⟩
theorem Own.base (h:Own w B e sz v n cells) (hB:B'≤B):Own w B' e sz v n cells:=by
  refine⟨h.1,?_⟩
  rcases h.2 with hn|⟨g,off,cap,cur,rfl,hb,rest⟩
  ·exact .inl hn
  ·exact .inr ⟨g,off,cap,cur,rfl,Nat.le_trans hB hb,rest⟩
theorem ownsRow_own (h:w.ownsRow B e sz v n cells):Own w B e sz v n cells:=by
  refine⟨h.1,?_⟩
  rcases h.2 with hn|⟨g,cap,cur,rfl,hb,hg,h1,h2,h3,h4⟩
  ·exact .inl hn
  ·exact .inr ⟨g,0,cap,cur,rfl,hb,hg,h1,h2,by omega,by rw[List.drop_zero];exact h4⟩
theorem Own.cellAt {g off cap:Nat} (h:Own w B e sz (.slice (some ⟨g,off,none⟩) n cap) n cells) (j:Nat) (c:Value) (hj:cells[j]?=some c):w.cell? ⟨g,off+j,none⟩=some c:=by
  rcases h.2 with⟨e,_⟩|⟨g',off',cap',cur,e,hb,hg,h1,h2,h3,h4⟩
  ·cases e
  · cases e
    rw[cell_of_row w g (off+j) cur _ (0,0) hg]
    rw[←h4,List.getElem?_take]at hj
    split at hj
    · rw[List.getElem?_drop]at hj
      simpa using hj
    ·cases hj
theorem Own.frozenAt {g off cap:Nat} (h:Own w B e sz (.slice (some ⟨g,off,none⟩) n cap) n cells) (j:Nat):w.frozen? ⟨g,j,none⟩=false:=by
  rcases h.2 with⟨e,_⟩|⟨g',off',cap',cur,e,hb,hg,h1,h2,h3,h4⟩
  ·cases e
  · cases e
    simp[World.frozen?,hg]
theorem Own.set {g off cap:Nat} (h:Own w B e sz (.slice (some ⟨g,off,none⟩) n cap) n cells) (j:Nat) (c:Value):Own (w.setCell ⟨g,off+j,none⟩ c) B e sz (.slice (some ⟨g,off,none⟩) n cap) n (cells.set j c):=by
  refine⟨by rw[List.length_set];exact h.1,?_⟩
  rcases h.2 with⟨e,_⟩|⟨g',off',cap',cur,e,hb,hg,h1,h2,h3,h4⟩
  ·cases e
  · cases e
    refine .inr ⟨g,off,cap,cur.setIfInBounds (off+j) c,rfl,hb,heap_setCell_same w g (off+j) cur _ _ hg,h1,h2,by rw[Array.size_setIfInBounds];exact h3,?_⟩
    rw[Array.toList_setIfInBounds,List.drop_set,if_neg (by omega),show off+j -off=j by omega,List.take_set,h4]
theorem setCell_grown (w:World) (a:Addr) (c:Value):w.grownBy (w.setCell a c) (some a.block):=
  ⟨by simp[World.setCell],by simp[World.setCell],by simp[World.setCell],by simp,fun k hk hne=>Below.heap_setCell w a c k (fun e=>hne (by rw[e]))⟩
theorem Own.take (h:Own w B e sz v n cells) (hv:∃a cap,v= .slice a n cap∧v'= .slice a k cap) (hk:k≤n):Own w B e sz v' k (cells.take (k *sz)):=by
  obtain⟨a,cap,rfl,rfl⟩:=hv
  have hm:k *sz≤n *sz:=Nat.mul_le_mul_right _ hk
  refine⟨by rw[List.length_take,h.1];omega,?_⟩
  rcases h.2 with⟨e,h0⟩|⟨g',off',cap',cur,e,hb,hg,h1,h2,h3,h4⟩
  · simp only[Value.slice.injEq]at e
    obtain⟨rfl,_,rfl⟩:=e
    have:k=0:=by omega
    exact .inl ⟨by rw[this],this⟩
  · simp only[Value.slice.injEq]at e
    obtain⟨rfl,_,rfl⟩:=e
    exact .inr ⟨g',off',cap,cur,rfl,hb,hg,by omega,h2,h3,by rw[←h4,List.take_take,Nat.min_eq_left hm]⟩
theorem Own.drop {g off cap k:Nat} (h:Own w B e sz (.slice (some ⟨g,off,none⟩) n cap) n cells) (hk:k≤n):Own w B e sz (.slice (some ⟨g,off+k *sz,none⟩) (n -k) (cap -k)) (n -k) (cells.drop (k *sz)):=by
  refine⟨by rw[List.length_drop,h.1,Nat.sub_mul],?_⟩
  rcases h.2 with⟨e,h0⟩|⟨g',off',cap',cur,e,hb,hg,h1,h2,h3,h4⟩
  ·cases e
  · cases e
    have hc:cap *sz=k *sz+(cap -k) *sz:=by rw[←Nat.add_mul];congr 1;omega
    refine .inr ⟨g,_,_,cur,rfl,hb,hg,by omega,by omega,by omega,?_⟩
    rw[←h4,←List.drop_drop,Nat.sub_mul,←List.drop_take]
end
theorem flatten_get {sz:Nat}:∀(css:List (List Value)),(∀cs∈css,cs.length=sz)→∀i r,r<sz→css.flatten[i *sz+r]?=(css[i]?).bind (fun cs=>cs[r]?)
  |[],_,i,r,_=>by simp
  |cs::css,h,i,r,hr=>by
    have hl:cs.length=sz:=h cs (List.mem_cons_self ..)
    rw[List.flatten_cons]
    cases i with
    |zero=>rw[Nat.zero_mul,Nat.zero_add,List.getElem?_append_left (by omega)];rfl
    |succ i=>
      rw[List.getElem?_append_right (by rw[hl,Nat.add_mul];omega),hl,show (i+1) *sz+r -sz=i *sz+r by rw[Nat.add_mul];omega,flatten_get css (fun c hc=>h c (List.mem_cons_of_mem _ hc)) i r hr]
      rfl
theorem flatten_len {sz:Nat}:∀(css:List (List Value)),(∀cs∈css,cs.length=sz)→css.flatten.length=css.length *sz
  |[],_=>by simp
  |cs::css,h=>by
    rw[List.flatten_cons,List.length_append,h cs (List.mem_cons_self ..),flatten_len css (fun c hc=>h c (List.mem_cons_of_mem _ hc)),List.length_cons,Nat.add_mul];omega
structure AppO (w w':World) (B:Nat) (e:TypeId) (sz:Nat) (v v':Value) (n:Nat) (cells:List Value):Prop where
  own:Own w' B e sz v' n cells
  grown:w.grownBy w' v.ownBlock
  blk:v'.ownBlock=v.ownBlock∨∃k,v'.ownBlock=some k∧w.heap.size≤k
section
variable {P : Program} (w : World)
theorem run_appO (B:Nat) (t ty e:TypeId) (i:TypeInfo) (z:Value) (size bytes:Nat) (ht:P.underlying t=some (.slice e)) (hi:P.info? e=some i) (hz:i.zero=some z)
    (hsize:i.size=size) (hby:i.bytes=bytes) (hzs:z.cells.size=size) (hsz:0<size)
    (v:Value) (n:Nat) (xs:List Value) (hown:Own w B e size v n xs)
    (a:Addr) (m c:Nat) (news:List Value) (hl:news.length=m *size) (hnews:∀j u,news[j]?=some u→w.cell? (a.add j)=some u) (h1:∀u∈news,u.oneCell'=true)
    (h63:n+m≤maxLen) (hbytes:(n+m) *bytes≤140737488355328) (hbase:B≤w.heap.size):
    ∃v' w',(Builtin.append_ #[t,t] ty #[v,.slice (some a) m c]).run P w= .ok v' w'∧AppO w w' B e size v v' (n+m) (xs++news):=by
  have hown0:=hown
  rcases hown.2 with⟨rfl,rfl⟩|⟨g,off,cap,cur,rfl,hbg,hg,hnc,hcm,hcs,htake⟩
  · have hx:xs=[]:=List.eq_nil_of_length_eq_zero (by simpa using hown.1)
    subst hx
    obtain⟨v',w',hr,h2,h3,h4⟩:=run_append_own (P:=P) w w.heap.size t ty e i z size bytes ht hi hz hsize hby hzs hsz _ 0 [] (World.ownsRow_nil w _ e size) a m c news hl hnews h1 h63 hbytes (Nat.le_refl _)
    refine⟨v',w',hr,(ownsRow_own h2).base hbase,h3,?_⟩
    cases hv:v'.ownBlock with
    |none=>exact .inl rfl
    |some k=>exact .inr ⟨k,rfl,(h2.lt k hv).1⟩
  · have hlen:=hown.1
    by_cases hroom:n+m≤cap
    · have hmul:(n+m) *size≤cap *size:=Nat.mul_le_mul_right _ hroom
      rw[Nat.add_mul]at hmul
      have hfit:off+n *size+news.length≤cur.size:=by omega
      have hr:=run_append_room_cells (P:=P) w t ty e i ht hi g off n cap a m c news (by rw[hsize];exact hl) hnews h1 hroom
        (fun j hj=>by rw[hsize,cell_of_row w g _ cur _ (0,0) hg,Array.getElem?_eq_getElem (by omega)];rfl) (fun j hj=>by simp[World.frozen?,hg])
      rw[hsize]at hr
      obtain⟨cur',e1,e2,e3⟩:=heap_setCells g e news (off+n *size) w cur hg (by omega)
      refine⟨_,_,hr,⟨by rw[List.length_append,hown.1,hl,Nat.add_mul],.inr ⟨g,off,cap,cur',rfl,hbg,e1,hroom,hcm,by omega,?_⟩⟩,setCells_grown g news _ w,.inl rfl⟩
      rw[e3]
      have hcl:cur.toList.length=cur.size:=by simp
      rw[←htake,List.drop_append,List.drop_append,List.drop_take]
      rw[show off -((cur.toList.take (off+n *size))++news).length=0 by rw[List.length_append,List.length_take,hcl];omega,List.drop_zero]
      rw[show off -(cur.toList.take (off+n *size)).length=0 by rw[List.length_take,hcl];omega,List.drop_zero,show off+n *size -off=n *size by omega]
      exact List.take_left' (by rw[List.length_append,List.length_take,List.length_drop,hcl,hl,Nat.add_mul];omega)
    · have hcell:∀j u,xs[j]?=some u→w.cell? ((⟨g,off,none⟩:Addr).add j)=some u:=fun j u hu=>by rw[Addr.add_lit];exact hown0.cellAt j u hu
      obtain⟨v',w',hr,h2,h3⟩:=run_append_arg_grows (P:=P) w t ty e i z size bytes ht hi hz hsize hby hzs hsz ⟨g,off,none⟩ n cap xs hown0.1 hcell a m c news hl hnews (by omega) h63 hbytes
      refine⟨v',w',hr,(ownsRow_own h2).base hbase,⟨h3.os,h3.tape,h3.output,h3.size,fun k hk _=>h3.block k hk (by simp)⟩,?_⟩
      cases hv:v'.ownBlock with
      |none=>
        rcases h2.2 with⟨_,hn⟩|⟨g',cap',cur',rfl,_⟩
        ·omega
        ·simp[Value.ownBlock]at hv
      |some k=>exact .inr ⟨k,rfl,(h2.lt k hv).1⟩
theorem run_appO_none (B:Nat) (t ty e:TypeId) (i:TypeInfo) (size:Nat) (ht:P.underlying t=some (.slice e)) (hi:P.info? e=some i)
    (v:Value) (n:Nat) (xs:List Value) (hown:Own w B e size v n xs):(Builtin.append_ #[t,t] ty #[v,.slice none 0 0]).run P w= .ok v w:=by
  rcases hown.2 with⟨rfl,rfl⟩|⟨g,off,cap,cur,rfl,hbg,hg,hnc,hcm,hcs,htake⟩
  ·exact run_append_owned_none (P:=P) w 0 t ty e i size ht hi _ 0 [] (World.ownsRow_nil w 0 e size)
  ·simp[Builtin.append_,run_underlying ht,sizeOf,typeInfo,hi,Builtin.lenOf,hnc,Builtin.firstCells,storeCells]
end
def OwnL {α:Type} (S:Sh α) (e:TypeId) (B C:Nat) (w:World) (v:Value) (xs:List α):Prop:=
  ∃css:List (List Value),css.length=xs.length∧Own w B e S.sz v xs.length css.flatten∧∀(i:Nat) x cs,xs[i]?=some x→css[i]?=some cs→S.rep (fun b=>C≤b∧v.ownBlock≠some b) w cs x
section
variable {α : Type} {S : Sh α} {e : TypeId} {B B' C C' : Nat} {P Q : Nat → Prop} {w w' : World} {v v' : Value} {xs ys : List α} {x : α}
theorem OwnL.nil (S:Sh α) (e:TypeId) (B C:Nat) (w:World):OwnL S e B C w (.slice none 0 0) []:=⟨[],rfl,Own.nil w B e S.sz,fun i x cs h=>by simp at h⟩
theorem OwnL.lens {css:List (List Value)} (h1:css.length=xs.length) (h2:∀(i:Nat) x cs,xs[i]?=some x→css[i]?=some cs→S.rep P w cs x):∀cs∈css,cs.length=S.sz:=by
  intro cs hc
  obtain⟨i,hi⟩:=List.mem_iff_getElem?.1 hc
  have hl:i<css.length:=(List.getElem?_eq_some_iff.1 hi).1
  exact S.len (h2 i xs[i] cs (List.getElem?_eq_getElem (by omega)) hi)
theorem OwnL.sl (h:OwnL S e B C w v xs) (hn:xs.length≤17592186044416) (hP:∀b,C≤b→v.ownBlock≠some b→P b) (hv:∀g,v.ownBlock=some g→P g):Sl S P w v xs:=by
  obtain⟨css,h1,h2,h3⟩:=h
  have hl:=OwnL.lens h1 h3
  have h20:=h2
  rcases h2.2 with⟨rfl,h0⟩|⟨g,off,cap,cur,rfl,_,hg,hnc,_⟩
  · have:xs=[]:=List.eq_nil_of_length_eq_zero h0
    subst this
    exact Sl.nil S P w
  · refine⟨_,cap,rfl,hnc,hn,(fun h=>by cases h),fun i x hx=>?_⟩
    have hi:i<xs.length:=(List.getElem?_eq_some_iff.1 hx).1
    have hci:css[i]?=some css[i]:=List.getElem?_eq_getElem (by omega)
    refine⟨g,off,css[i],rfl,hv g rfl,S.mono (fun b hb _=>hP b hb.1 hb.2) (h3 i x _ hx hci),fun j c hj=>?_⟩
    have hjl:j<css[i].length:=(List.getElem?_eq_some_iff.1 hj).1
    refine h20.cellAt (i *S.sz+j) c ?_
    have hic:i<css.length:=by omega
    have hjs:j<S.sz:=by rw[←hl _ (List.getElem_mem hic)];exact hjl
    rw[flatten_get css hl i j hjs,hci]
    exact hj
theorem OwnL.fresh (h:OwnL S e B B w v xs) (hn:xs.length≤17592186044416):Sl S (fun b=>B≤b) w v xs:=
  h.sl hn (fun _ h _=>h) (fun g hg=>by obtain⟨_,_,h2,_⟩:=h;exact(h2.lt g hg).1)
theorem OwnL.lt (h:OwnL S e B C w v xs):∀g,v.ownBlock=some g→B≤g∧g<w.heap.size:=by
  obtain⟨_,_,h2,_⟩:=h
  exact h2.lt
theorem OwnL.shape (h:OwnL S e B C w v xs):∃a cap,v= .slice a xs.length cap∧xs.length≤cap:=by
  obtain⟨_,_,h2,_⟩:=h
  rcases h2.2 with⟨rfl,h0⟩|⟨g,off,cap,cur,rfl,_,_,hnc,_⟩
  ·exact⟨none,0,by rw[h0],by omega⟩
  ·exact⟨_,cap,rfl,hnc⟩
theorem OwnL.frame (h:OwnL S e B C w v xs) (hs:Same (fun b=>C≤b∧v.ownBlock≠some b) w w') (hv:∀k,v.ownBlock=some k→w'.heap[k]?=w.heap[k]?):OwnL S e B C w' v xs:=by
  obtain⟨css,h1,h2,h3⟩:=h
  exact⟨css,h1,h2.frame hv,fun i x cs hx hc=>S.frame hs (h3 i x cs hx hc)⟩
theorem OwnL.below (h:OwnL S e B C w v xs) (hb:Below w.heap.size w w'):OwnL S e B C w' v xs:=
  h.frame (below_sameAll hb _) (fun k hk=>hb.block k (h.lt k hk).2)
theorem OwnL.alloc (h:OwnL S e B C w v xs) (o:Obj):OwnL S e B C (w.alloc o) v xs:=h.below ((Below.refl _ _).alloc (Nat.le_refl _) o)
theorem OwnL.drewN {n:Nat} (h:OwnL S e B C w v xs):OwnL S e B C (w.drewN n) v xs:=h.below (belowN (Below.refl _ _))
theorem OwnL.quiet (h:OwnL S e B C w v xs) (hq:Quiet w w'):OwnL S e B C w' v xs:=h.below (hq.below _)
theorem OwnL.grown {r:Option Nat} (h:OwnL S e B C w v xs) (hg:w.grownBy w' r) (hr:∀g,r=some g→g<C∨w.heap.size≤g) (hv:∀g,r=some g→v.ownBlock≠some g):OwnL S e B C w' v xs:=
  h.frame (fun b hb hl=>hg.block b hl (fun e=>(hr b e.symm).elim (fun h=>by omega) (fun h=>by omega))) (fun k hk=>hg.block k (h.lt k hk).2 (fun e=>hv k e.symm hk))
theorem OwnL.base (h:OwnL S e B C w v xs) (hB:B'≤B) (hC:C'≤C):OwnL S e B' C' w v xs:=by
  obtain⟨css,h1,h2,h3⟩:=h
  exact⟨css,h1,h2.base hB,fun i x cs hx hc=>S.mono (fun b hb _=>⟨Nat.le_trans hC hb.1,hb.2⟩) (h3 i x cs hx hc)⟩
theorem OwnL.at {a:Option Addr} {n cap:Nat} (h:OwnL S e B C w (.slice a n cap) xs) (hn:0<n):
    xs.length=n∧∃g off,a=some ⟨g,off,none⟩∧B≤g∧g<w.heap.size∧n≤cap∧(∀j,w.frozen? ⟨g,j,none⟩=false)∧
      ∀(i:Nat) x,xs[i]?=some x→∃cs,S.rep (fun b=>C≤b∧g≠b) w cs x∧∀j c,cs[j]?=some c→w.cell? ⟨g,off+(i *S.sz+j),none⟩=some c:=by
  have hlt:=h.lt
  obtain⟨css,h1,h2,h3⟩:=h
  have hl:=OwnL.lens h1 h3
  have h20:=h2
  rcases h2.2 with⟨e,h0⟩|⟨g,off,cap',cur,e,_,hg,hnc,_⟩
  ·simp only[Value.slice.injEq]at e;omega
  · simp only[Value.slice.injEq]at e
    obtain⟨rfl,rfl,rfl⟩:=e
    refine⟨rfl,g,off,rfl,(hlt g rfl).1,(hlt g rfl).2,hnc,fun j=>h20.frozenAt j,fun i x hx=>?_⟩
    have hi:i<xs.length:=(List.getElem?_eq_some_iff.1 hx).1
    have hci:css[i]?=some css[i]:=List.getElem?_eq_getElem (by omega)
    refine⟨css[i],S.mono (fun b hb _=>⟨hb.1,fun e=>hb.2 (by rw[e];rfl)⟩) (h3 i x _ hx hci),fun j c hj=>?_⟩
    have hjl:j<css[i].length:=(List.getElem?_eq_some_iff.1 hj).1
    refine h20.cellAt (i *S.sz+j) c ?_
    have hic:i<css.length:=by omega
    have hjs:j<S.sz:=by rw[←hl _ (List.getElem_mem hic)];exact hjl
    rw[flatten_get css hl i j hjs,hci]
    exact hj
end
theorem Sl.flat {α:Type} {S:Sh α} {P:Nat→Prop} {w:World} {ad:Addr} {m c:Nat} {ys:List α} (h:Sl S P w (.slice (some ad) m c) ys):
    ∃css:List (List Value),css.length=ys.length∧(∀(i:Nat) x cs,ys[i]?=some x→css[i]?=some cs→S.rep P w cs x)∧∀j u,css.flatten[j]?=some u→w.cell? (ad.add j)=some u:=by
  obtain⟨a,cap,e,h1,h2,h3,h4⟩:=h
  simp only[Value.slice.injEq]at e
  obtain⟨rfl,_,_⟩:=e
  have hex:∀i:Fin ys.length,∃cs,(∃b off,ad=⟨b,off,none⟩∧S.rep P w cs ys[i]∧∀j c,cs[j]?=some c→w.cell? ⟨b,off+(i *S.sz+j),none⟩=some c):=by
    intro i
    obtain⟨b,off,cs,e,_,hr,hc⟩:=h4 i ys[i] (by simp)
    cases e
    exact⟨cs,b,off,rfl,hr,hc⟩
  have hf:=fun i=>Classical.choose_spec (hex i)
  have hlen:(List.ofFn fun i=>Classical.choose (hex i)).length=ys.length:=List.length_ofFn
  have hat:∀i (hi:i<ys.length),(List.ofFn fun i=>Classical.choose (hex i))[i]?=some (Classical.choose (hex ⟨i,hi⟩)):=by
    intro i hi
    rw[List.getElem?_eq_getElem (by rw[hlen];exact hi),List.getElem_ofFn]
  have hrep:∀(i:Nat) x cs,ys[i]?=some x→(List.ofFn fun i=>Classical.choose (hex i))[i]?=some cs→S.rep P w cs x:=by
    intro i x cs hx hcs
    have hi:i<ys.length:=(List.getElem?_eq_some_iff.1 hx).1
    rw[hat i hi]at hcs
    cases hcs
    rw[List.getElem?_eq_getElem hi]at hx
    cases hx
    obtain⟨b,off,_,hr,_⟩:=hf ⟨i,hi⟩
    exact hr
  have hl:=OwnL.lens hlen hrep
  refine⟨_,hlen,hrep,fun j u hu=>?_⟩
  have hj:j<(List.ofFn fun i=>Classical.choose (hex i)).flatten.length:=(List.getElem?_eq_some_iff.1 hu).1
  rw[flatten_len _ hl,hlen]at hj
  have hdiv:j / S.sz<ys.length:=(Nat.div_lt_iff_lt_mul S.pos).2 hj
  have hmod:=Nat.mod_lt j S.pos
  have hdm:j=j / S.sz *S.sz+j % S.sz:=by rw[Nat.mul_comm];exact(Nat.div_add_mod j S.sz).symm
  rw[hdm,flatten_get _ hl _ _ hmod,hat _ hdiv]at hu
  obtain⟨b,off,e,_,hc⟩:=hf ⟨_,hdiv⟩
  subst e
  rw[Addr.add_lit,hdm]
  exact hc _ _ hu
theorem Sl.one {α:Type} {S:Sh α} {P:Nat→Prop} {w:World} {cs:List Value} {x:α} {T:TypeId} (h:S.rep P w cs x) (hP:P w.heap.size):
    Sl S P (w.alloc (.cells cs.toArray T)) (.slice (some ⟨w.heap.size,0,none⟩) 1 1) [x]:=by
  refine⟨_,1,rfl,Nat.le_refl _,by simp,(fun h=>by cases h),fun i y hy=>?_⟩
  cases i with
  |succ i=>simp at hy
  |zero=>
    simp only[List.getElem?_cons_zero,Option.some.injEq]at hy
    subst hy
    refine⟨_,_,cs,rfl,hP,S.frame (below_sameAll ((Below.refl _ _).alloc (Nat.le_refl _) _) P) h,fun j c hj=>?_⟩
    rw[cell_of_row _ _ _ _ _ _ (heap_alloc_new w _)]
    simpa using hj
theorem Sl.two {α:Type} {S:Sh α} {P:Nat→Prop} {w:World} {cs ds:List Value} {x y:α} {T:TypeId} (h:S.rep P w cs x) (h':S.rep P w ds y) (hP:P w.heap.size):
    Sl S P (w.alloc (.cells (cs++ds).toArray T)) (.slice (some ⟨w.heap.size,0,none⟩) 2 2) [x,y]:=by
  have hl:=S.len h
  have hb:=below_sameAll ((Below.refl w.heap.size w).alloc (Nat.le_refl _) (.cells (cs++ds).toArray T)) P
  refine⟨_,2,rfl,Nat.le_refl _,by simp,(fun h=>by cases h),fun i z hz=>?_⟩
  cases i with
  |zero=>
    simp only[List.getElem?_cons_zero,Option.some.injEq]at hz
    subst hz
    refine⟨_,_,cs,rfl,hP,S.frame hb h,fun j c hj=>?_⟩
    rw[cell_of_row _ _ _ _ _ _ (heap_alloc_new w _)]
    have:j<cs.length:=(List.getElem?_eq_some_iff.1 hj).1
    simp only[Nat.zero_mul,Nat.zero_add,List.getElem?_toArray]
    rw[List.getElem?_append_left this];exact hj
  |succ i=>
    cases i with
    |succ i=>simp at hz
    |zero=>
      simp only[Nat.zero_add,List.getElem?_cons_succ,List.getElem?_cons_zero,Option.some.injEq]at hz
      subst hz
      refine⟨_,_,ds,rfl,hP,S.frame hb h',fun j c hj=>?_⟩
      rw[cell_of_row _ _ _ _ _ _ (heap_alloc_new w _)]
      simp only[Nat.zero_add,Nat.one_mul,List.getElem?_toArray]
      rw[List.getElem?_append_right (by omega),hl,Nat.add_sub_cancel_left];exact hj
structure AppL {α:Type} (S:Sh α) (w w':World) (B C:Nat) (e:TypeId) (v v':Value) (zs:List α):Prop where
  own:OwnL S e B C w' v' zs
  grown:w.grownBy w' v.ownBlock
  blk:v'.ownBlock=v.ownBlock∨∃k,v'.ownBlock=some k∧w.heap.size≤k
theorem AppL.below {α:Type} {S:Sh α} {w w' W:World} {B C D:Nat} {e:TypeId} {v v':Value} {zs ys:List α} (h:AppL S w w' B C e v v' zs) (ho:OwnL S e B C w v ys) (hb:Below D W w) (hB:D≤B) (hs:D≤w.heap.size):Below D W w':=
  hb.grown h.grown hs (fun k hk=>Nat.le_trans hB (ho.lt k hk).1)
theorem AppL.blk' {α:Type} {S:Sh α} {w w':World} {B C:Nat} {e:TypeId} {v v':Value} {zs:List α} (h:AppL S w w' B C e v v' zs) {b:Nat} (hb:v'.ownBlock=some b):v.ownBlock=some b∨w.heap.size≤b:=by
  rcases h.blk with h|⟨k,hk,hle⟩
  ·exact .inl (h▸hb)
  ·rw[hk]at hb;cases hb;exact .inr hle
section
variable {P : Program} (w : World)
theorem wpList_appL {α:Type} (S:Sh α) {ops:Array Oper} {rest:List Oper} {o:Oper} {a:Act} {Q:Exit→Act→World→Prop} (hgd:o.guard=none) (s x:Operand) (t:TypeId)
    (ho:o.op= .call {callee:=.builtin .append,args:=#[s,x],argTypes:=#[t,t]})
    (B C:Nat) (e:TypeId) (z:Value) (bytes:Nat) (ht:P.underlying t=some (.slice e)) (inf:(P.info? e).map (fun i=>(i.zero,i.size,i.bytes))=some (some z,S.sz,bytes)) (hzs:z.cells.size=S.sz)
    (v:Value) (xs:List α) (hs:a.eval s=v) (hown:OwnL S e B C w v xs)
    (b:Option Addr) (m c:Nat) (ys:List α) (hx:a.eval x= .slice b m c) (hy:Sl S (fun b=>C≤b∧v.ownBlock≠some b) w (.slice b m c) ys)
    (h:∀v' w',AppL S w w' B C e v v' (xs++ys)→wpList P ops Q rest (a.put o.dst v') w')
    (hn:xs.length+m≤4294967296) (hby:bytes≤32768) (hbase:B≤w.heap.size):wpList P ops Q (o::rest) a w:=by
  obtain⟨i,hi,hz0,hz1,hz2⟩:=info_parts inf
  have hlen:=hy.len
  refine wpList_plain hgd fun K hK=>?_
  obtain⟨css,c1,c2,c3⟩:=hown
  have hcl:=OwnL.lens c1 c3
  cases b with
  |none=>
    have hm:c=0:=by
      obtain⟨a',cap',e,_,_,h3,_⟩:=hy
      simp only[Value.slice.injEq]at e
      obtain⟨rfl,_,rfl⟩:=e
      exact h3 rfl
    have hm0:m=0:=by have:=hy.le.1;omega
    subst hm hm0
    have hys:ys=[]:=List.eq_nil_of_length_eq_zero hlen
    subst hys
    have hr:=run_appO_none (P:=P) w B t o.type e i S.sz ht hi v _ _ c2
    unfold Oper.wp execOp
    simp only[ho,resolve,invoke,builtin,Sem.run_bind,Sem.run_pure,Result.andThen_ok,List.map_toArray,List.map_cons,List.map_nil,hs,hx,hr]
    exact hK _ _ (h v w ⟨by rw[List.append_nil];exact⟨css,c1,c2,c3⟩,World.grownBy.refl _ _,.inl rfl⟩)
  |some ad=>
    obtain⟨dss,d1,d2,d3⟩:=hy.flat
    have hdl:=OwnL.lens d1 d2
    obtain⟨v',w',hr,hp⟩:=run_appO (P:=P) w B t o.type e i z S.sz bytes ht hi hz0 hz1 hz2 hzs S.pos v xs.length css.flatten c2 ad m c dss.flatten (by rw[flatten_len _ hdl,d1,hlen]) d3
      (fun u hu=>by
        obtain⟨cs,hcs,hu⟩:=List.mem_flatten.1 hu
        obtain⟨k,hk⟩:=List.mem_iff_getElem?.1 hcs
        have hkl:k<dss.length:=(List.getElem?_eq_some_iff.1 hk).1
        exact S.one (d2 k ys[k] cs (List.getElem?_eq_getElem (by omega)) hk) u hu)
      (by unfold maxLen;omega) (by have:=Nat.mul_le_mul hn hby;omega) hbase
    unfold Oper.wp execOp
    simp only[ho,resolve,invoke,builtin,Sem.run_bind,Sem.run_pure,Result.andThen_ok,List.map_toArray,List.map_cons,List.map_nil,hs,hx,hr]
    refine hK _ _ (h v' w' ⟨⟨css++dss,by rw[List.length_append,List.length_append,c1,d1],?_,fun i x cs hi hcs=>?_⟩,hp.grown,hp.blk⟩)
    ·rw[List.flatten_append,List.length_append,hlen];exact hp.own
    · have hold : S.rep (fun b => C ≤ b ∧ v.ownBlock ≠ some b) w cs x := by
        rw[List.getElem?_append]at hi hcs
        by_cases hlt:i<xs.length
        · rw[if_pos hlt]at hi
          rw[if_pos (by omega)]at hcs
          exact c3 i x cs hi hcs
        · rw[if_neg hlt]at hi
          rw[if_neg (by omega),c1]at hcs
          exact d2 _ x cs hi hcs
      have h1:S.rep (fun b=>(C≤b∧v.ownBlock≠some b)∧b<w.heap.size) w cs x:=S.mono (fun b hb hl=>⟨hb,hl⟩) hold
      have h2:S.rep (fun b=>(C≤b∧v.ownBlock≠some b)∧b<w.heap.size) w' cs x:=S.frame (grown_same hp.grown (fun b hb=>hb.1.2)) h1
      refine S.mono (fun b hb _=>⟨hb.1.1,fun e=>?_⟩) h2
      rcases hp.blk with h|⟨k,hk,hle⟩
      ·exact hb.1.2 (h▸e)
      ·rw[hk]at e;cases e;exact absurd hb.2 (by omega)
end
inductive D where
  |val (v:Value)
  |list (sz:Nat) (rows:List (List D))
  |tree (S:Nat→Prop) (x:D)
def nsl:Value→Bool
  | .slice .. =>false
  |v=>v.oneCell'
theorem nsl_one {v:Value} (h:nsl v=true):v.oneCell'=true:=by
  cases v<;>first|rfl|exact h
inductive DrU (w:World):(Nat→Prop)→D→Value→Prop
  |val (S:Nat→Prop) (v:Value) (h:nsl v=true):DrU w S (.val v) v
  | list (S : Nat → Prop) (sz : Nat) (rows : List (List D)) (a : Option Addr) (n cap b off : Nat) (f : Nat → Nat → Value) (T : Nat → Nat → Nat → Prop) (hn : n = rows.length) (h1 : n ≤ cap) (h2 : n ≤ 17592186044416) (h3 : a = none → cap = 0)
      (h4:0<n→a=some ⟨b,off,none⟩) (h5:∀(i:Nat) r,rows[i]?=some r→r.length=sz)
      (h6:∀(i:Nat) r (j:Nat) x,rows[i]?=some r→r[j]?=some x→S b∧w.cell? ⟨b,off+(i *sz+j),none⟩=some (f i j)∧w.frozen? ⟨b,off+(i *sz+j),none⟩=false)
      (hT:∀i j c,T i j c→S c∧c≠b) (hD:∀i j i' j' c,T i j c→T i' j' c→i=i'∧j=j')
      (h7:∀(i:Nat) r (j:Nat) x,rows[i]?=some r→r[j]?=some x→DrU w (T i j) x (f i j)):DrU w S (.list sz rows) (.slice a n cap)
theorem DrU.frame {S:Nat→Prop} {w w':World} {x:D} {v:Value} (hs:∀b,S b→b<w.heap.size→w'.heap[b]?=w.heap[b]?) (h:DrU w S x v):DrU w' S x v:=by
  induction h with
  |val S v h=>exact .val S v h
  |list S sz rows a n cap b off f T hn h1 h2 h3 h4 h5 h6 hT hD h7 ih=>
    refine .list S sz rows a n cap b off f T hn h1 h2 h3 h4 h5 (fun i r j x hr hx=>?_) hT hD fun i r j x hr hx=>ih i r j x hr hx fun b hb hl=>hs b (hT i j b hb).1 hl
    obtain⟨g1,g2,g3⟩:=h6 i r j x hr hx
    have hb:=World.block_lt_of_cell? _ _ g2
    exact⟨g1,(World.cell?_of_block (a:=⟨b,off+(i *sz+j),none⟩) (hs b g1 hb)).trans g2,(World.frozen?_of_block (a:=⟨b,off+(i *sz+j),none⟩) (hs b g1 hb)).trans g3⟩
theorem DrU.one {S:Nat→Prop} {w:World} {x:D} {v:Value} (h:DrU w S x v):v.oneCell'=true:=by
  cases h with
  |val S v h=>exact nsl_one h
  |list=>rfl
theorem same_lt {w w':World} {b:Nat} (h:w'.heap[b]?=w.heap[b]?) (hl:b<w.heap.size):b<w'.heap.size:=by
  rw[Array.getElem?_eq_getElem hl]at h
  exact(Array.getElem?_eq_some_iff.1 h).1
inductive Dr (B:Nat→Prop) (w:World):D→Value→Prop
  |val (v:Value) (h:v.oneCell'=true):Dr B w (.val v) v
  | list (sz : Nat) (rows : List (List D)) (a : Option Addr) (n cap b off : Nat) (f : Nat → Nat → Value) (hn : n = rows.length) (h1 : n ≤ cap) (h2 : n ≤ 17592186044416) (h3 : a = none → cap = 0)
      (h4:0<n→a=some ⟨b,off,none⟩) (h5:∀(i:Nat) r,rows[i]?=some r→r.length=sz)
      (h6:∀(i:Nat) r (j:Nat) x,rows[i]?=some r→r[j]?=some x→B b∧w.cell? ⟨b,off+(i *sz+j),none⟩=some (f i j))
      (h7:∀(i:Nat) r (j:Nat) x,rows[i]?=some r→r[j]?=some x→Dr B w x (f i j)):Dr B w (.list sz rows) (.slice a n cap)
  |tree (S:Nat→Prop) (x:D) (v:Value) (hB:∀b,S b→B b) (hl:∀b,S b→b<w.heap.size) (h:DrU w S x v):Dr B w (.tree S x) v
section
variable {B B' : Nat → Prop} {w w' : World} {x : D} {v : Value}
theorem Dr.one (h:Dr B w x v):v.oneCell'=true:=by
  cases h with
  |val v h=>exact h
  |list=>rfl
  |tree S x v hB hl h=>exact h.one
theorem Dr.frame (hs:Same B w w') (h:Dr B w x v):Dr B w' x v:=by
  induction h with
  |val v h=>exact .val v h
  |list sz rows a n cap b off f hn h1 h2 h3 h4 h5 h6 h7 ih=>
    exact .list sz rows a n cap b off f hn h1 h2 h3 h4 h5 (fun i r j x hr hx=>⟨(h6 i r j x hr hx).1,hs.cell (h6 i r j x hr hx).1 (h6 i r j x hr hx).2⟩) ih
  |tree S x v hB hl h=>exact .tree S x v hB (fun b hb=>same_lt (hs b (hB b hb) (hl b hb)) (hl b hb)) (h.frame fun b hb hl'=>hs b (hB b hb) hl')
theorem Dr.mono (hp:∀b,B b→b<w.heap.size→B' b) (h:Dr B w x v):Dr B' w x v:=by
  induction h with
  |val v h=>exact .val v h
  |list sz rows a n cap b off f hn h1 h2 h3 h4 h5 h6 h7 ih=>
    exact .list sz rows a n cap b off f hn h1 h2 h3 h4 h5 (fun i r j x hr hx=>⟨hp _ (h6 i r j x hr hx).1 (World.block_lt_of_cell? _ _ (h6 i r j x hr hx).2),(h6 i r j x hr hx).2⟩) ih
  |tree S x v hB hl h=>exact .tree S x v (fun b hb=>hp b (hB b hb) (hl b hb)) hl h
end
theorem DrU.dr {S:Nat→Prop} {w:World} {x:D} {v:Value} (h:DrU w S x v):Dr S w x v:=by
  induction h with
  |val S v h=>exact .val v (nsl_one h)
  |list S sz rows a n cap b off f T hn h1 h2 h3 h4 h5 h6 hT hD h7 ih=>
    exact .list sz rows a n cap b off f hn h1 h2 h3 h4 h5 (fun i r j x hr hx=>⟨(h6 i r j x hr hx).1,(h6 i r j x hr hx).2.1⟩) fun i r j x hr hx=>(ih i r j x hr hx).mono fun c hc _=>(hT i j c hc).1
inductive C where
  |d (x:D)
  |ptr (cells:List D)
  |box (k sz i j:Nat)
  |own (k sz n:Nat)
  |fn (f:FuncId) (cap:List (List D))
  |fb (f:FuncId) (k sz:Nat)
  |off (k sz i n:Nat)
def C.refs:C→List Nat
  | .box k _ _ _=>[k]
  | .own k _ _=>[k]
  | .fb _ k _=>[k]
  | .off k _ _ _=>[k]
  |_=>[]
def Pr (B:Nat→Prop) (w:World) (cells:List D) (v:Value):Prop:=
  ∃b off,v= .pointer (some ⟨b,off,none⟩)∧∀(j:Nat) x,cells[j]?=some x→∃u,B b∧w.cell? ⟨b,off+j,none⟩=some u∧Dr B w x u
def Cr (bx:Nat→Nat×Nat) (al:Nat→Prop) (B:Nat→Prop) (w:World):C→Value→Prop
  | .d x,v=>Dr B w x v
  | .ptr cells,v=>Pr B w cells v
  | .box k sz i j,v=>v.oneCell'=true∧(al k→v= .pointer (some ⟨(bx k).1,i *sz+j,none⟩))
  | .own k sz n,v=>v.oneCell'=true∧(al k→∃cap,v= .slice (some ⟨(bx k).1,0,none⟩) n cap∧n≤cap∧cap≤maxLen∧cap *sz=(bx k).2)
  | .fn f cap,v=>∃vs:List Value,v= .func (.func f) #[] vs.toArray∧vs.length=cap.length∧∀(i:Nat) c u,cap[i]?=some c→vs[i]?=some u→Pr B w c u
  | .fb f k _,v=>∃u:Value,v= .func (.func f) #[] #[u]∧u.oneCell'=true∧(al k→u= .pointer (some ⟨(bx k).1,0,none⟩))
  | .off k sz i n,v=>v.oneCell'=true∧(al k→∃cap,v= .slice (some ⟨(bx k).1,i *sz,none⟩) n cap∧n≤cap∧cap≤maxLen)
inductive V1 where
  |c (x:C)
  |agg (cs:List C)
inductive V where
  |o (x:V1)
  |tup (xs:List V1)
  |gh (S:Nat→Prop)
def V1.refs:V1→List Nat
  | .c x=>x.refs
  | .agg cs=>cs.flatMap C.refs
def V.refs:V→List Nat
  | .o x=>x.refs
  | .tup xs=>xs.flatMap V1.refs
  | .gh _=>[]
def V1r (bx:Nat→Nat×Nat) (al:Nat→Prop) (B:Nat→Prop) (w:World):V1→Value→Prop
  | .c x,v=>Cr bx al B w x v
  | .agg cs,v=>∃vs:List Value,v= .agg vs.toArray∧vs.length=cs.length∧∀(i:Nat) c u,cs[i]?=some c→vs[i]?=some u→Cr bx al B w c u
def Vr (bx:Nat→Nat×Nat) (al:Nat→Prop) (B:Nat→Prop) (w:World):V→Value→Prop
  | .o x,v=>V1r bx al B w x v
  | .tup xs,v=>∃vs:List Value,v= .tuple vs.toArray∧vs.length=xs.length∧∀(i:Nat) c u,xs[i]?=some c→vs[i]?=some u→V1r bx al B w c u
  | .gh S,_=>∀b,S b→B b∧b<w.heap.size
section
variable {B B' : Nat → Prop} {w w' : World} {bx bx' : Nat → Nat × Nat} {al al' : Nat → Prop} {v : Value}
theorem Pr.one {cells:List D} (h:Pr B w cells v):v.oneCell'=true:=by
  obtain⟨b,off,rfl,_⟩:=h
  rfl
theorem Pr.frame {cells:List D} (hs:Same B w w') (h:Pr B w cells v):Pr B w' cells v:=by
  obtain⟨b,off,e,h⟩:=h
  refine⟨b,off,e,fun j x hx=>?_⟩
  obtain⟨u,hb,hc,hd⟩:=h j x hx
  exact⟨u,hb,hs.cell hb hc,hd.frame hs⟩
theorem Pr.mono {cells:List D} (hp:∀b,B b→b<w.heap.size→B' b) (h:Pr B w cells v):Pr B' w cells v:=by
  obtain⟨b,off,e,h⟩:=h
  refine⟨b,off,e,fun j x hx=>?_⟩
  obtain⟨u,hb,hc,hd⟩:=h j x hx
  exact⟨u,hp b hb (World.block_lt_of_cell? _ _ hc),hc,hd.mono hp⟩
theorem Dr.to {x:D} (hs:Same B w w') (hp:∀b,B b→b<w.heap.size→B' b) (h:Dr B w x v):Dr B' w' x v:=
  ((h.mono (B':=fun b=>B b∧b<w.heap.size) fun _ h1 h2=>⟨h1,h2⟩).frame fun b hb hl=>hs b hb.1 hl).mono fun b hb _=>hp b hb.1 hb.2
theorem Pr.to {cells:List D} (hs:Same B w w') (hp:∀b,B b→b<w.heap.size→B' b) (h:Pr B w cells v):Pr B' w' cells v:=
  ((h.mono (B':=fun b=>B b∧b<w.heap.size) fun _ h1 h2=>⟨h1,h2⟩).frame fun b hb hl=>hs b hb.1 hl).mono fun b hb _=>hp b hb.1 hb.2
theorem Cr.one {x:C} (h:Cr bx al B w x v):v.oneCell'=true:=by
  cases x with
  |d x=>exact Dr.one h
  |ptr cells=>exact Pr.one h
  |box k sz i j=>exact h.1
  |own k sz n=>exact h.1
  |fn f cap=>obtain⟨vs,rfl,_⟩:=h;rfl
  |fb f k sz=>obtain⟨u,rfl,_⟩:=h;rfl
  |off k sz i n=>exact h.1
theorem Cr.to {x:C} (hs:Same B w w') (hp:∀b,B b→b<w.heap.size→B' b) (ha:∀k,k∈x.refs→al' k→al k∧bx' k=bx k) (h:Cr bx al B w x v):Cr bx' al' B' w' x v:=by
  cases x with
  |d x=>exact Dr.to hs hp h
  |ptr cells=>exact Pr.to hs hp h
  |box k sz i j=>exact⟨h.1,fun hk=>by obtain⟨h1,h2⟩:=ha k (by simp[C.refs]) hk;rw[h2];exact h.2 h1⟩
  |own k sz n=>exact⟨h.1,fun hk=>by obtain⟨h1,h2⟩:=ha k (by simp[C.refs]) hk;rw[h2];exact h.2 h1⟩
  |fn f cap=>
    obtain⟨vs,e,hl,h⟩:=h
    exact⟨vs,e,hl,fun i c u hc hu=>(h i c u hc hu).to hs hp⟩
  |fb f k sz=>
    obtain⟨u,e,h1,h⟩:=h
    exact⟨u,e,h1,fun hk=>by obtain⟨h1,h2⟩:=ha k (by simp[C.refs]) hk;rw[h2];exact h h1⟩
  |off k sz i n=>exact⟨h.1,fun hk=>by obtain⟨h1,h2⟩:=ha k (by simp[C.refs]) hk;rw[h2];exact h.2 h1⟩
theorem V1r.to {x:V1} (hs:Same B w w') (hp:∀b,B b→b<w.heap.size→B' b) (ha:∀k,k∈x.refs→al' k→al k∧bx' k=bx k) (h:V1r bx al B w x v):V1r bx' al' B' w' x v:=by
  cases x with
  |c x=>exact Cr.to hs hp ha h
  |agg cs=>
    obtain⟨vs,e,hl,h⟩:=h
    exact⟨vs,e,hl,fun i c u hc hu=>(h i c u hc hu).to hs hp (fun k hk=>ha k (List.mem_flatMap.2 ⟨c,List.mem_of_getElem? hc,hk⟩))⟩
theorem Vr.to {x:V} (hs:Same B w w') (hp:∀b,B b→b<w.heap.size→B' b) (ha:∀k,k∈x.refs→al' k→al k∧bx' k=bx k) (h:Vr bx al B w x v):Vr bx' al' B' w' x v:=by
  cases x with
  |o x=>exact V1r.to hs hp ha h
  |tup xs=>
    obtain⟨vs,e,hl,h⟩:=h
    exact⟨vs,e,hl,fun i c u hc hu=>(h i c u hc hu).to hs hp (fun k hk=>ha k (List.mem_flatMap.2 ⟨c,List.mem_of_getElem? hc,hk⟩))⟩
  |gh S=>exact fun b hb=>⟨hp b (h b hb).1 (h b hb).2,same_lt (hs b (h b hb).1 (h b hb).2) (h b hb).2⟩
end
abbrev nat1 (n:Int):V1:=.c (.d (.val (.int .i64 n)))
abbrev bo1 (b:Bool):V1:=.c (.d (.val (.bool b)))
abbrev st1 (s:ByteArray):V1:=.c (.d (.val (.string s)))
abbrev ad (ds:List D):V1:=.agg (ds.map C.d)
theorem refs_ad (ds:List D):(ad ds).refs=[]:=by
  induction ds with
  |nil=>rfl
  |cons d ds ih=>exact ih
/-! ### The state: what the slots and the boxes hold. -/
inductive Res where
  |t (n:Nat)
  |b (k:Nat)
  |u (k:Nat)
  deriving DecidableEq
def Res.beq:Res→Res→Bool
  | .t m,.t n=>Nat.beq m n
  | .b m,.b n=>Nat.beq m n
  | .u m,.u n=>Nat.beq m n
  |_,_=>false
theorem Res.beq_iff (r s:Res):Res.beq r s=true↔r=s:=by
  cases r<;>cases s<;>simp[Res.beq]
inductive RC where
  |no
  |v (x:V)
  |b (e:TypeId) (sz:Nat) (rows:List (List C))
  |u
abbrev St:=List (Res×RC)
def lk:St→Res→RC
  |[],_=>.no
  |(q,x)::l,r=>bif Res.beq q r then x else lk l r
theorem lk_same (q:Res) (x:RC) (l:St):lk ((q,x)::l) q=x:=by
  have:Res.beq q q=true:=(Res.beq_iff q q).2 rfl
  simp[lk,this]
theorem lk_other (q r:Res) (x:RC) (l:St) (h:q≠r):lk ((q,x)::l) r=lk l r:=by
  have:Res.beq q r=false:=by
    cases e:Res.beq q r
    ·rfl
    ·exact absurd ((Res.beq_iff q r).1 e) h
  simp[lk,this]
structure Env where
  w:World
  B:Nat→Prop
  n:Nat
  mt:List (Nat×Nat×Nat)
def Al (τ:Res→RC) (k:Nat):Prop:=∃e sz rows,τ (.b k)= .b e sz rows
def Bf (E:Env) (bx:Nat→Nat×Nat) (τ:Res→RC) (b:Nat):Prop:=(E.B b∨E.w.heap.size≤b)∧∀k,Al τ k→b≠(bx k).1
structure SR (E:Env) (bx:Nat→Nat×Nat) (τ:Res→RC) (a:Act) (w:World):Prop where
  slot:∀t x,τ (.t t)= .v x→Vr bx (Al τ) (Bf E bx τ) w x (a.tmps.getD t undef)
  box:∀k e sz rows,τ (.b k)= .b e sz rows→∃cur:Array Value,w.heap[(bx k).1]?=some (.cells cur e (0,0))∧cur.size=(bx k).2∧rows.length *sz≤cur.size∧
    (∀(i:Nat) r,rows[i]?=some r→r.length=sz)∧∀(i:Nat) r (j:Nat) c,rows[i]?=some r→r[j]?=some c→∃u,cur[i *sz+j]?=some u∧Cr bx (Al τ) (Bf E bx τ) w c u
  inj:∀k l,Al τ k→Al τ l→(bx k).1=(bx l).1→k=l
  unused:∀k,τ (.u k)= .no→¬Al τ k∧(∀t x,τ (.t t)= .v x→k∉x.refs)∧∀l e sz rows,τ (.b l)= .b e sz rows→∀r∈rows,∀c∈r,k∉c.refs
  size:a.tmps.size=E.n
  defers:a.defers=[]
  own:∀k,Al τ k→E.w.heap.size≤(bx k).1∨((k<100∨1000≤k)∧∃p∈E.mt,p.2.1=(bx k).1)
  mtl:∀p∈E.mt,p.1<100
  ent:∀k g,(k,g)∈E.mt→Al τ k→bx k=g
  os:w.os=E.w.os
  tape:w.tape=E.w.tape
  output:w.output=E.w.output
  hsize:E.w.heap.size≤w.heap.size
  old:∀b,b<E.w.heap.size→(∀k g,(k,g)∈E.mt→b≠g.1)→w.heap[b]?=E.w.heap[b]?
section
variable {E : Env} {bx : Nat → Nat × Nat} {τ τ' : Res → RC} {a : Act} {w w' : World}
theorem SR.lt (h:SR E bx τ a w) {k:Nat} (hk:Al τ k):(bx k).1<w.heap.size:=by
  obtain⟨e,sz,rows,hk⟩:=hk
  obtain⟨cur,hc,_⟩:=h.box k e sz rows hk
  exact(Array.getElem?_eq_some_iff.1 hc).1
theorem SR.world (h:SR E bx τ a w) (hb:Below w.heap.size w w'):SR E bx τ a w':=by
  have hs:Same (Bf E bx τ) w w':=below_sameAll hb _
  refine⟨fun t x ht=>(h.slot t x ht).to hs (fun _ h _=>h) (fun k _ hk=>⟨hk,rfl⟩),fun k e sz rows hk=>?_,h.inj,h.unused,h.size,h.defers,h.own,h.mtl,h.ent,hb.os.trans h.os,hb.tape.trans h.tape,hb.output.trans h.output,Nat.le_trans h.hsize hb.size,fun b hl hm=>(hb.block b (Nat.lt_of_lt_of_le hl h.hsize)).trans (h.old b hl hm)⟩
  obtain⟨cur,h1,h2,h3,h4,h5⟩:=h.box k e sz rows hk
  refine⟨cur,(hb.block _ (h.lt ⟨e,sz,rows,hk⟩)).trans h1,h2,h3,h4,fun i r j c hr hc=>?_⟩
  obtain⟨u,h6,h7⟩:=h5 i r j c hr hc
  exact⟨u,h6,h7.to hs (fun _ h _=>h) (fun k _ hk=>⟨hk,rfl⟩)⟩
theorem SR.drew (h:SR E bx τ a w):SR E bx τ a {w with drawn:=w.drawn+1}:=h.world ((Below.refl _ w).drew)
def upd (τ:Res→RC) (r:Res) (x:RC):Res→RC:=fun q=>if q=r then x else τ q
theorem upd_same (τ:Res→RC) (r:Res) (x:RC):upd τ r x r=x:=by simp[upd]
theorem upd_other (τ:Res→RC) {r q:Res} (x:RC) (h:q≠r):upd τ r x q=τ q:=by simp[upd,h]
theorem Al_upd_t (τ:Res→RC) (t:Nat) (x:RC):Al (upd τ (.t t) x)=Al τ:=by
  funext k
  simp[Al,upd]
theorem Bf_upd_t (τ:Res→RC) (t:Nat) (x:RC):Bf E bx (upd τ (.t t) x)=Bf E bx τ:=by
  funext b
  simp only[Bf,Al_upd_t]
theorem lk_cons (q:Res) (x:RC) (l:St):lk ((q,x)::l)=upd (lk l) q x:=by
  funext r
  by_cases h:r=q
  ·subst h;rw[lk_same,upd_same]
  ·rw[lk_other q r x l (fun e=>h e.symm),upd_other _ _ h]
theorem SR.put (h:SR E bx τ a w) {d:Nat} (hd:d<E.n) {x:V} {v:Value} (hv:Vr bx (Al τ) (Bf E bx τ) w x v) (hr:∀k∈x.refs,τ (.u k)≠ .no):SR E bx (upd τ (.t d) (.v x)) (a.put (some d) v) w:=by
  have hbf:=Bf_upd_t (E:=E) (bx:=bx) τ d (.v x)
  have hal:=Al_upd_t τ d (.v x)
  refine⟨fun t y ht=>?_,fun k e sz rows hk=>?_,by rw[hal];exact h.inj,fun k hk=>?_,by simp[Act.put,h.size],h.defers,by rw[hal];exact h.own,h.mtl,by rw[hal];exact h.ent,h.os,h.tape,h.output,h.hsize,h.old⟩
  · rw[hal,hbf]
    by_cases e:t=d
    · subst e
      rw[upd_same]at ht
      cases ht
      have:t<a.tmps.size:=by rw[h.size];exact hd
      simp only[Act.put,Array.getD_eq_getD_getElem?,Array.getElem?_setIfInBounds_self,this,if_true,Option.getD_some]
      exact hv
    · rw[upd_other _ _ (by simpa using e)]at ht
      simp only[Act.put,Array.getD_eq_getD_getElem?]
      rw[Array.getElem?_setIfInBounds_ne (fun e'=>e e'.symm),←Array.getD_eq_getD_getElem?]
      exact h.slot t y ht
  · rw[upd_other _ _ (by simp)]at hk
    rw[hal,hbf]
    exact h.box k e sz rows hk
  · rw[upd_other _ _ (by simp)]at hk
    obtain⟨h1,h2,h3⟩:=h.unused k hk
    refine⟨by rw[hal];exact h1,fun t y ht=>?_,fun l e sz rows hl=>?_⟩
    · by_cases e:t=d
      · subst e
        rw[upd_same]at ht
        cases ht
        exact fun hm=>hr k hm hk
      · rw[upd_other _ _ (by simpa using e)]at ht
        exact h2 t y ht
    · rw[upd_other _ _ (by simp)]at hl
      exact h3 l e sz rows hl
theorem SR.drop (h:SR E bx τ a w) {d:Nat} (v:Value):SR E bx (upd τ (.t d) .no) (a.put (some d) v) w:=by
  have hbf:=Bf_upd_t (E:=E) (bx:=bx) τ d .no
  have hal:=Al_upd_t τ d .no
  refine⟨fun t y ht=>?_,fun k e sz rows hk=>?_,by rw[hal];exact h.inj,fun k hk=>?_,by simp[Act.put,h.size],h.defers,by rw[hal];exact h.own,h.mtl,by rw[hal];exact h.ent,h.os,h.tape,h.output,h.hsize,h.old⟩
  · rw[hal,hbf]
    by_cases e:t=d
    · subst e
      rw[upd_same]at ht
      cases ht
    · rw[upd_other _ _ (by simpa using e)]at ht
      simp only[Act.put,Array.getD_eq_getD_getElem?]
      rw[Array.getElem?_setIfInBounds_ne (fun e'=>e e'.symm),←Array.getD_eq_getD_getElem?]
      exact h.slot t y ht
  · rw[upd_other _ _ (by simp)]at hk
    rw[hal,hbf]
    exact h.box k e sz rows hk
  · rw[upd_other _ _ (by simp)]at hk
    obtain⟨h1,h2,h3⟩:=h.unused k hk
    refine⟨by rw[hal];exact h1,fun t y ht=>?_,fun l e sz rows hl=>?_⟩
    · by_cases e:t=d
      · subst e
        rw[upd_same]at ht
        cases ht
      · rw[upd_other _ _ (by simpa using e)]at ht
        exact h2 t y ht
    · rw[upd_other _ _ (by simp)]at hl
      exact h3 l e sz rows hl
end
def OW (P:Program) (ops:Array Oper) (o:Oper) (a:Act) (w:World) (K:Act→World→Prop):Prop:=
  ∀Q:Exit→Act→World→Prop,if Region.wanted o (yielded ops a.tmps)=true then o.wp P a w K Q else K (a.put o.dst undef) w
theorem OW.mono {P:Program} {ops:Array Oper} {o:Oper} {a:Act} {w:World} {K K':Act→World→Prop} (h:OW P ops o a w K) (hk:∀a w,K a w→K' a w):OW P ops o a w K':=by
  intro Q
  have:=h Q
  split
  ·rename_i hw;rw[if_pos hw]at this;exact Oper.wp_mono hk this
  ·rename_i hw;rw[if_neg hw]at this;exact hk _ _ this
theorem OW.plain {P:Program} {ops:Array Oper} {o:Oper} {a:Act} {w:World} {K:Act→World→Prop} (hg:o.guard=none) (h:∀Q:Exit→Act→World→Prop,o.wp P a w K Q):OW P ops o a w K:=by
  intro Q
  rw[if_pos (by simp[Region.wanted,hg])]
  exact h Q
def ovr (τ:Res→RC) (W:List Res) (σ':St):Res→RC:=fun r=>if r∈W then lk σ' r else τ r
def St1 (P:Program) (n:Nat) (ops:Array Oper) (o:Oper) (σ:St) (R W:List Res) (σ':St):Prop:=
  (∀r,r∉W→lk σ' r=lk σ r)∧∀(E:Env) (bx:Nat→Nat×Nat) (τ:Res→RC) (a:Act) (w:World),E.n=n→(∀r∈R,τ r=lk σ r)→SR E bx τ a w→
    OW P ops o a w (fun a' w'=>∃bx',SR E bx' (ovr τ W σ') a' w')
theorem ovr_self {σ σ':St} {W:List Res} (h:∀r,r∉W→lk σ' r=lk σ r):ovr (lk σ) W σ'=lk σ':=by
  funext r
  unfold ovr
  split
  ·rfl
  ·rename_i hr;exact(h r hr).symm
/-! ### In the text's order -/
def AOps (P:Program) (n:Nat) (ops:Array Oper) (l:List Oper) (K:St→Prop) (σ:St):Prop:=
  ∀(E:Env) (bx:Nat→Nat×Nat) (a:Act) (w:World),E.n=n→SR E bx (lk σ) a w→∀Q:Exit→Act→World→Prop,(∀σ' bx' a' w',K σ'→SR E bx' (lk σ') a' w'→Q .normal a' w')→wpList P ops Q l a w
section
variable {P : Program} {n : Nat} {ops : Array Oper} {l : List Oper} {o : Oper} {K : St → Prop} {σ σ' : St} {R W : List Res}
theorem AOps.nil (h:K σ):AOps P n ops [] K σ:=fun _ _ _ _ _ hs _ hQ=>hQ _ _ _ _ h hs
theorem AOps.cons (h:St1 P n ops o σ R W σ') (k:AOps P n ops l K σ'):AOps P n ops (o::l) K σ:=by
  intro E bx a w hE hs Q hQ
  refine wpList_step fun KK hKK=>(h.2 E bx (lk σ) a w hE (fun _ _=>rfl) hs).mono (fun a' w' h'=>?_) Q
  obtain⟨bx',h'⟩:=h'
  rw[ovr_self h.1]at h'
  exact hKK _ _ (k E bx' a' w' hE h' Q hQ)
def Wk (σ σ':St):Prop:=∀(E:Env) (bx:Nat→Nat×Nat) (a:Act) (w:World),SR E bx (lk σ) a w→∃bx',SR E bx' (lk σ') a w
theorem Wk.refl (σ:St):Wk σ σ:=fun _ bx _ _ h=>⟨bx,h⟩
theorem Wk.trans {σ'':St} (h:Wk σ σ') (h':Wk σ' σ''):Wk σ σ'':=fun E bx a w hs=>by
  obtain⟨bx1,h1⟩:=h E bx a w hs
  exact h' E bx1 a w h1
theorem AOps.wk (h:Wk σ σ') (k:AOps P n ops l K σ'):AOps P n ops l K σ:=fun E bx a w hE hs=>by
  obtain⟨bx1,h1⟩:=h E bx a w hs
  exact k E bx1 a w hE h1
theorem AOps.cases (t:Nat) (b:Bool) (hv:lk σ (.t t)= .v (.o (bo1 b))) (h1:b=true→AOps P n ops l K ((.t t,.v (.o (bo1 true)))::σ)) (h0:b=false→AOps P n ops l K ((.t t,.v (.o (bo1 false)))::σ)):AOps P n ops l K σ:=by
  have e:∀c,b=c→lk ((.t t,.v (.o (bo1 c)))::σ)=lk σ:=by
    rintro c rfl
    funext r
    rw[lk_cons]
    by_cases h:r= .t t
    ·subst h;rw[upd_same,hv]
    ·rw[upd_other _ _ h]
  cases b
  · intro E bx a w hE hs
    exact h0 rfl E bx a w hE (by rw[e false rfl];exact hs)
  · intro E bx a w hE hs
    exact h1 rfl E bx a w hE (by rw[e true rfl];exact hs)
end
/-! ### In any order -/
inductive Run (P:Program) (n:Nat) (ops:Array Oper):List Oper→St→List (List Res×List Res×St)→St→Prop
  |nil (σ:St):Run P n ops [] σ [] σ
  |cons {o:Oper} {l:List Oper} {σ σ' σ'':St} {R W:List Res} {tr:List (List Res×List Res×St)} (h:St1 P n ops o σ R W σ') (k:Run P n ops l σ' tr σ''):Run P n ops (o::l) σ ((R,W,σ')::tr) σ''
def preS (σ0:St) (tr:List (List Res×List Res×St)):Nat→St
  |0=>σ0
  |i+1=>match tr[i]? with
    |some x=>x.2.2
    |none=>σ0
theorem Run.at {P:Program} {n:Nat} {ops:Array Oper} {l:List Oper} {σ0 σ1:St} {tr:List (List Res×List Res×St)} (h:Run P n ops l σ0 tr σ1):tr.length=l.length∧preS σ0 tr l.length=σ1∧
    ∀(i:Nat) o,l[i]?=some o→∃R W σ',tr[i]?=some (R,W,σ')∧St1 P n ops o (preS σ0 tr i) R W σ':=by
  induction h with
  |nil σ=>exact⟨rfl,rfl,fun i o h=>by simp at h⟩
  | @cons o l σ σ' σ'' R W tr h k ih=>
    obtain⟨h1,h2,h3⟩:=ih
    have hp:∀j,j≤tr.length→preS σ ((R,W,σ')::tr) (j+1)=preS σ' tr j:=by
      intro j hj
      cases j with
      |zero=>rfl
      |succ j=>
        have hj':j<tr.length:=by omega
        simp[preS,hj']
    refine⟨by simp[h1],by rw[List.length_cons,hp _ (by omega)];exact h2,fun i o' ho=>?_⟩
    cases i with
    |zero=>simp only[List.getElem?_cons_zero,Option.some.injEq]at ho;subst ho;exact⟨R,W,σ',rfl,h⟩
    |succ i=>
      rw[List.getElem?_cons_succ]at ho
      obtain⟨R',W',σ2,h4,h5⟩:=h3 i o' ho
      have hi:i<l.length:=(List.getElem?_eq_some_iff.1 ho).1
      exact⟨R',W',σ2,by rw[List.getElem?_cons_succ];exact h4,by rw[hp _ (by omega)];exact h5⟩
def cur (σ0:St) (tr:List (List Res×List Res×St)) (D:Nat→Bool):Nat→Res→RC
  |0,r=>lk σ0 r
  |i+1,r=>match tr[i]? with
    |some x=>if D i=true∧r∈x.2.1 then lk x.2.2 r else cur σ0 tr D i r
    |none=>cur σ0 tr D i r
theorem cur_all {P:Program} {n:Nat} {ops:Array Oper} {l:List Oper} {σ0 σ1:St} {tr:List (List Res×List Res×St)} (h:Run P n ops l σ0 tr σ1) {D:Nat→Bool} {i:Nat} (hi:i≤l.length) (hD:∀j,j<i→D j=true) (r:Res):
    cur σ0 tr D i r=lk (preS σ0 tr i) r:=by
  obtain⟨h1,_,h3⟩:=h.at
  induction i with
  |zero=>rfl
  |succ i ih=>
    obtain⟨o,ho⟩:∃o,l[i]?=some o:=⟨_,List.getElem?_eq_getElem (by omega)⟩
    obtain⟨R,W,σ',h4,h5⟩:=h3 i o ho
    simp only[cur,preS,h4,hD i (by omega),true_and]
    split
    ·rfl
    · rename_i hr
      rw[ih (by omega) (fun j hj=>hD j (by omega))]
      exact(h5.1 r hr).symm
theorem cur_same {σ0:St} {tr:List (List Res×List Res×St)} {D D':Nat→Bool} {r:Res} {m:Nat} (h:∀j x,j<m→tr[j]?=some x→r∈x.2.1→D j=D' j):cur σ0 tr D m r=cur σ0 tr D' m r:=by
  induction m with
  |zero=>rfl
  |succ i ih=>
    have ih':=ih (fun j x hj=>h j x (by omega))
    simp only[cur]
    split
    · rename_i x hx
      by_cases hr:r∈x.2.1
      ·simp only[hr,and_true,h i x (by omega) hx hr,ih']
      ·simp only[hr,and_false,if_false,ih']
    ·exact ih'
theorem cur_stop {σ0:St} {tr:List (List Res×List Res×St)} {D:Nat→Bool} {r:Res} {i m:Nat} (him:i≤m) (h:∀j x,i≤j→j<m→tr[j]?=some x→r∈x.2.1→D j=false):cur σ0 tr D m r=cur σ0 tr D i r:=by
  induction m with
  | zero => have : i = 0 := by omega
            rw[this]
  |succ k ih=>
    by_cases e:i=k+1
    ·rw[e]
    · have ih':=ih (by omega) (fun j x h1 h2=>h j x h1 (by omega))
      simp only[cur]
      split
      · rename_i x hx
        by_cases hr:r∈x.2.1
        ·simp only[h k x (by omega) (by omega) hx hr,Bool.false_eq_true,false_and,if_false,ih']
        ·simp only[hr,and_false,if_false,ih']
      ·exact ih'
def bef (ops:Array Oper):Nat→Nat→Nat→Bool
  |0,_,_=>false
  |f+1,j,i=>match ops[j]? with
    |some o=>o.after.toList.any (fun e=>Region.binds .any e&&(Nat.beq e.on i||bef ops f e.on i))
    |none=>false
def meet (a b:List Res):Bool:=a.any (fun r=>b.any (fun q=>Res.beq r q))
theorem meet_of {a b:List Res} {r:Res} (h1:r∈a) (h2:r∈b):meet a b=true:=
  List.any_eq_true.2 ⟨r,h1,List.any_eq_true.2 ⟨r,h2,(Res.beq_iff r r).2 rfl⟩⟩
def chkRow (ops:Array Oper) (R W:List Res) (i:Nat):Nat→List (List Res×List Res×St)→Bool
  |_,[]=>true
  |j,x::tr=>(!(meet W x.1||meet W x.2.1||meet R x.2.1)||bef ops ops.size j i)&&chkRow ops R W i (j+1) tr
def chk (ops:Array Oper):Nat→List (List Res×List Res×St)→Bool
  |_,[]=>true
  |i,x::tr=>chkRow ops x.1 x.2.1 i (i+1) tr&&chk ops (i+1) tr
theorem chkRow_at {ops:Array Oper} {R W:List Res} {i:Nat}:∀ {j:Nat} {tr:List (List Res×List Res×St)},chkRow ops R W i j tr=true→∀(k:Nat) x,tr[k]?=some x→(meet W x.1=true∨meet W x.2.1=true∨meet R x.2.1=true)→bef ops ops.size (j+k) i=true
  |j,[],_,k,x,hx,_=>by simp at hx
  |j,y::tr,h,k,x,hx,hm=>by
    simp only[chkRow,Bool.and_eq_true,Bool.or_eq_true,Bool.not_eq_true',Bool.or_eq_false_iff]at h
    cases k with
    |zero=>
      simp only[List.getElem?_cons_zero,Option.some.injEq]at hx
      subst hx
      rcases h.1 with h1|h1
      · rcases hm with hm|hm|hm
        ·rw[h1.1.1]at hm;cases hm
        ·rw[h1.1.2]at hm;cases hm
        ·rw[h1.2]at hm;cases hm
      ·exact h1
    |succ k=>
      rw[List.getElem?_cons_succ]at hx
      have:=chkRow_at h.2 k x hx hm
      rw[show j+(k+1)=j+1+k by omega]
      exact this
theorem chk_at {ops:Array Oper}:∀ {i:Nat} {tr:List (List Res×List Res×St)},chk ops i tr=true→∀(p q:Nat) x y,p<q→tr[p]?=some x→tr[q]?=some y→(meet x.2.1 y.1=true∨meet x.2.1 y.2.1=true∨meet x.1 y.2.1=true)→bef ops ops.size (i+q) (i+p)=true
  |i,[],_,p,q,x,y,_,hx,_,_=>by simp at hx
  |i,z::tr,h,p,q,x,y,hpq,hx,hy,hm=>by
    simp only[chk,Bool.and_eq_true]at h
    obtain⟨q,rfl⟩:∃q',q=q'+1:=⟨q -1,by omega⟩
    rw[List.getElem?_cons_succ]at hy
    cases p with
    |zero=>
      simp only[List.getElem?_cons_zero,Option.some.injEq]at hx
      subst hx
      have:=chkRow_at h.1 q y hy hm
      rw[show i+(q+1)=i+1+q by omega]
      exact this
    |succ p=>
      rw[List.getElem?_cons_succ]at hx
      have:=chk_at h.2 p q x y (by omega) hx hy hm
      rw[show i+(q+1)=i+1+q by omega,show i+(p+1)=i+1+p by omega]
      exact this
def edgesOk (ops:Array Oper):Nat→List Oper→Bool
  |_,[]=>true
  |i,o::l=>o.after.toList.all (fun e=> !Region.binds .any e||Nat.blt e.on i)&&edgesOk ops (i+1) l
theorem edgesOk_at {ops:Array Oper}:∀ {i:Nat} {l:List Oper},edgesOk ops i l=true→∀(k:Nat) o,l[k]?=some o→∀e∈o.after,Region.binds .any e=true→e.on<i+k
  |i,[],_,k,o,ho,_,_,_=>by simp at ho
  |i,p::l,h,k,o,ho,e,he,hb=>by
    simp only[edgesOk,Bool.and_eq_true,List.all_eq_true,Bool.or_eq_true,Bool.not_eq_true']at h
    cases k with
    |zero=>
      simp only[List.getElem?_cons_zero,Option.some.injEq]at ho
      subst ho
      rcases h.1 e (Array.mem_toList_iff.2 he)with h1|h1
      ·rw[hb]at h1;cases h1
      · have:e.on<i:=by simpa using h1
        omega
    |succ k=>
      rw[List.getElem?_cons_succ]at ho
      have:=edgesOk_at h.2 k o ho e he hb
      omega
section
variable {P : Program} {n : Nat} {l : List Oper} {σ0 σ1 : St} {tr : List (List Res × List Res × St)}
theorem bef_listed {ops:Array Oper} {listed:Array Bool} (hdown:∀j o,ops[j]?=some o→listed.getD j false=true→∀e∈o.after,Region.binds .any e=true→listed.getD e.on false=true):
    ∀(f j i:Nat) (o:Oper),ops[j]?=some o→(∀e∈o.after,Region.binds .any e=true→listed.getD e.on false=true)→bef ops f j i=true→listed.getD i false=true
  |0,_,_,_,_,_,h=>by simp[bef]at h
  |f+1,j,i,o,ho,hr,h=>by
    simp only[bef,ho,List.any_eq_true,Bool.and_eq_true,Bool.or_eq_true]at h
    obtain⟨e,he,hb,h⟩:=h
    have he':=Array.mem_toList_iff.1 he
    have hl:=hr e he' hb
    rcases h with h|h
    ·rw[←Nat.eq_of_beq_eq_true h];exact hl
    · cases ho':ops[e.on]? with
      |none=>cases f<;>simp[bef,ho']at h
      |some o'=>exact bef_listed hdown f e.on i o' ho' (hdown e.on o' ho' hl) h
theorem wpAny_run (h:Run P n l.toArray l σ0 tr σ1) (hc:chk l.toArray 0 tr=true) (he:edgesOk l.toArray 0 l=true) {E:Env} (hE:E.n=n) {Q:Exit→Act→World→Prop}
    (hQ:∀bx a w,SR E bx (lk σ1) a w→Q .normal a w):∀(fuel:Nat) (listed:Array Bool) (a:Act) (w:World),listed.size=l.length→listed.toList.count false=fuel→
    (∀j o,l.toArray[j]?=some o→listed.getD j false=true→∀e∈o.after,Region.binds .any e=true→listed.getD e.on false=true)→
    (∃bx,SR E bx (cur σ0 tr (fun i=>listed.getD i false) l.length) a w)→wpAny P .any l.toArray Q fuel listed a w:=by
  obtain⟨hlen,hlast,hat⟩:=h.at
  have hfin:∀(listed:Array Bool) a w,listed.size=l.length→(∀i,i<l.length→listed.getD i false=true)→(∃bx,SR E bx (cur σ0 tr (fun i=>listed.getD i false) l.length) a w)→Q .normal a w:=by
    intro listed a w hs hall ⟨bx,hsr⟩
    have:cur σ0 tr (fun i=>listed.getD i false) l.length=lk σ1:=by
      funext r
      rw[cur_all h (Nat.le_refl _) hall,hlast]
    rw[this]at hsr
    exact hQ bx a w hsr
  intro fuel
  induction fuel with
  |zero=>
    intro listed a w hs hcount hdown hsr
    have hall:∀i,i<l.length→listed.getD i false=true:=by
      intro i hi
      have hn:false∉listed.toList:=List.count_eq_zero.1 hcount
      have hi':i<listed.size:=by omega
      cases e:listed[i]with
      |true=>simp[hi',e]
      |false=>exact absurd (by rw[←e];exact Array.mem_toList_iff.2 (Array.getElem_mem hi')) hn
    refine⟨?_,hfin listed a w hs hall hsr⟩
    apply List.eq_nil_iff_forall_not_mem.2
    intro j hj
    obtain⟨h1,o,ho,_⟩:=mem_ready.1 hj
    have hj':j<l.length:=by have:=(Array.getElem?_eq_some_iff.1 ho).1;simpa using this
    have:=hall j hj'
    have hj2:j<listed.size:=by omega
    simp[hj2]at this h1
    rw[this]at h1;cases h1
  |succ fuel ih=>
    intro listed a w hs hcount hdown hsr
    refine⟨fun hnil=>?_,fun i hi=>?_⟩
    · refine hfin listed a w hs ?_ hsr
      intro i
      induction i using Nat.strongRecOn with
      |_ i ih2=>
        intro hi
        cases hli:listed.getD i false with
        |true=>rfl
        |false=>
          exfalso
          obtain⟨o,ho⟩:∃o,l[i]?=some o:=⟨_,List.getElem?_eq_getElem hi⟩
          have hmem:i∈Region.ready .any l.toArray listed:=by
            refine mem_ready.2 ⟨?_,o,by simpa using ho,fun e he' hb=>?_⟩
            · have hi2:i<listed.size:=by omega
              simp[hi2]at hli ⊢
              exact hli
            · have:=edgesOk_at he i o ho e he' hb
              rw[Nat.zero_add]at this
              exact ih2 e.on this (by omega)
          rw[hnil]at hmem
          cases hmem
    · obtain⟨hun,o,ho,hall⟩:=mem_ready.1 hi
      have ho':l[i]?=some o:=by simpa using ho
      have hil:i<l.length:=(List.getElem?_eq_some_iff.1 ho').1
      have hil2:i<listed.size:=by omega
      have hunf:listed.getD i false=false:=by simp[hil2]at hun ⊢;exact hun
      obtain⟨R,W,σ',h4,h5⟩:=hat i o ho'
      obtain⟨bx,hsr⟩:=hsr
      -- who conflicts with operation i
      have hlater:∀j x,i≤j→j<l.length→tr[j]?=some x→(meet W x.1=true∨meet W x.2.1=true∨meet R x.2.1=true)→listed.getD j false=false:=by
        intro j x hij hj hx hm
        by_cases e:j=i
        ·subst e;exact hunf
        · cases hl:listed.getD j false with
          |false=>rfl
          |true=>
            exfalso
            have hb:=chk_at hc i j _ x (by omega) h4 hx hm
            rw[Nat.zero_add,Nat.zero_add]at hb
            obtain⟨oj,hoj⟩:∃oj,l[j]?=some oj:=⟨_,List.getElem?_eq_getElem hj⟩
            have hoj':l.toArray[j]?=some oj:=by simpa using hoj
            have:=bef_listed hdown _ j i oj hoj' (hdown j oj hoj' hl) hb
            rw[hunf]at this;cases this
      have hearlier:∀j x,j<i→tr[j]?=some x→(meet x.2.1 R=true∨meet x.2.1 W=true∨meet x.1 W=true)→listed.getD j false=true:=by
        intro j x hji hx hm
        have hb:=chk_at hc j i x _ hji hx h4 hm
        rw[Nat.zero_add,Nat.zero_add]at hb
        exact bef_listed hdown _ i j o ho hall hb
      have hread:∀r∈R,cur σ0 tr (fun i=>listed.getD i false) l.length r=lk (preS σ0 tr i) r:=by
        intro r hr
        rw[cur_stop (i:=i) (by omega) (fun j x h1 h2 hx hrx=>hlater j x h1 h2 hx (.inr (.inr (meet_of hr hrx))))]
        rw[cur_same (D':=fun _=>true) (fun j x hj hx hrx=>hearlier j x hj hx (.inl (meet_of hrx hr)))]
        exact cur_all h (by omega) (fun _ _=>rfl) r
      have hset:∀j,(listed.setIfInBounds i true).getD j false=if j=i then true else listed.getD j false:=by
        intro j
        by_cases e:j=i
        ·subst e;simp[hil2]
        · simp only[e,if_false,Array.getD_eq_getD_getElem?]
          rw[Array.getElem?_setIfInBounds_ne (fun e'=>e e'.symm)]
      have hnew:cur σ0 tr (fun j=>(listed.setIfInBounds i true).getD j false) l.length=ovr (cur σ0 tr (fun i=>listed.getD i false) l.length) W σ':=by
        funext r
        unfold ovr
        by_cases hr:r∈W
        · rw[if_pos hr]
          have h1:cur σ0 tr (fun j=>(listed.setIfInBounds i true).getD j false) l.length r=cur σ0 tr (fun j=>(listed.setIfInBounds i true).getD j false) (i+1) r:=
            cur_stop (by omega) (fun j x h1 h2 hx hrx=>by
              show (listed.setIfInBounds i true).getD j false=false
              rw[hset,if_neg (by omega)]
              exact hlater j x (by omega) h2 hx (.inr (.inl (meet_of hr hrx))))
          rw[h1]
          show (match tr[i]? with |some x=>if (listed.setIfInBounds i true).getD i false=true∧r∈x.2.1 then lk x.2.2 r else _|none=>_)=_
          rw[h4,hset,if_pos rfl]
          simp[hr]
        · rw[if_neg hr]
          refine cur_same (fun j x hj hx hrx=>?_)
          show (listed.setIfInBounds i true).getD j false=listed.getD j false
          rw[hset,if_neg]
          rintro rfl
          rw[h4]at hx
          cases hx
          exact hr hrx
      have hstep:=h5.2 E bx _ a w hE hread hsr
      have hdown':∀j o,l.toArray[j]?=some o→(listed.setIfInBounds i true).getD j false=true→∀e∈o.after,Region.binds .any e=true→(listed.setIfInBounds i true).getD e.on false=true:=by
        intro j oj hoj hl e he' hb
        rw[hset]
        split
        ·rfl
        · rw[hset]at hl
          split at hl
          ·rename_i e2;subst e2;rw[ho]at hoj;cases hoj;exact hall e he' hb
          ·exact hdown j oj hoj hl e he' hb
      have hcount':(listed.setIfInBounds i true).toList.count false=fuel:=by
        have hli:listed.toList[i]=false:=by
          simp[hil2]at hunf
          simpa using hunf
        rw[Array.toList_setIfInBounds,List.count_set (by simpa using hil2),hcount,hli]
        simp
      unfold wpOp
      simp only[ho]
      have hK:∀a' w',(∃bx',SR E bx' (ovr (cur σ0 tr (fun i=>listed.getD i false) l.length) W σ') a' w')→wpAny P .any l.toArray Q fuel (listed.setIfInBounds i true) a' w':=
        fun a' w' ⟨bx',h'⟩=>ih _ a' w' (by simpa using hs) hcount' hdown' ⟨bx',by rw[hnew];exact h'⟩
      have hq:=(hstep.mono hK) Q
      split
      ·rename_i hw;rw[if_pos hw]at hq;exact .inl hq
      ·rename_i hw;rw[if_neg hw]at hq;exact hq
end
/-! ### Code -/
theorem exists_least {p:Nat→Prop} (h:∃m,p m):∃m,p m∧∀k,p k→m≤k:=by
  obtain⟨m,hm⟩:=h
  induction m using Nat.strongRecOn with
  |_ m ih=>
    by_cases hk:∃k,k<m∧p k
    · obtain⟨k,h1,h2⟩:=hk
      exact ih k h1 h2
    ·exact⟨m,hm,fun k h=>Nat.le_of_not_lt fun hlt=>hk ⟨k,hlt,h⟩⟩
open Classical in
noncomputable def least (p:Nat→Prop):Nat:=if h:∃m,p m then Classical.choose (exists_least h)else 0
theorem least_spec {p:Nat→Prop} (h:∃m,p m):p (least p):=by
  unfold least
  rw[dif_pos h]
  exact(Classical.choose_spec (exists_least h)).1
theorem least_le {p:Nat→Prop} {k:Nat} (h:p k):least p≤k:=by
  unfold least
  rw[dif_pos ⟨k,h⟩]
  exact(Classical.choose_spec (exists_least ⟨k,h⟩)).2 k h
def ACode (P:Program) (n:Nat) (c:Code) (K:Exit→St→Prop) (σ:St):Prop:=
  ∀(E:Env) (bx:Nat→Nat×Nat) (a:Act) (w:World),E.n=n→SR E bx (lk σ) a w→c.wp P (fun e a' w'=>∃σ' bx',K e σ'∧SR E bx' (lk σ') a' w') a w
def kseq (P:Program) (n:Nat) (y:Code) (K:Exit→St→Prop):Exit→St→Prop
  | .normal,σ=>ACode P n y K σ
  |e,σ=>K e σ
def kblock (id:Nat) (K:Exit→St→Prop):Exit→St→Prop
  | .exit i,σ=>if i=id then K .normal σ else K (.exit i) σ
  |e,σ=>K e σ
def kloop (I:Nat→St→Prop) (m:Nat) (K:Exit→St→Prop):Exit→St→Prop
  | .normal,σ=>∃m' σ2,m'<m∧Wk σ σ2∧I m' σ2
  |e,σ=>K e σ
section
variable {P : Program} {n : Nat} {K K' : Exit → St → Prop} {σ σ' : St} {x y : Code}
theorem ACode.mono (h:ACode P n x K σ) (hk:∀e σ,K e σ→K' e σ):ACode P n x K' σ:=
  fun E bx a w hE hs=>wp_mono (h E bx a w hE hs) (fun e a' w' ⟨σ',bx',h1,h2⟩=>⟨σ',bx',hk _ _ h1,h2⟩)
theorem ACode.wk (h:Wk σ σ') (k:ACode P n x K σ'):ACode P n x K σ:=fun E bx a w hE hs=>by
 obtain⟨bx1,h1⟩:=h E bx a w hs
 exact k E bx1 a w hE h1
theorem ACode.skip (h:K .normal σ):ACode P n .skip K σ:=fun _ bx _ _ _ hs=>wp_skip ⟨σ,bx,h,hs⟩
theorem ACode.ret (h:K .ret σ):ACode P n .ret K σ:=fun _ bx _ _ _ hs=>wp_ret ⟨σ,bx,h,hs⟩
theorem ACode.exit {id:Nat} (h:K (.exit id) σ):ACode P n (.exit id) K σ:=fun _ bx _ _ _ hs=>wp_exit ⟨σ,bx,h,hs⟩
theorem ACode.seq (h:ACode P n x (kseq P n y K) σ):ACode P n (.seq x y) K σ:=by
  intro E bx a w hE hs
  refine wp_seq (wp_mono (h E bx a w hE hs) ?_)
  rintro e a' w' ⟨σ',bx',h1,h2⟩
  cases e with
  |normal=>exact h1 E bx' a' w' hE h2
  |_=>exact⟨σ',bx',h1,h2⟩
theorem ACode.block {id:Nat} (h:ACode P n x (kblock id K) σ):ACode P n (.block id x) K σ:=by
  intro E bx a w hE hs
  refine wp_block (wp_mono (h E bx a w hE hs) ?_)
  rintro e a' w' ⟨σ',bx',h1,h2⟩
  cases e with
  |exit i=>
    simp only[kblock]at h1
    simp only[Exit.inBlock]
    split
    ·rename_i hi;rw[if_pos hi]at h1;exact⟨σ',bx',h1,h2⟩
    ·rename_i hi;rw[if_neg hi]at h1;exact⟨σ',bx',h1,h2⟩
  |_=>exact⟨σ',bx',h1,h2⟩
theorem ACode.cond {c:Operand} {b:Bool} (hc:∀(E:Env) (bx:Nat→Nat×Nat) (a:Act) (w:World),SR E bx (lk σ) a w→a.eval c= .bool b) (h1:b=true→ACode P n x K σ) (h0:b=false→ACode P n y K σ):ACode P n (.cond c x y) K σ:=
  fun E bx a w hE hs=>wp_cond_split (hc E bx a w hs) (fun h=>h1 h E bx a w hE hs) (fun h=>h0 h E bx a w hE hs)
theorem SR.evalBool {E:Env} {bx:Nat→Nat×Nat} {τ:Res→RC} {a:Act} {w:World} (hs:SR E bx τ a w) {t:Nat} {b:Bool} (h:τ (.t t)= .v (.o (bo1 b))):a.eval (.tmp t)= .bool b:=by
  have h2:Dr _ w (.val (.bool b)) (a.tmps.getD t undef):=hs.slot t _ h
  show a.tmps.getD t undef=_
  generalize a.tmps.getD t undef=u at h2
  cases h2
  rfl
theorem ACode.condT {t:Nat} {b:Bool} (hc:lk σ (.t t)= .v (.o (bo1 b))) (h1:b=true→ACode P n x K σ) (h0:b=false→ACode P n y K σ):ACode P n (.cond (.tmp t) x y) K σ:=
  ACode.cond (fun _ _ _ _ hs=>hs.evalBool hc) h1 h0
theorem ACode.region {id:Nat} {l:List Oper} (h:AOps P n l.toArray l (K .normal) σ):ACode P n (.region id l.toArray false) K σ:=
  fun E bx a w hE hs=>wp_region_lit (h E bx a w hE hs _ (fun σ' bx' _ _ h1 h2=>⟨σ',bx',h1,h2⟩))
theorem ACode.draw {id:Nat} {l:List Oper} {tr:List (List Res×List Res×St)} (hm:P.follows .mixedOrders=true) (h:Run P n l.toArray l σ tr σ') (hc:chk l.toArray 0 tr=true) (he:edgesOk l.toArray 0 l=true) (hk:K .normal σ'):ACode P n (.region id l.toArray true) K σ:=by
 intro E bx a w hE hs
 refine wp_region_any hm ?_
 have hcur:cur σ tr (fun i=>(Array.replicate l.length false).getD i false) l.length=lk σ:=by
  funext r
  refine(cur_stop (i:=0) (Nat.zero_le _) (fun j x _ hj _ _=>?_)).trans rfl
  simp[hj]
 refine wpAny_run h hc he hE (fun bx' a' w' hs'=>⟨σ',bx',hk,hs'⟩) _ _ a _ (by simp) (by simp) (fun j o ho hl=>?_) ⟨bx,?_⟩
 ·have hj:j<l.length:=by have:=(Array.getElem?_eq_some_iff.1 ho).1;simpa using this
  simp[hj]at hl
 ·have:(Array.replicate l.toArray.size false)=Array.replicate l.length false:=by simp
  rw[this,hcur]
  exact hs.drew
open Classical in
theorem ACode.loop (I:Nat→St→Prop) (m0:Nat) (h0:I m0 σ) (h:∀m σ',I m σ'→ACode P n x (kloop I m K) σ'):ACode P n (.loop x) K σ:=by
  intro E bx a w hE hs
  refine wp_loop (fun a' w'=>∃m σ' bx',I m σ'∧SR E bx' (lk σ') a' w') (fun a' w'=>least (fun m=>∃σ' bx',I m σ'∧SR E bx' (lk σ') a' w')) ⟨m0,σ,bx,h0,hs⟩ ?_
  intro a1 w1 hx
  obtain⟨σ1,bx1,hI,hs1⟩:=least_spec hx
  refine wp_mono (h _ σ1 hI E bx1 a1 w1 hE hs1) ?_
  rintro e a' w' ⟨σ',bx',h1,h2⟩
  cases e with
  |normal=>
    obtain⟨m',σ2,hm',hw,hI'⟩:=h1
    obtain⟨bx2,h2⟩:=hw E bx' a' w' h2
    exact⟨⟨m',σ2,bx2,hI',h2⟩,Nat.lt_of_le_of_lt (least_le ⟨σ2,bx2,hI',h2⟩) hm'⟩
  |_=>exact⟨σ',bx',h1,h2⟩
end
def ev (σ:St):Operand→Option V
  | .tmp t=>match lk σ (.t t)with
    | .v x=>some x
    |_=>none
  | .const v=>bif v.oneCell' then some (.o (.c (.d (.val v))))else none
  | .func f=>some (.o (.c (.fn f [])))
  | .global _=>none
def rd:Operand→List Res
  | .tmp t=>[.t t]
  |_=>[]
section
variable {E : Env} {bx : Nat → Nat × Nat} {τ : Res → RC} {a : Act} {w : World} {σ : St} {x : Operand}
theorem SR.used (hs:SR E bx τ a w) {t:Nat} {v:V} (h:τ (.t t)= .v v):∀k∈v.refs,τ (.u k)≠ .no:=
  fun k hk hu=>(hs.unused k hu).2.1 t v h hk
theorem ev_ok {v:V} (h:ev σ x=some v) (hr:∀r∈rd x,τ r=lk σ r) (hs:SR E bx τ a w):Vr bx (Al τ) (Bf E bx τ) w v (a.eval x)∧∀k∈v.refs,τ (.u k)≠ .no:=by
  cases x with
  |tmp t=>
    have hr':=hr (.t t) (by simp[rd])
    have ht:τ (.t t)= .v v:=by
      rw[hr']
      simp only[ev]at h
      split at h
      ·rename_i y hy;cases h;exact hy
      ·cases h
    exact⟨hs.slot t v ht,hs.used ht⟩
  |const u=>
    simp only[ev,cond_eq_ite]at h
    split at h
    ·rename_i h1;cases h;exact⟨.val u h1,fun k hk=>by cases hk⟩
    ·cases h
  |func f=>
    simp only[ev,Option.some.injEq]at h
    subst h
    exact⟨⟨[],rfl,rfl,fun i c u h=>by simp at h⟩,fun k hk=>by cases hk⟩
  |global g=>cases h
theorem ev_val {u:Value} (h:ev σ x=some (.o (.c (.d (.val u))))) (hr:∀r∈rd x,τ r=lk σ r) (hs:SR E bx τ a w):a.eval x=u:=by
  have h1:Dr _ w (.val u) (a.eval x):=(ev_ok h hr hs).1
  generalize a.eval x=z at h1
  cases h1
  rfl
end
section
variable {P : Program} {n : Nat} {ops : Array Oper} {o : Oper} {σ : St} {d : Nat}
theorem St1.value (hg:o.guard=none) (hd:o.dst=some d) (hn:Nat.blt d n=true) {R:List Res} {x:V}
    (h:∀(E:Env) (bx:Nat→Nat×Nat) (τ:Res→RC) (a:Act) (w:World),(∀r∈R,τ r=lk σ r)→SR E bx τ a w→
      (∃v,(execOp a.eval o).run P w= .ok (.value v) w∧Vr bx (Al τ) (Bf E bx τ) w x v)∧∀k∈x.refs,τ (.u k)≠ .no):
    St1 P n ops o σ R [.t d] ((.t d,.v x)::σ):=by
  refine⟨fun r hr=>lk_other _ _ _ _ (fun e=>hr (by rw[←e];simp)),fun E bx τ a w hE hR hs=>OW.plain hg fun Q=>?_⟩
  obtain⟨⟨v,hrun,hv⟩,hu⟩:=h E bx τ a w hR hs
  unfold Oper.wp
  rw[hrun,Oper.upon_value,hd]
  refine⟨bx,?_⟩
  have e:ovr τ [.t d] ((.t d,.v x)::σ)=upd τ (.t d) (.v x):=by
    funext r
    by_cases hr:r= .t d
    ·subst hr;simp[ovr,upd,lk_same]
    ·simp[ovr,upd,hr]
  rw[e]
  exact hs.put (by rw[hE];simpa using hn) hv hu
theorem rd_l {R S:List Res} {τ:Res→RC} (h:∀r∈R++S,τ r=lk σ r):∀r∈R,τ r=lk σ r:=fun r hr=>h r (List.mem_append_left _ hr)
theorem rd_r {R S:List Res} {τ:Res→RC} (h:∀r∈R++S,τ r=lk σ r):∀r∈S,τ r=lk σ r:=fun r hr=>h r (List.mem_append_right _ hr)
theorem St1.move {x:Operand} (ho:o.op= .move x) (hg:o.guard=none) (hd:o.dst=some d) (hn:Nat.blt d n=true) {v:V} (hx:ev σ x=some v):St1 P n ops o σ (rd x) [.t d] ((.t d,.v v)::σ):=
  St1.value hg hd hn fun E bx τ a w hR hs=>⟨⟨a.eval x,by simp[execOp,ho],(ev_ok hx hR hs).1⟩,(ev_ok hx hR hs).2⟩
theorem St1.assign {x:Operand} (ho:o.op= .assign x) (hg:o.guard=none) (hd:o.dst=some d) (hn:Nat.blt d n=true) {v:V} (hx:ev σ x=some v):St1 P n ops o σ (rd x) [.t d] ((.t d,.v v)::σ):=
  St1.value hg hd hn fun E bx τ a w hR hs=>⟨⟨a.eval x,by simp[execOp,ho],(ev_ok hx hR hs).1⟩,(ev_ok hx hR hs).2⟩
theorem St1.pickT {c x y:Operand} (ho:o.op= .pick c x y) (hg:o.guard=none) (hd:o.dst=some d) (hn:Nat.blt d n=true) {v:V} (hc:ev σ c=some (.o (bo1 true))) (hx:ev σ x=some v):St1 P n ops o σ (rd c++rd x) [.t d] ((.t d,.v v)::σ):=
  St1.value hg hd hn fun E bx τ a w hR hs=>⟨⟨a.eval x,by simp[execOp,ho,ev_val hc (rd_l hR) hs,asBool],(ev_ok hx (rd_r hR) hs).1⟩,(ev_ok hx (rd_r hR) hs).2⟩
theorem St1.pickF {c x y:Operand} (ho:o.op= .pick c x y) (hg:o.guard=none) (hd:o.dst=some d) (hn:Nat.blt d n=true) {v:V} (hc:ev σ c=some (.o (bo1 false))) (hy:ev σ y=some v):St1 P n ops o σ (rd c++rd y) [.t d] ((.t d,.v v)::σ):=
  St1.value hg hd hn fun E bx τ a w hR hs=>⟨⟨a.eval y,by simp[execOp,ho,ev_val hc (rd_l hR) hs,asBool],(ev_ok hy (rd_r hR) hs).1⟩,(ev_ok hy (rd_r hR) hs).2⟩
theorem St1.bin {op:BinOp} {t t2:TypeId} {x y:Operand} (ho:o.op= .binOp op t x y t2) (hg:o.guard=none) (hd:o.dst=some d) (hn:Nat.blt d n=true) {u v z:Value}
    (hx:ev σ x=some (.o (.c (.d (.val u))))) (hy:ev σ y=some (.o (.c (.d (.val v))))) (hz:∀w,(do eqGuard op t x y u v;binOp op t u v:Sem Value).run P w= .ok z w) (h1:z.oneCell'=true):
    St1 P n ops o σ (rd x++rd y) [.t d] ((.t d,.v (.o (.c (.d (.val z)))))::σ):=
  St1.value hg hd hn fun E bx τ a w hR hs=>⟨⟨z,by
    have h:=hz w
    simp only[execOp,ho,ev_val hx (rd_l hR) hs,ev_val hy (rd_r hR) hs]
    rw[Sem.run_bind,h]
    rfl,.val z h1⟩,fun k hk=>by cases hk⟩
theorem St1.un {op:UnOp} {t:TypeId} {x:Operand} (ho:o.op= .unOp op t x) (hg:o.guard=none) (hd:o.dst=some d) (hn:Nat.blt d n=true) {u z:Value}
    (hx:ev σ x=some (.o (.c (.d (.val u))))) (hz:∀w,(Op.unary op u).run P w= .ok z w) (h1:z.oneCell'=true):
    St1 P n ops o σ (rd x) [.t d] ((.t d,.v (.o (.c (.d (.val z)))))::σ):=
  St1.value hg hd hn fun E bx τ a w hR hs=>⟨⟨z,by
    have h:=hz w
    simp only[execOp,ho,ev_val hx hR hs]
    rw[Sem.run_bind,h]
    rfl,.val z h1⟩,fun k hk=>by cases hk⟩
section
variable {t t2 : TypeId} {x y : Operand} {p q : Int}
theorem St1.add (ho:o.op= .binOp .add t x y t2) (hg:o.guard=none) (hd:o.dst=some d) (hn:Nat.blt d n=true) (hx:ev σ x=some (.o (nat1 p))) (hy:ev σ y=some (.o (nat1 q))) (hr: -9223372036854775808≤p+q∧p+q≤9223372036854775807):
    St1 P n ops o σ (rd x++rd y) [.t d] ((.t d,.v (.o (nat1 (p+q))))::σ):=
  St1.bin ho hg hd hn hx hy (fun w=>by simp[eqGuard,binOp,Op.intArith,IntWalk.i64_in _ hr]) rfl
theorem St1.sub (ho:o.op= .binOp .sub t x y t2) (hg:o.guard=none) (hd:o.dst=some d) (hn:Nat.blt d n=true) (hx:ev σ x=some (.o (nat1 p))) (hy:ev σ y=some (.o (nat1 q))) (hr: -9223372036854775808≤p -q∧p -q≤9223372036854775807):
    St1 P n ops o σ (rd x++rd y) [.t d] ((.t d,.v (.o (nat1 (p -q))))::σ):=
  St1.bin ho hg hd hn hx hy (fun w=>by simp[eqGuard,binOp,Op.intArith,IntWalk.i64_in _ hr]) rfl
theorem St1.mul (ho:o.op= .binOp .mul t x y t2) (hg:o.guard=none) (hd:o.dst=some d) (hn:Nat.blt d n=true) (hx:ev σ x=some (.o (nat1 p))) (hy:ev σ y=some (.o (nat1 q))) (hr: -9223372036854775808≤p *q∧p *q≤9223372036854775807):
    St1 P n ops o σ (rd x++rd y) [.t d] ((.t d,.v (.o (nat1 (p *q))))::σ):=
  St1.bin ho hg hd hn hx hy (fun w=>by simp[eqGuard,binOp,Op.intArith,IntWalk.i64_in _ hr]) rfl
theorem St1.lss (ho:o.op= .binOp .lss t x y t2) (hg:o.guard=none) (hd:o.dst=some d) (hn:Nat.blt d n=true) (hx:ev σ x=some (.o (nat1 p))) (hy:ev σ y=some (.o (nat1 q))):
    St1 P n ops o σ (rd x++rd y) [.t d] ((.t d,.v (.o (bo1 (decide (p<q)))))::σ):=
  St1.bin ho hg hd hn hx hy (fun w=>by simp[eqGuard,binOp,Op.intCmp]) rfl
theorem St1.leq (ho:o.op= .binOp .leq t x y t2) (hg:o.guard=none) (hd:o.dst=some d) (hn:Nat.blt d n=true) (hx:ev σ x=some (.o (nat1 p))) (hy:ev σ y=some (.o (nat1 q))):
    St1 P n ops o σ (rd x++rd y) [.t d] ((.t d,.v (.o (bo1 (decide (p≤q)))))::σ):=
  St1.bin ho hg hd hn hx hy (fun w=>by simp[eqGuard,binOp,Op.intCmp]) rfl
theorem St1.gtr (ho:o.op= .binOp .gtr t x y t2) (hg:o.guard=none) (hd:o.dst=some d) (hn:Nat.blt d n=true) (hx:ev σ x=some (.o (nat1 p))) (hy:ev σ y=some (.o (nat1 q))):
    St1 P n ops o σ (rd x++rd y) [.t d] ((.t d,.v (.o (bo1 (decide (q<p)))))::σ):=
  St1.bin ho hg hd hn hx hy (fun w=>by simp[eqGuard,binOp,Op.intCmp]) rfl
theorem St1.geq (ho:o.op= .binOp .geq t x y t2) (hg:o.guard=none) (hd:o.dst=some d) (hn:Nat.blt d n=true) (hx:ev σ x=some (.o (nat1 p))) (hy:ev σ y=some (.o (nat1 q))):
    St1 P n ops o σ (rd x++rd y) [.t d] ((.t d,.v (.o (bo1 (decide (q≤p)))))::σ):=
  St1.bin ho hg hd hn hx hy (fun w=>by simp[eqGuard,binOp,Op.intCmp]) rfl
theorem St1.eql (ho:o.op= .binOp .eql t x y t2) (hg:o.guard=none) (hd:o.dst=some d) (hn:Nat.blt d n=true) (hx:ev σ x=some (.o (nat1 p))) (hy:ev σ y=some (.o (nat1 q))):
    St1 P n ops o σ (rd x++rd y) [.t d] ((.t d,.v (.o (bo1 (decide (p=q)))))::σ):=
  St1.bin ho hg hd hn hx hy (fun w=>by simp[eqGuard,binOp,Op.intCmp];rfl) rfl
theorem St1.neq (ho:o.op= .binOp .neq t x y t2) (hg:o.guard=none) (hd:o.dst=some d) (hn:Nat.blt d n=true) (hx:ev σ x=some (.o (nat1 p))) (hy:ev σ y=some (.o (nat1 q))):
    St1 P n ops o σ (rd x++rd y) [.t d] ((.t d,.v (.o (bo1 (!decide (p=q)))))::σ):=
  St1.bin ho hg hd hn hx hy (fun w=>by simp[eqGuard,binOp,Op.intCmp];rfl) rfl
theorem St1.not {b:Bool} (ho:o.op= .unOp .not t x) (hg:o.guard=none) (hd:o.dst=some d) (hn:Nat.blt d n=true) (hx:ev σ x=some (.o (bo1 b))):
    St1 P n ops o σ (rd x) [.t d] ((.t d,.v (.o (bo1 (!b))))::σ):=
  St1.un ho hg hd hn hx (fun w=>by simp[Op.unary]) rfl
theorem St1.neg (ho:o.op= .unOp .neg t x) (hg:o.guard=none) (hd:o.dst=some d) (hn:Nat.blt d n=true) (hx:ev σ x=some (.o (nat1 p))) (hr: -9223372036854775807≤p∧p≤9223372036854775807):
    St1 P n ops o σ (rd x) [.t d] ((.t d,.v (.o (nat1 (-p))))::σ):=
  St1.un ho hg hd hn hx (fun w=>by simp[Op.unary,Op.intArith,IntWalk.i64_in (-p) (by omega)]) rfl
end
end
theorem Al_upd_b {τ:Res→RC} {k:Nat} {e:TypeId} {sz:Nat} {rows:List (List C)} (hk:Al τ k):Al (upd τ (.b k) (.b e sz rows))=Al τ:=by
  funext l
  apply propext
  by_cases h:l=k
  · subst h
    exact⟨fun _=>hk,fun _=>⟨e,sz,rows,by rw[upd_same]⟩⟩
  ·simp only[Al,upd_other _ _ (show Res.b l≠Res.b k by simpa using h)]
section
variable {E : Env} {bx : Nat → Nat × Nat} {τ : Res → RC} {a : Act} {w w' : World}
theorem SR.write (h:SR E bx τ a w) {k:Nat} {e:TypeId} {sz:Nat} {rows rows':List (List C)} {cur':Array Value} (hk:τ (.b k)= .b e sz rows) (hw:w.grownBy w' (some (bx k).1))
    (hc:w'.heap[(bx k).1]?=some (.cells cur' e (0,0))) (hsz:cur'.size=(bx k).2) (hl:rows'.length *sz≤cur'.size) (h4:∀(i:Nat) r,rows'[i]?=some r→r.length=sz)
    (h5:∀(i:Nat) r (j:Nat) c,rows'[i]?=some r→r[j]?=some c→∃u,cur'[i *sz+j]?=some u∧Cr bx (Al τ) (Bf E bx τ) w c u)
    (hr:∀r∈rows',∀c∈r,∀k∈c.refs,τ (.u k)≠ .no):SR E bx (upd τ (.b k) (.b e sz rows')) a w':=by
  have hak:Al τ k:=⟨e,sz,rows,hk⟩
  have hal:=Al_upd_b (e:=e) (sz:=sz) (rows:=rows') hak
  have hbf:Bf E bx (upd τ (.b k) (.b e sz rows'))=Bf E bx τ:=by funext b;simp only[Bf,hal]
  have hs:Same (Bf E bx τ) w w':=grown_same hw (fun b hb e=>by cases e;exact hb.2 k hak rfl)
  refine⟨fun t x ht=>?_,fun l e' sz' rows2 hl'=>?_,by rw[hal];exact h.inj,fun l hl'=>?_,h.size,h.defers,by rw[hal];exact h.own,h.mtl,by rw[hal];exact h.ent,hw.os.trans h.os,hw.tape.trans h.tape,hw.output.trans h.output,Nat.le_trans h.hsize hw.size,fun b hb hm=>?_⟩
  · rw[upd_other _ _ (by simp)]at ht
    rw[hal,hbf]
    exact(h.slot t x ht).to hs (fun _ h _=>h) (fun _ _ h=>⟨h,rfl⟩)
  · rw[hal,hbf]
    by_cases e1:l=k
    · subst e1
      rw[upd_same]at hl'
      cases hl'
      refine⟨cur',hc,hsz,hl,h4,fun i r j c hi hj=>?_⟩
      obtain⟨u,h6,h7⟩:=h5 i r j c hi hj
      exact⟨u,h6,h7.to hs (fun _ h _=>h) (fun _ _ h=>⟨h,rfl⟩)⟩
    · rw[upd_other _ _ (by simpa using e1)]at hl'
      obtain⟨cur,h1,h2,h3,h6,h7⟩:=h.box l e' sz' rows2 hl'
      have hal2:Al τ l:=⟨_,_,_,hl'⟩
      refine⟨cur,(hw.block _ (h.lt hal2) (fun e=>e1 (h.inj _ _ hal2 hak (Option.some.inj e)))).trans h1,h2,h3,h6,fun i r j c hi hj=>?_⟩
      obtain⟨u,h8,h9⟩:=h7 i r j c hi hj
      exact⟨u,h8,h9.to hs (fun _ h _=>h) (fun _ _ h=>⟨h,rfl⟩)⟩
  · rw[upd_other _ _ (by simp)]at hl'
    obtain⟨h1,h2,h3⟩:=h.unused l hl'
    refine⟨by rw[hal];exact h1,fun t x ht=>?_,fun m e' sz' rows2 hm r hr' c hc' hk'=>?_⟩
    · rw[upd_other _ _ (by simp)]at ht
      exact h2 t x ht
    · by_cases e1:m=k
      · subst e1
        rw[upd_same]at hm
        cases hm
        exact hr r hr' c hc' l hk' hl'
      · rw[upd_other _ _ (by simpa using e1)]at hm
        exact h3 m e' sz' rows2 hm r hr' c hc' hk'
  · refine(hw.block b (Nat.lt_of_lt_of_le hb h.hsize) (fun e=>?_)).trans (h.old b hb hm)
    cases e
    rcases h.own k hak with h1|⟨_,p,hp,h1⟩
    ·omega
    ·exact hm p.1 p.2 hp h1.symm
def bxAt (bx:Nat→Nat×Nat) (k' g n:Nat):Nat→Nat×Nat:=fun l=>if l=k' then(g,n)else bx l
theorem bxAt_same (bx:Nat→Nat×Nat) (k' g n:Nat):bxAt bx k' g n k'=(g,n):=by simp[bxAt]
theorem bxAt_other (bx:Nat→Nat×Nat) {k' l:Nat} (g n:Nat) (h:l≠k'):bxAt bx k' g n l=bx l:=by simp[bxAt,h]
theorem SR.place (h:SR E bx τ a w) {k k' g q:Nat} {e:TypeId} {sz:Nat} {rows:List (List C)} {cur:Array Value} (hf:τ (.u k')= .no) (h100:100≤k') (hkk:(100≤k∧k<1000)∨1000≤k') (hg:(Al τ k∧g=(bx k).1)∨w.heap.size≤g)
    (hw:w.grownBy w' (some q)) (hq:q=g∨(Al τ k∧q=(bx k).1)) (hc:w'.heap[g]?=some (.cells cur e (0,0))) (hl:rows.length *sz≤cur.size) (h4:∀(i:Nat) r,rows[i]?=some r→r.length=sz)
    (h5:∀(i:Nat) r (j:Nat) c,rows[i]?=some r→r[j]?=some c→∃u,cur[i *sz+j]?=some u∧Cr bx (Al τ) (Bf E bx τ) w c u)
    (hr:∀r∈rows,∀c∈r,∀k∈c.refs,τ (.u k)≠ .no):SR E (bxAt bx k' g cur.size) (upd (upd (upd τ (.b k) .no) (.b k') (.b e sz rows)) (.u k') .u) a w':=by
  obtain⟨nk1,nk2,nk3⟩:=h.unused k' hf
  have hqk:(Al τ k∧q=(bx k).1)∨w.heap.size≤q:=by
    rcases hq with rfl|h1
    ·exact hg
    ·exact .inl h1
  generalize hτ':upd (upd (upd τ (.b k) .no) (.b k') (.b e sz rows)) (.u k') .u=τ'
  have gt:∀t,τ' (.t t)=τ (.t t):=fun t=>by rw[←hτ',upd_other _ _ (by simp),upd_other _ _ (by simp),upd_other _ _ (by simp)]
  have gb':τ' (.b k')= .b e sz rows:=by rw[←hτ',upd_other _ _ (by simp),upd_same]
  have gbk:k≠k'→τ' (.b k)= .no:=fun hne=>by rw[←hτ',upd_other _ _ (by simp),upd_other _ _ (by simpa using hne),upd_same]
  have gbo:∀l,l≠k→l≠k'→τ' (.b l)=τ (.b l):=fun l h1 h2=>by rw[←hτ',upd_other _ _ (by simp),upd_other _ _ (by simpa using h2),upd_other _ _ (by simpa using h1)]
  have gu:∀l,l≠k'→τ' (.u l)=τ (.u l):=fun l h1=>by rw[←hτ',upd_other _ _ (by simpa using h1),upd_other _ _ (by simp),upd_other _ _ (by simp)]
  have gu':τ' (.u k')= .u:=by rw[←hτ',upd_same]
  have ha':Al τ' k':=⟨_,_,_,gb'⟩
  have hao:∀l,l≠k'→Al τ' l→Al τ l∧l≠k:=by
    intro l h1 ⟨e',s',r',h2⟩
    by_cases h3:l=k
    ·subst h3;rw[gbk h1]at h2;cases h2
    ·rw[gbo l h3 h1]at h2;exact⟨⟨_,_,_,h2⟩,h3⟩
  have hgo:∀l,Al τ l→l≠k→(bx l).1≠g:=by
    intro l h1 h2 e1
    rcases hg with⟨h3,h4⟩|h3
    ·exact h2 (h.inj l k h1 h3 (e1.trans h4))
    ·have:=h.lt h1;omega
  have hqo:∀l,Al τ l→l≠k→(bx l).1≠q:=by
    intro l h1 h2 e1
    rcases hqk with⟨h3,h4⟩|h3
    ·exact h2 (h.inj l k h1 h3 (e1.trans h4))
    ·have:=h.lt h1;omega
  have hbo:∀l,l≠k'→bxAt bx k' g cur.size l=bx l:=fun l h1=>bxAt_other bx g _ h1
  have hbf:∀b,Bf E bx τ b→b<w.heap.size→Bf E (bxAt bx k' g cur.size) τ' b:=by
    intro b hb hlt
    refine⟨hb.1,fun l hl1=>?_⟩
    by_cases h1:l=k'
    · subst h1
      rw[bxAt_same]
      rcases hg with⟨h3,h4⟩|h3
      ·rw[show (g,cur.size).1=(bx k).1 from h4];exact hb.2 k h3
      ·show b≠g;omega
    · rw[hbo l h1]
      exact hb.2 l (hao l h1 hl1).1
  have hs:Same (Bf E bx τ) w w':=fun b hb hl=>hw.block b hl (fun e=>by
    cases e
    rcases hqk with⟨h3,h4⟩|h3
    ·exact hb.2 k h3 h4
    ·omega)
  have href:∀k0,τ (.u k0)≠ .no→Al τ' k0→Al τ k0∧bxAt bx k' g cur.size k0=bx k0:=by
    intro k0 h1 h2
    have h3:k0≠k':=fun e1=>h1 (e1▸hf)
    exact⟨(hao k0 h3 h2).1,hbo k0 h3⟩
  refine⟨fun t x ht=>?_,fun l e' sz' rows2 hl'=>?_,fun l m hl1 hm1 he=>?_,fun l hl'=>?_,h.size,h.defers,fun l hl1=>?_,h.mtl,fun l g2 hm hl1=>?_,hw.os.trans h.os,hw.tape.trans h.tape,hw.output.trans h.output,Nat.le_trans h.hsize hw.size,fun b hb hm=>?_⟩
  · rw[gt]at ht
    exact(h.slot t x ht).to hs hbf (fun k0 hk0=>href k0 (fun hu=>(h.unused k0 hu).2.1 t x ht hk0))
  · by_cases e1:l=k'
    · subst e1
      rw[gb']at hl'
      cases hl'
      rw[bxAt_same]
      refine⟨cur,hc,rfl,hl,h4,fun i r j c hi hj=>?_⟩
      obtain⟨u,h6,h7⟩:=h5 i r j c hi hj
      exact⟨u,h6,h7.to hs hbf (fun k0 hk0=>href k0 (hr r (List.mem_of_getElem? hi) c (List.mem_of_getElem? hj) k0 hk0))⟩
    · have hl3:=hao l e1 ⟨_,_,_,hl'⟩
      rw[gbo l hl3.2 e1]at hl'
      rw[hbo l e1]
      obtain⟨cur2,h1,h2,h3,h6,h7⟩:=h.box l e' sz' rows2 hl'
      refine⟨cur2,(hw.block _ (h.lt hl3.1) (fun e=>hqo l hl3.1 hl3.2 (Option.some.inj e))).trans h1,h2,h3,h6,fun i r j c hi hj=>?_⟩
      obtain⟨u,h8,h9⟩:=h7 i r j c hi hj
      exact⟨u,h8,h9.to hs hbf (fun k0 hk0=>href k0 (fun hu=>(h.unused k0 hu).2.2 l e' sz' rows2 hl' r (List.mem_of_getElem? hi) c (List.mem_of_getElem? hj) hk0))⟩
  · by_cases e1:l=k'
    · subst e1
      by_cases e2:m=l
      ·exact e2.symm
      · rw[bxAt_same,hbo m e2]at he
        exact absurd he.symm (hgo m (hao m e2 hm1).1 (hao m e2 hm1).2)
    · by_cases e2:m=k'
      · subst e2
        rw[bxAt_same,hbo l e1]at he
        exact absurd he (hgo l (hao l e1 hl1).1 (hao l e1 hl1).2)
      · rw[hbo l e1,hbo m e2]at he
        exact h.inj l m (hao l e1 hl1).1 (hao m e2 hm1).1 he
  · by_cases e1:l=k'
    ·subst e1;rw[gu']at hl';cases hl'
    · rw[gu l e1]at hl'
      obtain⟨h1,h2,h3⟩:=h.unused l hl'
      refine⟨fun h6=>h1 (hao l e1 h6).1,fun t x ht=>by rw[gt]at ht;exact h2 t x ht,fun m e' sz' rows2 hm r hr' c hc' hk'=>?_⟩
      by_cases e2:m=k'
      · subst e2
        rw[gb']at hm
        cases hm
        exact hr r hr' c hc' l hk' hl'
      · have hm3:=hao m e2 ⟨_,_,_,hm⟩
        rw[gbo m hm3.2 e2]at hm
        exact h3 m e' sz' rows2 hm r hr' c hc' hk'
  · by_cases e1:l=k'
    · subst e1
      rw[bxAt_same]
      rcases hg with⟨h3,h6⟩|h3
      · rw[show (g,cur.size).1=(bx k).1 from h6]
        rcases h.own k h3 with h7|⟨h7,h8⟩
        ·exact .inl h7
        ·exact .inr ⟨.inr (by omega),h8⟩
      ·exact .inl (Nat.le_trans h.hsize h3)
    · rw[hbo l e1]
      exact h.own l (hao l e1 hl1).1
  · have e1:l≠k':=fun e1=>by have:=h.mtl _ hm;simp at this;omega
    rw[hbo l e1]
    exact h.ent l g2 hm (hao l e1 hl1).1
  · refine(hw.block b (Nat.lt_of_lt_of_le hb h.hsize) (fun e=>?_)).trans (h.old b hb hm)
    cases e
    rcases hqk with⟨h3,h6⟩|h3
    · rcases h.own k h3 with h1|⟨_,p,hp,h1⟩
      ·omega
      ·exact hm p.1 p.2 hp (h6.trans h1.symm)
    ·have:=h.hsize;omega
theorem SR.killW (h:SR E bx τ a w) {k q:Nat} (hqk:(Al τ k∧q=(bx k).1)∨w.heap.size≤q) (hw:w.grownBy w' (some q)):SR E bx (upd τ (.b k) .no) a w':=by
  have gt:∀t,upd τ (.b k) .no (.t t)=τ (.t t):=fun t=>upd_other _ _ (by simp)
  have gu:∀t,upd τ (.b k) .no (.u t)=τ (.u t):=fun t=>upd_other _ _ (by simp)
  have ha:∀l e sz rows,upd τ (.b k) .no (.b l)= .b e sz rows→l≠k∧τ (.b l)= .b e sz rows:=by
    intro l e sz rows hl
    by_cases e1:l=k
    ·subst e1;rw[upd_same]at hl;cases hl
    ·exact⟨e1,by rwa[upd_other _ _ (by simpa using e1)]at hl⟩
  have hal:∀l,Al (upd τ (.b k) .no) l→Al τ l:=fun l ⟨e,sz,rows,hl⟩=>⟨e,sz,rows,(ha _ _ _ _ hl).2⟩
  have hbf:∀b,Bf E bx τ b→b<w.heap.size→Bf E bx (upd τ (.b k) .no) b:=fun b hb _=>⟨hb.1,fun l hl=>hb.2 l (hal l hl)⟩
  have hs:Same (Bf E bx τ) w w':=fun b hb hl=>hw.block b hl (fun e=>by
    cases e
    rcases hqk with⟨h3,h4⟩|h3
    ·exact hb.2 k h3 h4
    ·omega)
  refine⟨fun t x ht=>?_,fun l e sz rows hl=>?_,fun l m hl hm=>h.inj l m (hal l hl) (hal m hm),fun l hl=>?_,h.size,h.defers,fun l hl=>h.own l (hal l hl),h.mtl,fun l g hm hl=>h.ent l g hm (hal l hl),hw.os.trans h.os,hw.tape.trans h.tape,hw.output.trans h.output,Nat.le_trans h.hsize hw.size,fun b hb hm=>?_⟩
  · rw[gt]at ht
    exact(h.slot t x ht).to hs hbf (fun k0 _ h0=>⟨hal k0 h0,rfl⟩)
  · obtain⟨cur,h1,h2,h3,h4,h5⟩:=h.box l e sz rows (ha l e sz rows hl).2
    have hal2:Al τ l:=⟨_,_,_,(ha l e sz rows hl).2⟩
    refine⟨cur,(hw.block _ (h.lt hal2) (fun e2=>?_)).trans h1,h2,h3,h4,fun i r j c hi hj=>?_⟩
    · rcases hqk with⟨h6,h7⟩|h6
      ·exact(ha l e sz rows hl).1 (h.inj l k hal2 h6 ((Option.some.inj e2).trans h7))
      ·have:=h.lt hal2;have:=Option.some.inj e2;omega
    · obtain⟨u,h6,h7⟩:=h5 i r j c hi hj
      exact⟨u,h6,h7.to hs hbf (fun k0 _ h0=>⟨hal k0 h0,rfl⟩)⟩
  · rw[gu]at hl
    obtain⟨h1,h2,h3⟩:=h.unused l hl
    exact⟨fun h6=>h1 (hal l h6),fun t x ht=>by rw[gt]at ht;exact h2 t x ht,fun m e sz rows hm=>h3 m e sz rows (ha m e sz rows hm).2⟩
  · refine(hw.block b (Nat.lt_of_lt_of_le hb h.hsize) (fun e=>?_)).trans (h.old b hb hm)
    cases e
    rcases hqk with⟨h3,h6⟩|h3
    · rcases h.own k h3 with h1|⟨_,p,hp,h1⟩
      ·omega
      ·exact hm p.1 p.2 hp (h6.trans h1.symm)
    ·have:=h.hsize;omega
theorem SR.kill (h:SR E bx τ a w) (k:Nat):SR E bx (upd τ (.b k) .no) a w:=by
  have gt:∀t,upd τ (.b k) .no (.t t)=τ (.t t):=fun t=>upd_other _ _ (by simp)
  have gu:∀t,upd τ (.b k) .no (.u t)=τ (.u t):=fun t=>upd_other _ _ (by simp)
  have ha:∀l e sz rows,upd τ (.b k) .no (.b l)= .b e sz rows→τ (.b l)= .b e sz rows:=by
    intro l e sz rows hl
    by_cases e1:l=k
    ·subst e1;rw[upd_same]at hl;cases hl
    ·rwa[upd_other _ _ (by simpa using e1)]at hl
  have hal:∀l,Al (upd τ (.b k) .no) l→Al τ l:=fun l ⟨e,sz,rows,hl⟩=>⟨e,sz,rows,ha _ _ _ _ hl⟩
  have hbf:∀b,Bf E bx τ b→b<w.heap.size→Bf E bx (upd τ (.b k) .no) b:=fun b hb _=>⟨hb.1,fun l hl=>hb.2 l (hal l hl)⟩
  refine⟨fun t x ht=>?_,fun l e sz rows hl=>?_,fun l m hl hm=>h.inj l m (hal l hl) (hal m hm),fun l hl=>?_,h.size,h.defers,fun l hl=>h.own l (hal l hl),h.mtl,fun l g hm hl=>h.ent l g hm (hal l hl),h.os,h.tape,h.output,h.hsize,h.old⟩
  · rw[gt]at ht
    exact(h.slot t x ht).to (Same.refl _ _) hbf (fun k0 _ h0=>⟨hal k0 h0,rfl⟩)
  · obtain⟨cur,h1,h2,h3,h4,h5⟩:=h.box l e sz rows (ha l e sz rows hl)
    refine⟨cur,h1,h2,h3,h4,fun i r j c hi hj=>?_⟩
    obtain⟨u,h6,h7⟩:=h5 i r j c hi hj
    exact⟨u,h6,h7.to (Same.refl _ _) hbf (fun k0 _ h0=>⟨hal k0 h0,rfl⟩)⟩
  · rw[gu]at hl
    obtain⟨h1,h2,h3⟩:=h.unused l hl
    exact⟨fun h6=>h1 (hal l h6),fun t x ht=>by rw[gt]at ht;exact h2 t x ht,fun m e sz rows hm=>h3 m e sz rows (ha m e sz rows hm)⟩
end
def tyL (P:Program) (t:TypeId):Option (Bool×Nat):=
  match P.underlying t,P.info? t with
  |some d,some i=>some (d.isRow,i.size)
  |_,_=>none
def tyS (P:Program) (t:TypeId):Option (TypeId×Nat×Nat):=
  match P.underlying t with
  |some (.slice e)=>(P.info? e).map fun i=>(e,i.size,i.bytes)
  |_=>none
def tyF (P:Program) (t:TypeId) (f:Nat):Option (Nat×Bool×Nat):=
  match P.underlying t with
  |some (.struct fs)=>(fs[f]?).bind fun fd=>(tyL P fd.type).map fun x=>(fd.offset,x.1,x.2)
  |_=>none
def tyZ (P:Program) (t:TypeId):Option (List Value):=((P.info? t).bind (·.zero)).map (·.cells.toList)
theorem tyL_out {P:Program} {t:TypeId} {r:Bool} {m:Nat} (h:tyL P t=some (r,m)):∃d i,P.underlying t=some d∧P.info? t=some i∧d.isRow=r∧i.size=m:=by
  unfold tyL at h
  cases hu:P.underlying t with
  |none=>simp[hu]at h
  |some d=>
    cases hi:P.info? t with
    |none=>simp[hu,hi]at h
    |some i=>simp[hu,hi]at h;exact⟨d,i,rfl,rfl,h.1,h.2⟩
theorem tyS_out {P:Program} {t e:TypeId} {m by':Nat} (h:tyS P t=some (e,m,by')):P.underlying t=some (.slice e)∧∃i,P.info? e=some i∧i.size=m∧i.bytes=by':=by
  unfold tyS at h
  cases hu:P.underlying t with
  |none=>simp[hu]at h
  |some d=>
    cases d<;>simp[hu]at h
    case slice e'=>
      obtain⟨i,hi,rfl,h1,h2⟩:=h
      exact⟨rfl,i,hi,h1,h2⟩
theorem tyF_out {P:Program} {t:TypeId} {f off m:Nat} {r:Bool} (h:tyF P t f=some (off,r,m)):∃fs fd,P.underlying t=some (.struct fs)∧fs[f]?=some fd∧fd.offset=off∧tyL P fd.type=some (r,m):=by
  unfold tyF at h
  cases hu:P.underlying t with
  |none=>simp[hu]at h
  |some d=>
    cases d<;>simp only[hu,reduceCtorEq]at h
    case struct fs=>
      cases hf:fs[f]? with
      |none=>rw[hf]at h;cases h
      |some fd=>
        rw[hf]at h
        simp only[Option.bind_some]at h
        cases hl:tyL P fd.type with
        |none=>rw[hl]at h;cases h
        |some x=>
          rw[hl]at h
          simp only[Option.map_some,Option.some.injEq,Prod.mk.injEq]at h
          obtain⟨rfl,rfl,rfl⟩:=h
          exact⟨fs,fd,rfl,hf,rfl,hl⟩
theorem tyZ_out {P:Program} {t:TypeId} {zs:List Value} (h:tyZ P t=some zs):∃i z,P.info? t=some i∧i.zero=some z∧z.cells.toList=zs:=by
  unfold tyZ at h
  cases hi:P.info? t with
  |none=>simp[hi]at h
  |some i=>
    cases hz:i.zero with
    |none=>simp[hi,hz]at h
    |some z=>simp[hi,hz]at h;exact⟨i,z,rfl,hz,h⟩
section
variable {P : Program}
theorem run_isAgg {t:TypeId} {r:Bool} {m:Nat} (h:tyL P t=some (r,m)) (w:World):(isAgg t).run P w= .ok r w:=by
  obtain⟨d,i,hu,_,hr,_⟩:=tyL_out h
  unfold isAgg
  rw[Sem.run_bind,run_underlying hu w]
  cases d<;>simp_all
theorem run_sizeOf' {t:TypeId} {r:Bool} {m:Nat} (h:tyL P t=some (r,m)) (w:World):(sizeOf t).run P w= .ok m w:=by
  obtain⟨d,i,_,hi,_,hs⟩:=tyL_out h
  simp[sizeOf,typeInfo,hi,hs]
theorem run_sizeE {t e:TypeId} {m by':Nat} (h:tyS P t=some (e,m,by')) (w:World):(sizeOf e).run P w= .ok m w:=by
  obtain⟨_,i,hi,hs,_⟩:=tyS_out h
  simp[sizeOf,typeInfo,hi,hs]
theorem run_loadRow {t:TypeId} {m:Nat} (h:tyL P t=some (true,m)) (w:World) (b o:Nat) (us:List Value) (hl:us.length=m) (hc:∀(j:Nat) u,us[j]?=some u→w.cell? ⟨b,o+j,none⟩=some u):
    (Instr.loadAt t (.pointer (some ⟨b,o,none⟩))).run P w= .ok (.agg us.toArray) w:=by
  obtain⟨d,i,hu,hi,hr,hs⟩:=tyL_out h
  exact run_loadAt_mid w b o t us d hc hu hr (by rw[hi,Option.map_some,hs,hl])
theorem run_load1 {t:TypeId} {m:Nat} (h:tyL P t=some (false,m)) (w:World) (b o:Nat) (u:Value) (hc:w.cell? ⟨b,o,none⟩=some u):
    (Instr.loadAt t (.pointer (some ⟨b,o,none⟩))).run P w= .ok u w:=by
  simp[Instr.loadAt,Instr.sureAddr,loadVar,run_isAgg h,hc]
end
section
variable {P : Program} {n : Nat} {ops : Array Oper} {o : Oper} {σ : St} {d : Nat}
theorem St1.fresh (hg:o.guard=none) (hd:o.dst=some d) (hn:Nat.blt d n=true) {R:List Res} {x:V}
    (h:∀(E:Env) (bx:Nat→Nat×Nat) (τ:Res→RC) (a:Act) (w:World),(∀r∈R,τ r=lk σ r)→SR E bx τ a w→
      (∃v w',(execOp a.eval o).run P w= .ok (.value v) w'∧Below w.heap.size w w'∧Vr bx (Al τ) (fun b=>Bf E bx τ b∨w.heap.size≤b) w' x v)∧∀k∈x.refs,τ (.u k)≠ .no):
    St1 P n ops o σ R [.t d] ((.t d,.v x)::σ):=by
  refine⟨fun r hr=>lk_other _ _ _ _ (fun e=>hr (by rw[←e];simp)),fun E bx τ a w hE hR hs=>OW.plain hg fun Q=>?_⟩
  obtain⟨⟨v,w',hrun,hb,hv⟩,hu⟩:=h E bx τ a w hR hs
  unfold Oper.wp
  rw[hrun,Oper.upon_value,hd]
  refine⟨bx,?_⟩
  have e:ovr τ [.t d] ((.t d,.v x)::σ)=upd τ (.t d) (.v x):=by
    funext r
    by_cases hr:r= .t d
    ·subst hr;simp[ovr,upd,lk_same]
    ·simp[ovr,upd,hr]
  rw[e]
  refine(hs.world hb).put (by rw[hE];simpa using hn) (hv.to (Same.refl _ _) (fun b hb' hl=>?_) (fun k _ hk=>⟨hk,rfl⟩)) hu
  rcases hb' with h1|h1
  ·exact h1
  · refine⟨.inr (Nat.le_trans hs.hsize h1),fun k hk e=>?_⟩
    have:=hs.lt hk
    omega
section
variable {E : Env} {bx : Nat → Nat × Nat} {τ : Res → RC} {a : Act} {w : World} {x : Operand}
theorem ev_ptr {cells:List D} (h:ev σ x=some (.o (.c (.ptr cells)))) (hr:∀r∈rd x,τ r=lk σ r) (hs:SR E bx τ a w):
    ∃b off,a.eval x= .pointer (some ⟨b,off,none⟩)∧∀(j:Nat) y,cells[j]?=some y→∃u,Bf E bx τ b∧w.cell? ⟨b,off+j,none⟩=some u∧Dr (Bf E bx τ) w y u:=
  (ev_ok h hr hs).1
theorem ev_box {k sz i j:Nat} (h:ev σ x=some (.o (.c (.box k sz i j)))) (hr:∀r∈rd x,τ r=lk σ r) (hs:SR E bx τ a w) (hk:Al τ k):
    a.eval x= .pointer (some ⟨(bx k).1,i *sz+j,none⟩):=(ev_ok h hr hs).1.2 hk
theorem ev_own {k sz m:Nat} (h:ev σ x=some (.o (.c (.own k sz m)))) (hr:∀r∈rd x,τ r=lk σ r) (hs:SR E bx τ a w) (hk:Al τ k):
    ∃cap,a.eval x= .slice (some ⟨(bx k).1,0,none⟩) m cap∧m≤cap∧cap≤maxLen∧cap *sz=(bx k).2:=(ev_ok h hr hs).1.2 hk
theorem ev_list {sz:Nat} {rows:List (List D)} (h:ev σ x=some (.o (.c (.d (.list sz rows))))) (hr:∀r∈rd x,τ r=lk σ r) (hs:SR E bx τ a w):Dr (Bf E bx τ) w (.list sz rows) (a.eval x):=(ev_ok h hr hs).1
end
theorem Dr.slice {B:Nat→Prop} {w:World} {sz:Nat} {rows:List (List D)} {v:Value} (h:Dr B w (.list sz rows) v):∃ad cap,v= .slice ad rows.length cap∧rows.length≤cap∧rows.length≤17592186044416∧(ad=none→cap=0)∧
    (0<rows.length→∃b off,ad=some ⟨b,off,none⟩∧∀(i:Nat) r (j:Nat) x,rows[i]?=some r→r[j]?=some x→r.length=sz∧∃u,B b∧w.cell? ⟨b,off+(i *sz+j),none⟩=some u∧Dr B w x u):=by
  cases h with
  |list _ _ a n cap b off f hn h1 h2 h3 h4 h5 h6 h7=>
    subst hn
    exact⟨a,cap,rfl,h1,h2,h3,fun h0=>⟨b,off,h4 h0,fun i r j x hr hx=>⟨h5 i r hr,f i j,(h6 i r j x hr hx).1,(h6 i r j x hr hx).2,h7 i r j x hr hx⟩⟩⟩
/-! #### load -/
theorem St1.loadP1 {t:TypeId} {x:Operand} {m:Nat} {c:D} {rest:List D} (ho:o.op= .load t x) (hg:o.guard=none) (hd:o.dst=some d) (hn:Nat.blt d n=true) (ht:tyL P t=some (false,m)) (hx:ev σ x=some (.o (.c (.ptr (c::rest))))):
    St1 P n ops o σ (rd x) [.t d] ((.t d,.v (.o (.c (.d c))))::σ):=
  St1.value hg hd hn fun E bx τ a w hR hs=>by
    obtain⟨b,off,e,h⟩:=ev_ptr hx hR hs
    obtain⟨u,_,h1,h2⟩:=h 0 c rfl
    exact⟨⟨u,by simp only[execOp,ho,e,Sem.run_bind,run_load1 ht w b off u h1];rfl,h2⟩,fun k hk=>by cases hk⟩
theorem St1.loadPN {t:TypeId} {x:Operand} {m:Nat} {cells:List D} (ho:o.op= .load t x) (hg:o.guard=none) (hd:o.dst=some d) (hn:Nat.blt d n=true) (ht:tyL P t=some (true,m)) (hx:ev σ x=some (.o (.c (.ptr cells)))) (hm:Nat.ble m cells.length=true):
    St1 P n ops o σ (rd x) [.t d] ((.t d,.v (.o (ad (cells.take m))))::σ):=
  St1.value hg hd hn fun E bx τ a w hR hs=>by
    obtain⟨b,off,e,h⟩:=ev_ptr hx hR hs
    have hm':m≤cells.length:=by simpa using hm
    have hex:∀j:Fin m,∃u,w.cell? ⟨b,off+j,none⟩=some u∧Dr (Bf E bx τ) w (cells[j]'(by omega)) u:=fun j=>by
      obtain⟨u,_,h1,h2⟩:=h j _ (List.getElem?_eq_getElem (by omega))
      exact⟨u,h1,h2⟩
    have hf:=fun j=>Classical.choose_spec (hex j)
    have hlen:(List.ofFn fun j=>Classical.choose (hex j)).length=m:=List.length_ofFn
    refine⟨⟨_,by simp only[execOp,ho,e,Sem.run_bind,run_loadRow ht w b off (List.ofFn fun j=>Classical.choose (hex j)) hlen (fun j u hu=>by
      have hj:j<m:=by rw[←hlen];exact(List.getElem?_eq_some_iff.1 hu).1
      rw[List.getElem?_eq_getElem (by rw[hlen];exact hj),List.getElem_ofFn]at hu
      cases hu
      exact(hf ⟨j,hj⟩).1)];rfl,?_⟩,fun k hk=>by rw[V.refs,refs_ad]at hk;cases hk⟩
    refine⟨_,rfl,by simp;omega,fun i c u hc hu=>?_⟩
    have hi:i<m:=by rw[←hlen];exact(List.getElem?_eq_some_iff.1 hu).1
    rw[List.getElem?_eq_getElem (by rw[hlen];exact hi),List.getElem_ofFn]at hu
    rw[List.getElem?_map,List.getElem?_take,if_pos hi,List.getElem?_eq_getElem (by omega)]at hc
    cases hu;cases hc
    exact(hf ⟨i,hi⟩).2
theorem Al_of {k:Nat} {e:TypeId} {sz:Nat} {rows:List (List C)} {τ:Res→RC} (h:τ (.b k)= .b e sz rows):Al τ k:=⟨e,sz,rows,h⟩
theorem St1.loadB1 {t:TypeId} {x:Operand} {m k sz sz' i j:Nat} {e:TypeId} {rows:List (List C)} {r:List C} {c:C} (ho:o.op= .load t x) (hg:o.guard=none) (hd:o.dst=some d) (hn:Nat.blt d n=true) (ht:tyL P t=some (false,m))
    (hx:ev σ x=some (.o (.c (.box k sz i j)))) (hb:lk σ (.b k)= .b e sz' rows) (hsz:sz'=sz) (hi:rows[i]?=some r) (hj:r[j]?=some c):St1 P n ops o σ (rd x++[.b k]) [.t d] ((.t d,.v (.o (.c c)))::σ):=
  St1.value hg hd hn fun E bx τ a w hR hs=>by
    subst hsz
    have hk:τ (.b k)= .b e sz' rows:=(rd_r hR _ (by simp)).trans hb
    obtain⟨cur,h1,h2,h3,h4,h5⟩:=hs.box k e sz' rows hk
    obtain⟨u,h6,h7⟩:=h5 i r j c hi hj
    refine⟨⟨u,by simp only[execOp,ho,ev_box hx (rd_l hR) hs (Al_of hk),Sem.run_bind,run_load1 ht w _ _ u (by rw[cell_of_row w _ _ _ _ _ h1];exact h6)];rfl,h7⟩,fun l hl hu=>(hs.unused l hu).2.2 k e sz' rows hk r (List.mem_of_getElem? hi) c (List.mem_of_getElem? hj) hl⟩
theorem St1.loadBN {t:TypeId} {x:Operand} {m k sz sz' i j:Nat} {e:TypeId} {rows:List (List C)} {r:List C} (ho:o.op= .load t x) (hg:o.guard=none) (hd:o.dst=some d) (hn:Nat.blt d n=true) (ht:tyL P t=some (true,m))
    (hx:ev σ x=some (.o (.c (.box k sz i j)))) (hb:lk σ (.b k)= .b e sz' rows) (hsz:sz'=sz) (hi:rows[i]?=some r) (hj:Nat.ble (j+m) r.length=true):St1 P n ops o σ (rd x++[.b k]) [.t d] ((.t d,.v (.o (.agg ((r.drop j).take m))))::σ):=
  St1.value hg hd hn fun E bx τ a w hR hs=>by
    subst hsz
    have hk:τ (.b k)= .b e sz' rows:=(rd_r hR _ (by simp)).trans hb
    have hj':j+m≤r.length:=by simpa using hj
    obtain⟨cur,h1,h2,h3,h4,h5⟩:=hs.box k e sz' rows hk
    have hex:∀l:Fin m,∃u,w.cell? ⟨(bx k).1,i *sz'+j+l,none⟩=some u∧Cr bx (Al τ) (Bf E bx τ) w (r[j+l]'(by omega)) u:=fun l=>by
      obtain⟨u,h6,h7⟩:=h5 i r (j+l) _ hi (List.getElem?_eq_getElem (by omega))
      exact⟨u,by rw[cell_of_row w _ _ _ _ _ h1,Nat.add_assoc];exact h6,h7⟩
    have hf:=fun j=>Classical.choose_spec (hex j)
    have hlen:(List.ofFn fun j=>Classical.choose (hex j)).length=m:=List.length_ofFn
    refine⟨⟨_,by simp only[execOp,ho,ev_box hx (rd_l hR) hs (Al_of hk),Sem.run_bind,run_loadRow ht w _ _ (List.ofFn fun j=>Classical.choose (hex j)) hlen (fun j u hu=>by
      have hj:j<m:=by rw[←hlen];exact(List.getElem?_eq_some_iff.1 hu).1
      rw[List.getElem?_eq_getElem (by rw[hlen];exact hj),List.getElem_ofFn]at hu
      cases hu
      exact(hf ⟨j,hj⟩).1)];rfl,?_⟩,fun l hl hu=>?_⟩
    · refine⟨_,rfl,by simp;omega,fun l c u hc hu=>?_⟩
      have hi:l<m:=by rw[←hlen];exact(List.getElem?_eq_some_iff.1 hu).1
      rw[List.getElem?_eq_getElem (by rw[hlen];exact hi),List.getElem_ofFn]at hu
      rw[List.getElem?_take,if_pos hi,List.getElem?_drop,List.getElem?_eq_getElem (by omega)]at hc
      cases hu;cases hc
      exact(hf ⟨l,hi⟩).2
    · obtain⟨c,hc,hl⟩:=List.mem_flatMap.1 hl
      exact(hs.unused l hu).2.2 k e sz' rows hk r (List.mem_of_getElem? hi) c (List.mem_of_mem_drop (List.mem_of_mem_take hc)) hl
/-! #### addresses -/
theorem run_fieldAt {t:TypeId} {f off m:Nat} {r:Bool} (h:tyF P t f=some (off,r,m+1)) (w:World) (b p:Nat):(Instr.fieldAt t (.pointer (some ⟨b,p,none⟩)) f).run P w= .ok (.pointer (some ⟨b,p+off,none⟩)) w:=by
  obtain⟨fs,fd,hu,hf,rfl,hl⟩:=tyF_out h
  simp[Instr.fieldAt,run_underlying hu,hf,Instr.sureAddr,fieldPlace,run_sizeOf' hl,Addr.add_mid]
theorem St1.fieldP {t:TypeId} {x:Operand} {f off m:Nat} {r:Bool} {cells:List D} (ho:o.op= .fieldAddr t x f) (hg:o.guard=none) (hd:o.dst=some d) (hn:Nat.blt d n=true) (ht:tyF P t f=some (off,r,m+1)) (hx:ev σ x=some (.o (.c (.ptr cells)))):
    St1 P n ops o σ (rd x) [.t d] ((.t d,.v (.o (.c (.ptr (cells.drop off)))))::σ):=
  St1.value hg hd hn fun E bx τ a w hR hs=>by
    obtain⟨b,p,e,h⟩:=ev_ptr hx hR hs
    refine⟨⟨_,by simp only[execOp,ho,e,Sem.run_bind,run_fieldAt ht w b p];rfl,b,p+off,rfl,fun j y hy=>?_⟩,fun k hk=>by cases hk⟩
    rw[List.getElem?_drop]at hy
    obtain⟨u,h1,h2,h3⟩:=h _ y hy
    exact⟨u,h1,by rw[Nat.add_assoc];exact h2,h3⟩
theorem St1.fieldB {t:TypeId} {x:Operand} {f off m k sz i j:Nat} {r:Bool} {e:TypeId} {sz':Nat} {rows:List (List C)} (ho:o.op= .fieldAddr t x f) (hg:o.guard=none) (hd:o.dst=some d) (hn:Nat.blt d n=true) (ht:tyF P t f=some (off,r,m+1))
    (hx:ev σ x=some (.o (.c (.box k sz i j)))) (hb:lk σ (.b k)= .b e sz' rows):St1 P n ops o σ (rd x++[.b k]) [.t d] ((.t d,.v (.o (.c (.box k sz i (j+off)))))::σ):=
  St1.value hg hd hn fun E bx τ a w hR hs=>by
    have hk:τ (.b k)= .b e sz' rows:=(rd_r hR _ (by simp)).trans hb
    refine⟨⟨_,by simp only[execOp,ho,ev_box hx (rd_l hR) hs (Al_of hk),Sem.run_bind,run_fieldAt ht w];rfl,rfl,fun _=>by rw[Nat.add_assoc]⟩,fun l hl hu=>?_⟩
    have:=(ev_ok hx (rd_l hR) hs).2 l hl
    exact this hu
theorem run_indexAt' {t e:TypeId} {sz by':Nat} (h:tyS P t=some (e,sz,by')) (w:World) (b p m cap:Nat) (i:Nat) (hi:i<m):(Instr.indexAt t (.slice (some ⟨b,p,none⟩) m cap) (.int .i64 i)).run P w= .ok (.pointer (some ⟨b,p+i *sz,none⟩)) w:=by
  obtain⟨hu,_⟩:=tyS_out h
  have h2:(0≤(i:Int)∧(i:Int)<(m:Int)):=by omega
  simp only[Instr.indexAt,Sem.run_bind,run_underlying hu,asIntOf,Sem.run_pure,Result.andThen_ok,Sem.run_ite,if_pos h2,run_sizeE h,Addr.add_mid,Int.toNat_natCast]
theorem St1.indexL {t e:TypeId} {x y:Operand} {sz sz' by' i:Nat} {rows:List (List D)} {r:List D} {z:Int} (ho:o.op= .indexAddr t x y) (hg:o.guard=none) (hd:o.dst=some d) (hn:Nat.blt d n=true) (ht:tyS P t=some (e,sz,by'))
    (hx:ev σ x=some (.o (.c (.d (.list sz' rows))))) (hsz:sz'=sz) (hy:ev σ y=some (.o (nat1 z))) (hz:z=(i:Int)) (hi:rows[i]?=some r):St1 P n ops o σ (rd x++rd y) [.t d] ((.t d,.v (.o (.c (.ptr r))))::σ):=
  St1.value hg hd hn fun E bx τ a w hR hs=>by
    subst hsz hz
    obtain⟨ad,cap,e1,h1,h2,h3,h4⟩:=(ev_list hx (rd_l hR) hs).slice
    have hl:i<rows.length:=(List.getElem?_eq_some_iff.1 hi).1
    obtain⟨b,off,rfl,h5⟩:=h4 (by omega)
    refine⟨⟨_,by simp only[execOp,ho,e1,ev_val hy (rd_r hR) hs,Sem.run_bind,run_indexAt' ht w b off _ cap i hl];rfl,b,off+i *sz',rfl,fun j x hx=>?_⟩,fun k hk=>by cases hk⟩
    obtain⟨_,u,h6,h7,h8⟩:=h5 i r j x hi hx
    exact⟨u,h6,by rw[Nat.add_assoc];exact h7,h8⟩
theorem St1.indexB {t e e':TypeId} {x y:Operand} {sz sz' sz2 by' i k m:Nat} {rows:List (List C)} {z:Int} (ho:o.op= .indexAddr t x y) (hg:o.guard=none) (hd:o.dst=some d) (hn:Nat.blt d n=true) (ht:tyS P t=some (e,sz,by'))
    (hx:ev σ x=some (.o (.c (.own k sz' m)))) (hsz:sz'=sz) (hb:lk σ (.b k)= .b e' sz2 rows) (hy:ev σ y=some (.o (nat1 z))) (hz:z=(i:Int)) (hi:i<m):St1 P n ops o σ ((rd x++rd y)++[.b k]) [.t d] ((.t d,.v (.o (.c (.box k sz' i 0))))::σ):=
  St1.value hg hd hn fun E bx τ a w hR hs=>by
    subst hsz hz
    have hk:τ (.b k)= .b e' sz2 rows:=(rd_r hR _ (by simp)).trans hb
    obtain⟨cap,e1,h1,h2,h3⟩:=ev_own hx (rd_l (rd_l hR)) hs (Al_of hk)
    refine⟨⟨_,by simp only[execOp,ho,e1,ev_val hy (rd_r (rd_l hR)) hs,Sem.run_bind,run_indexAt' ht w _ _ _ cap i hi];rfl,rfl,fun _=>by rw[Nat.zero_add];rfl⟩,fun l hl hu=>?_⟩
    exact(ev_ok hx (rd_l (rd_l hR)) hs).2 l hl hu
theorem St1.nilB {x:Operand} {k sz i j:Nat} {e:TypeId} {sz':Nat} {rows:List (List C)} (ho:o.op= .nilCheck x) (hg:o.guard=none) (hd:o.dst=some d) (hn:Nat.blt d n=true) (hx:ev σ x=some (.o (.c (.box k sz i j)))) (hb:lk σ (.b k)= .b e sz' rows):
    St1 P n ops o σ (rd x++[.b k]) [.t d] ((.t d,.v (.o (.c (.box k sz i j))))::σ):=
  St1.value hg hd hn fun E bx τ a w hR hs=>by
    have hk:τ (.b k)= .b e sz' rows:=(rd_r hR _ (by simp)).trans hb
    exact⟨⟨_,by simp only[execOp,ho,ev_box hx (rd_l hR) hs (Al_of hk)];rfl,rfl,fun _=>rfl⟩,fun l hl hu=>(ev_ok hx (rd_l hR) hs).2 l hl hu⟩
/-! #### len, slices, fields, tuples -/
section
variable {t ty : TypeId} {x : Operand}
theorem St1.lenL {e:TypeId} {m by' sz l:Nat} {rows:List (List D)} {ts:Array TypeId} (ho:o.op= .call {callee:=.builtin .len,args:=#[x],argTypes:=ts}) (hg:o.guard=none) (hd:o.dst=some d) (hn:Nat.blt d n=true) (hts:ts=#[t]) (ht:tyS P t=some (e,m,by')) (hx:ev σ x=some (.o (.c (.d (.list sz rows))))) (hl:rows.length=l):
    St1 P n ops o σ (rd x) [.t d] ((.t d,.v (.o (nat1 (l:Nat))))::σ):=
  St1.value hg hd hn fun E bx τ a w hR hs=>by
    subst hts hl
    obtain⟨ad,cap,e1,_⟩:=(ev_list hx hR hs).slice
    obtain⟨hu,_⟩:=tyS_out ht
    exact⟨⟨_,by simp[execOp,ho,resolve,invoke,builtin,e1,Builtin.len_,run_underlying hu,goInt],.val _ rfl⟩,fun k hk=>by cases hk⟩
theorem St1.lenB {e e':TypeId} {m by' sz sz' k l:Nat} {rows:List (List C)} {ts:Array TypeId} (ho:o.op= .call {callee:=.builtin .len,args:=#[x],argTypes:=ts}) (hg:o.guard=none) (hd:o.dst=some d) (hn:Nat.blt d n=true) (hts:ts=#[t]) (ht:tyS P t=some (e,m,by')) (hx:ev σ x=some (.o (.c (.own k sz l)))) (hb:lk σ (.b k)= .b e' sz' rows):
    St1 P n ops o σ (rd x++[.b k]) [.t d] ((.t d,.v (.o (nat1 (l:Nat))))::σ):=
  St1.value hg hd hn fun E bx τ a w hR hs=>by
    subst hts
    have hk:τ (.b k)= .b e' sz' rows:=(rd_r hR _ (by simp)).trans hb
    obtain⟨cap,e1,_⟩:=ev_own hx (rd_l hR) hs (Al_of hk)
    obtain⟨hu,_⟩:=tyS_out ht
    exact⟨⟨_,by simp[execOp,ho,resolve,invoke,builtin,e1,Builtin.len_,run_underlying hu,goInt],.val _ rfl⟩,fun k hk=>by cases hk⟩
theorem St1.lenN {e:TypeId} {m by' l c:Nat} {ts:Array TypeId} {ad:Option Addr} (ho:o.op= .call {callee:=.builtin .len,args:=#[x],argTypes:=ts}) (hg:o.guard=none) (hd:o.dst=some d) (hn:Nat.blt d n=true) (hts:ts=#[t]) (ht:tyS P t=some (e,m,by')) (hx:ev σ x=some (.o (.c (.d (.val (.slice ad l c)))))):
    St1 P n ops o σ (rd x) [.t d] ((.t d,.v (.o (nat1 (l:Nat))))::σ):=
  St1.value hg hd hn fun E bx τ a w hR hs=>by
    subst hts
    obtain⟨hu,_⟩:=tyS_out ht
    exact⟨⟨_,by simp[execOp,ho,resolve,invoke,builtin,ev_val hx hR hs,Builtin.len_,run_underlying hu,goInt],.val _ rfl⟩,fun k hk=>by cases hk⟩
theorem St1.lenS {s:ByteArray} {ts:Array TypeId} (ho:o.op= .call {callee:=.builtin .len,args:=#[x],argTypes:=ts}) (hg:o.guard=none) (hd:o.dst=some d) (hn:Nat.blt d n=true) (hts:ts=#[t]) (ht:P.underlying t=some .string) (hx:ev σ x=some (.o (st1 s))):
    St1 P n ops o σ (rd x) [.t d] ((.t d,.v (.o (nat1 (s.size:Nat))))::σ):=
  St1.value hg hd hn fun E bx τ a w hR hs=>by
    subst hts
    exact⟨⟨_,by simp[execOp,ho,resolve,invoke,builtin,ev_val hx hR hs,Builtin.len_,run_underlying ht,goInt],.val _ rfl⟩,fun k hk=>by cases hk⟩
theorem St1.extract {i:Nat} {xs:List V1} {y:V1} (ho:o.op= .extract x i) (hg:o.guard=none) (hd:o.dst=some d) (hn:Nat.blt d n=true) (hx:ev σ x=some (.tup xs)) (hi:xs[i]?=some y):St1 P n ops o σ (rd x) [.t d] ((.t d,.v (.o y))::σ):=
  St1.value hg hd hn fun E bx τ a w hR hs=>by
    obtain⟨⟨vs,e,hl,h⟩,hu⟩:=ev_ok hx hR hs
    have hil:i<xs.length:=(List.getElem?_eq_some_iff.1 hi).1
    have hv:vs[i]?=some (vs[i]'(by omega)):=List.getElem?_eq_getElem (by omega)
    refine⟨⟨vs[i]'(by omega),by simp[execOp,ho,e,Instr.extract,hv],h i y _ hi hv⟩,fun k hk=>hu k (List.mem_flatMap.2 ⟨y,List.mem_of_getElem? hi,hk⟩)⟩
theorem St1.field1 {f off m:Nat} {cs:List C} {c:C} (ho:o.op= .field t x f) (hg:o.guard=none) (hd:o.dst=some d) (hn:Nat.blt d n=true) (ht:tyF P t f=some (off,false,m)) (hx:ev σ x=some (.o (.agg cs))) (hc:cs[off]?=some c):St1 P n ops o σ (rd x) [.t d] ((.t d,.v (.o (.c c)))::σ):=
  St1.value hg hd hn fun E bx τ a w hR hs=>by
    obtain⟨⟨vs,e,hl,h⟩,hu⟩:=ev_ok hx hR hs
    obtain⟨fs,fd,hund,hf,rfl,hty⟩:=tyF_out ht
    have hil:fd.offset<cs.length:=(List.getElem?_eq_some_iff.1 hc).1
    have hv:vs[fd.offset]?=some (vs[fd.offset]'(by omega)):=List.getElem?_eq_getElem (by omega)
    refine⟨⟨vs[fd.offset]'(by omega),by simp[execOp,ho,e,Instr.field,run_underlying hund,hf,asAgg,part,run_isAgg hty,hv],h _ c _ hc hv⟩,fun k hk=>hu k (List.mem_flatMap.2 ⟨c,List.mem_of_getElem? hc,hk⟩)⟩
end
end
def V1.cells:V1→List C
  | .c x=>[x]
  | .agg cs=>cs
def C.dat:C→Option D
  | .d x=>some x
  |_=>none
def datL:List C→Option (List D)
  |[]=>some []
  |c::cs=>match c.dat with
    |some x=>match datL cs with
      |some xs=>some (x::xs)
      |none=>none
    |none=>none
theorem datL_ok:∀ {cs:List C} {ds:List D},datL cs=some ds→cs=ds.map C.d
  |[],ds,h=>by cases h;rfl
  |c::cs,ds,h=>by
    unfold datL at h
    cases c<;>simp only[C.dat,reduceCtorEq]at h
    case d x=>
      cases hx:datL cs with
      |none=>rw[hx]at h;cases h
      |some xs=>
        rw[hx]at h
        cases h
        rw[datL_ok hx]
        rfl
def Cells (R:C→Value→Prop) (cs:List C) (vs:List Value):Prop:=vs.length=cs.length∧∀(i:Nat) c u,cs[i]?=some c→vs[i]?=some u→R c u
theorem V1r.cells {bx:Nat→Nat×Nat} {al B:Nat→Prop} {w:World} {x:V1} {v:Value} (h:V1r bx al B w x v):Cells (Cr bx al B w) x.cells v.cells.toList:=by
  cases x with
  |c c=>
    have h1:v.cells=#[v]:=by
      have:=Cr.one h
      cases v<;>first|rfl|cases this
    rw[h1]
    refine⟨rfl,fun i c' u hc hu=>?_⟩
    cases i with
    |zero=>
      simp only[V1.cells,List.getElem?_cons_zero,Option.some.injEq]at hc hu
      subst hc hu
      exact h
    |succ i=>simp[V1.cells]at hc
  |agg cs=>
    obtain⟨vs,rfl,hl,h⟩:=h
    exact⟨hl,h⟩
theorem Cells.one {bx:Nat→Nat×Nat} {al B:Nat→Prop} {w:World} {cs:List C} {vs:List Value} (h:Cells (Cr bx al B w) cs vs):∀u∈vs,u.oneCell'=true:=by
  intro u hu
  obtain⟨i,hi⟩:=List.mem_iff_getElem?.1 hu
  have hl:i<vs.length:=(List.getElem?_eq_some_iff.1 hi).1
  exact Cr.one (h.2 i _ u (List.getElem?_eq_getElem (by rw[←h.1];exact hl)) hi)
theorem Cells.dat {bx:Nat→Nat×Nat} {al B:Nat→Prop} {w:World} {ds:List D} {vs:List Value} (h:Cells (Cr bx al B w) (ds.map C.d) vs) {i:Nat} {x:D} (hx:ds[i]?=some x):∃u,vs[i]?=some u∧Dr B w x u:=by
  have hl:i<ds.length:=(List.getElem?_eq_some_iff.1 hx).1
  have hv:i<vs.length:=by rw[h.1,List.length_map];exact hl
  exact⟨vs[i],List.getElem?_eq_getElem hv,h.2 i (.d x) _ (by rw[List.getElem?_map,hx];rfl) (List.getElem?_eq_getElem hv)⟩
def place1 (cs:List C) (off:Nat) (v:List C):List C:=cs.take off++(v++cs.drop (off+v.length))
def fillA (pl:Nat→Option (Nat×Nat)):List C→List (Nat×V1)→Option (List C)
  |cs,[]=>some cs
  |cs,(i,v)::rest=>match pl i with
    |none=>none
    |some (off,size)=>match Nat.beq v.cells.length size&&Nat.ble (off+size) cs.length with
      |true=>fillA pl (place1 cs off v.cells) rest
      |false=>none
theorem place1_get (cs:List C) (off:Nat) (v:List C) (h:off+v.length≤cs.length) (k:Nat):(place1 cs off v)[k]?=if off≤k∧k<off+v.length then v[k -off]? else cs[k]?:=by
  have hl:(cs.take off).length=off:=by rw[List.length_take];omega
  unfold place1
  by_cases h1:k<off
  ·rw[List.getElem?_append_left (by omega),List.getElem?_take,if_pos h1,if_neg (by omega)]
  · rw[List.getElem?_append_right (by omega),hl]
    by_cases h2:k<off+v.length
    ·rw[List.getElem?_append_left (by omega),if_pos (by omega)]
    · rw[List.getElem?_append_right (by omega),List.getElem?_drop,if_neg (by omega)]
      congr 1;omega
theorem place1_len (cs:List C) (off:Nat) (v:List C) (h:off+v.length≤cs.length):(place1 cs off v).length=cs.length:=by
  unfold place1
  rw[List.length_append,List.length_append,List.length_take,List.length_drop];omega
theorem place1_mem {cs:List C} {off:Nat} {v:List C} {c:C} (h:c∈place1 cs off v):c∈cs∨c∈v:=by
  unfold place1 at h
  rw[List.mem_append,List.mem_append]at h
  rcases h with h|h|h
  ·exact .inl (List.mem_of_mem_take h)
  ·exact .inr h
  ·exact .inl (List.mem_of_mem_drop h)
def Parts (R:V1→Value→Prop):List (Nat×V1)→List (Nat×Value)→Prop
  |[],[]=>True
  |(i,x)::xs,(j,v)::vs=>i=j∧R x v∧Parts R xs vs
  |_,_=>False
theorem fillA_ok {bx:Nat→Nat×Nat} {al B:Nat→Prop} {w:World} {pl:Nat→Option (Nat×Nat)}:∀ {ps:List (Nat×V1)} {parts:List (Nat×Value)} {cs cs':List C} {cells:Array Value},
    fillA pl cs ps=some cs'→Parts (V1r bx al B w) ps parts→Cells (Cr bx al B w) cs cells.toList→∃cells',Instr.fill pl cells parts=some cells'∧Cells (Cr bx al B w) cs' cells'.toList∧∀c∈cs',c∈cs∨∃p∈ps,c∈p.2.cells
  |[],[],cs,cs',cells,h,_,hc=>by
    cases h
    exact⟨cells,rfl,hc,fun c h=>.inl h⟩
  |[],_::_,_,_,_,_,hp,_=>hp.elim
  |_::_,[],_,_,_,_,hp,_=>by cases hp
  |(i,x)::ps,(j,v)::parts,cs,cs',cells,h,hp,hc=>by
    obtain⟨rfl,hx,hp⟩:=hp
    have hxc:=hx.cells
    unfold fillA at h
    unfold Instr.fill
    cases hpl:pl i with
    |none=>rw[hpl]at h;cases h
    |some q=>
      obtain⟨off,size⟩:=q
      rw[hpl]at h
      simp only at h
      split at h
      · rename_i hb
        rw[Bool.and_eq_true]at hb
        have hb1:=Nat.eq_of_beq_eq_true hb.1
        have hb2:=Nat.le_of_ble_eq_true hb.2
        have hvs:v.cells.size=size:=by have:=hxc.1;simp only[Array.length_toList]at this;omega
        have hcz:cells.size=cs.length:=by have:=hc.1;simpa using this
        obtain⟨g1,g2⟩:=Great.foldl_set off v.cells.toList 0 cells
        have hz:(v.cells.zipIdx.foldl (fun cs (x:Value×Nat)=>cs.setIfInBounds (off+x.2) x.1) cells)=(v.cells.toList.zipIdx 0).foldl (fun cs (x:Value×Nat)=>cs.setIfInBounds (off+x.2) x.1) cells:=by
          rw[←Array.foldl_toList]
          simp
        have hcells:Cells (Cr bx al B w) (place1 cs off x.cells) ((v.cells.toList.zipIdx 0).foldl (fun cs (x:Value×Nat)=>cs.setIfInBounds (off+x.2) x.1) cells).toList:=by
          refine⟨by rw[Array.length_toList,g1,place1_len _ _ _ (by omega)];exact hcz,fun k c u hk hu=>?_⟩
          rw[Array.getElem?_toList,g2 k]at hu
          rw[place1_get _ _ _ (by omega)]at hk
          by_cases hin:off≤k∧k<off+x.cells.length
          · rw[if_pos hin]at hk
            rw[if_pos ⟨by omega,by rw[hxc.1];omega,by omega⟩]at hu
            simp only[Nat.add_zero]at hu
            exact hxc.2 _ c u hk hu
          · rw[if_neg hin]at hk
            rw[if_neg (by rw[hxc.1];omega)]at hu
            exact hc.2 k c u hk (by rw[Array.getElem?_toList];exact hu)
        obtain⟨cells',h1,h2,h3⟩:=fillA_ok h hp hcells
        refine⟨cells',?_,h2,fun c hc'=>?_⟩
        · simp only[hvs]
          rw[if_neg (by simp;omega)]
          rw[←h1]
          exact congrArg (fun z=>Instr.fill pl z parts) hz
        · rcases h3 c hc' with h4|⟨p,hp,h4⟩
          · rcases place1_mem h4 with h5|h5
            ·exact .inl h5
            ·exact .inr ⟨_,List.mem_cons_self,h5⟩
          ·exact .inr ⟨p,List.mem_cons_of_mem _ hp,h4⟩
      ·cases h
def evP (σ:St):List (Nat×Operand)→Option (List (Nat×V1))
  |[]=>some []
  |(i,x)::l=>match ev σ x with
    |some (.o v)=>match evP σ l with
      |some r=>some ((i,v)::r)
      |none=>none
    |_=>none
def rdP:List (Nat×Operand)→List Res
  |[]=>[]
  |(_,x)::l=>rd x++rdP l
section
variable {E : Env} {bx : Nat → Nat × Nat} {τ : Res → RC} {a : Act} {w : World} {σ : St}
theorem evP_ok:∀ {l:List (Nat×Operand)} {ps:List (Nat×V1)},evP σ l=some ps→(∀r∈rdP l,τ r=lk σ r)→SR E bx τ a w→
    Parts (V1r bx (Al τ) (Bf E bx τ) w) ps (l.map fun p=>(p.1,a.eval p.2))∧∀p∈ps,∀k∈p.2.refs,τ (.u k)≠ .no
  |[],ps,h,_,_=>by cases h;exact⟨trivial,fun p hp=>by cases hp⟩
  |(i,x)::l,ps,h,hr,hs=>by
    unfold evP at h
    split at h
    · rename_i v hv
      split at h
      · rename_i r hrr
        cases h
        obtain⟨h1,h2⟩:=evP_ok hrr (rd_r hr) hs
        obtain⟨h3,h4⟩:=ev_ok hv (rd_l hr) hs
        exact⟨⟨rfl,h3,h1⟩,fun p hp=>by
          rcases List.mem_cons.1 hp with rfl|hp
          ·exact h4
          ·exact h2 p hp⟩
      ·cases h
    ·cases h
theorem V1.refs_cells {x:V1} {c:C} (h:c∈x.cells):∀k∈c.refs,k∈x.refs:=by
  intro k hk
  cases x with
  |c y=>simp only[V1.cells,List.mem_singleton]at h;subst h;exact hk
  |agg cs=>exact List.mem_flatMap.2 ⟨c,h,hk⟩
end
section
variable {P : Program} {n : Nat} {ops : Array Oper} {o : Oper} {σ : St} {d : Nat}
def tyB (P:Program) (t:TypeId):Option (List (Nat×Nat)×List Value):=
  match P.info? t,P.underlying t with
  |some it,some (.struct fields)=>match it.zero,fields.toList.mapM (fun f=>(P.info? f.type).map fun i=>(f.offset,i.size))with
    |some z,some places=>some (places,z.cells.toList)
    |_,_=>none
  |_,_=>none
theorem tyB_built {t:TypeId} {places:List (Nat×Nat)} {zs:List Value} (h:tyB P t=some (places,zs)) (parts:List (Nat×Value)):P.built t parts=Instr.fill (places[·]?) zs.toArray parts:=by
  unfold tyB at h
  unfold Program.built
  cases hi:P.info? t with
  |none=>simp[hi]at h
  |some it=>
    cases hu:P.underlying t with
    |none=>simp[hi,hu]at h
    |some dd=>
      cases dd<;>simp only[hi,hu,reduceCtorEq]at h
      case struct fields=>
        cases hz:it.zero with
        |none=>simp[hz]at h
        |some z=>
          cases hm:fields.toList.mapM (fun f=>(P.info? f.type).map fun i=>(f.offset,i.size))with
          |none=>rw[hz,hm]at h;cases h
          |some pl=>
            rw[hz,hm]at h
            cases h
            simp only[hz,hm]
            congr 1
            funext i
            simp
theorem zeros_cells {bx:Nat→Nat×Nat} {al B:Nat→Prop} {w:World} {zs:List Value} (h:zs.all (·.oneCell')=true):Cells (Cr bx al B w) (zs.map fun z=>C.d (.val z)) zs:=by
  refine⟨by simp,fun i c u hc hu=>?_⟩
  rw[List.getElem?_map,hu]at hc
  cases hc
  exact Dr.val u (List.all_eq_true.1 h u (List.mem_of_getElem? hu))
theorem St1.build {t:TypeId} {parts:Array (Nat×Operand)} {pl:List (Nat×Operand)} {places:List (Nat×Nat)} {zs:List Value} {ps:List (Nat×V1)} {cs:List C} (ho:o.op= .build t parts) (hg:o.guard=none) (hd:o.dst=some d) (hn:Nat.blt d n=true) (hpl:parts=pl.toArray)
    (ht:tyB P t=some (places,zs)) (hz:zs.all (·.oneCell')=true) (hp:evP σ pl=some ps) (hf:fillA (places[·]?) (zs.map fun z=>C.d (.val z)) ps=some cs):St1 P n ops o σ (rdP pl) [.t d] ((.t d,.v (.o (.agg cs)))::σ):=
  St1.value hg hd hn fun E bx τ a w hR hs=>by
    subst hpl
    obtain⟨h1,h2⟩:=evP_ok hp hR hs
    obtain⟨cells',h3,h4,h5⟩:=fillA_ok (bx:=bx) (al:=Al τ) (B:=Bf E bx τ) (w:=w) (cells:=zs.toArray) hf h1 (zeros_cells hz)
    refine⟨⟨.agg cells',?_,cells'.toList,by simp,h4.1,h4.2⟩,fun k hk=>?_⟩
    · have:=run_build (P:=P) w t (pl.toArray.map fun p=>(p.1,a.eval p.2)) cells' (by rw[tyB_built ht];simpa using h3)
      simp only[execOp,ho,Sem.run_bind]
      rw[this];rfl
    · obtain⟨c,hc,hk⟩:=List.mem_flatMap.1 hk
      rcases h5 c hc with h6|⟨p,hp,h6⟩
      · obtain⟨z,_,rfl⟩:=List.mem_map.1 h6
        cases hk
      ·exact h2 p hp k (V1.refs_cells h6 k hk)
def okk (k k':Nat):Bool:=(Nat.ble 100 k&&Nat.ble k 999)||Nat.ble 1000 k'
theorem okk_iff {k k':Nat} (h:okk k k'=true):(100≤k∧k<1000)∨1000≤k':=by
  rw[okk,Bool.or_eq_true,Bool.and_eq_true]at h
  rcases h with h|h
  ·have:=Nat.le_of_ble_eq_true h.1;have:=Nat.le_of_ble_eq_true h.2;omega
  ·exact .inr (Nat.le_of_ble_eq_true h)
theorem okk_self {k:Nat} (h:Nat.ble 100 k=true):okk k k=true:=by
  have:=Nat.le_of_ble_eq_true h
  rw[okk,Bool.or_eq_true,Bool.and_eq_true,Nat.ble_eq,Nat.ble_eq,Nat.ble_eq]
  omega
theorem St1.place {k k':Nat} {c:C} {e:TypeId} {sz:Nat} {rows:List (List C)} {R:List Res} (hg:o.guard=none) (hd:o.dst=some d) (hn:Nat.blt d n=true) (hf:lk σ (.u k')= .no) (h100:Nat.ble 100 k'=true) (hkk:okk k k'=true) (hcr:c.refs=[k'])
    (h:∀(E:Env) (bx:Nat→Nat×Nat) (τ:Res→RC) (a:Act) (w:World),(∀r∈R,τ r=lk σ r)→SR E bx τ a w→
      ∃v w' g q cur,(execOp a.eval o).run P w= .ok (.value v) w'∧((Al τ k∧g=(bx k).1)∨w.heap.size≤g)∧w.grownBy w' (some q)∧(q=g∨(Al τ k∧q=(bx k).1))∧w'.heap[g]?=some (.cells cur e (0,0))∧rows.length *sz≤cur.size∧(∀(i:Nat) r,rows[i]?=some r→r.length=sz)∧
        (∀(i:Nat) r (j:Nat) c,rows[i]?=some r→r[j]?=some c→∃u,cur[i *sz+j]?=some u∧Cr bx (Al τ) (Bf E bx τ) w c u)∧(∀r∈rows,∀c∈r,∀k∈c.refs,τ (.u k)≠ .no)∧
        ∀(bx':Nat→Nat×Nat) (al B:Nat→Prop) (w2:World),bx' k'=(g,cur.size)→Cr bx' al B w2 c v):
    St1 P n ops o σ (.u k'::R) [.t d,.u k',.b k',.b k] ((.t d,.v (.o (.c c)))::(.u k',.u)::(.b k',.b e sz rows)::(.b k,.no)::σ):=by
  refine⟨fun r hr=>?_,fun E bx τ a w hE hR hs=>OW.plain hg fun Q=>?_⟩
  · simp only[List.mem_cons,List.not_mem_nil,or_false,not_or]at hr
    rw[lk_other _ _ _ _ (fun e=>hr.1 e.symm),lk_other _ _ _ _ (fun e=>hr.2.1 e.symm),lk_other _ _ _ _ (fun e=>hr.2.2.1 e.symm),lk_other _ _ _ _ (fun e=>hr.2.2.2 e.symm)]
  · have hfr:τ (.u k')= .no:=(hR _ List.mem_cons_self).trans hf
    obtain⟨v,w',g,q,cur,hrun,h1,h2,hq,h3,h4,h5,h6,h7,h8⟩:=h E bx τ a w (fun r hr=>hR r (List.mem_cons_of_mem _ hr)) hs
    have hp:=hs.place (k:=k) hfr (by simpa using h100) (okk_iff hkk) h1 h2 hq h3 h4 h5 h6 h7
    unfold Oper.wp
    rw[hrun,Oper.upon_value,hd]
    refine⟨bxAt bx k' g cur.size,?_⟩
    have e1:ovr τ [.t d,.u k',.b k',.b k] ((.t d,.v (.o (.c c)))::(.u k',.u)::(.b k',.b e sz rows)::(.b k,.no)::σ)=upd (upd (upd (upd τ (.b k) .no) (.b k') (.b e sz rows)) (.u k') .u) (.t d) (.v (.o (.c c))):=by
      funext r
      simp only[ovr,lk_cons]
      by_cases r1:r= .t d
      ·subst r1;simp[upd_same]
      · by_cases r2:r= .u k'
        ·subst r2;simp[upd]
        · by_cases r3:r= .b k'
          ·subst r3;simp[upd]
          · by_cases r4:r= .b k
            ·subst r4;simp[upd,r3]
            ·simp[upd,r1,r2,r3,r4]
    rw[e1]
    refine hp.put (by rw[hE];simpa using hn) (h8 _ _ _ _ (bxAt_same _ _ _ _)) (fun l hl=>?_)
    simp only[V.refs,V1.refs,hcr,List.mem_singleton]at hl
    subst hl
    rw[upd_same]
    exact fun e=>by cases e
theorem rows_one {bx:Nat→Nat×Nat} {al B:Nat→Prop} {w:World} {cs:List C} {vs:List Value} (h:Cells (Cr bx al B w) cs vs):[cs].length *cs.length≤vs.toArray.size∧(∀(i:Nat) r,[cs][i]?=some r→r.length=cs.length)∧
    ∀(i:Nat) r (j:Nat) c,[cs][i]?=some r→r[j]?=some c→∃u,vs.toArray[i *cs.length+j]?=some u∧Cr bx al B w c u:=by
  refine⟨by simp[h.1],fun i r hi=>?_,fun i r j c hi hj=>?_⟩
  · cases i with
    |zero=>simp at hi;rw[hi]
    |succ i=>simp at hi
  · cases i with
    |succ i=>simp at hi
    |zero=>
      simp only[List.getElem?_cons_zero,Option.some.injEq]at hi
      subst hi
      have hl:j<vs.length:=by rw[h.1];exact(List.getElem?_eq_some_iff.1 hj).1
      exact⟨vs[j],by simp[hl],h.2 j c _ hj (List.getElem?_eq_getElem hl)⟩
theorem St1.alloc {k':Nat} {t:TypeId} {zs:List Value} (ho:o.op= .alloc t) (hg:o.guard=none) (hd:o.dst=some d) (hn:Nat.blt d n=true) (ht:tyZ P t=some zs) (hz:zs.all (·.oneCell')=true) (hf:lk σ (.u k')= .no) (h100:Nat.ble 100 k'=true):
    St1 P n ops o σ [.u k'] [.t d,.u k',.b k',.b k'] ((.t d,.v (.o (.c (.box k' zs.length 0 0))))::(.u k',.u)::(.b k',.b t zs.length [zs.map fun z=>C.d (.val z)])::(.b k',.no)::σ):=
  St1.place hg hd hn hf h100 (okk_self h100) rfl fun E bx τ a w hR hs=>by
    obtain⟨i,z,h1,h2,h3⟩:=tyZ_out ht
    have h4:z.cells=zs.toArray:=by rw[←h3]
    obtain⟨r1,r2,r3⟩:=rows_one (zeros_cells (bx:=bx) (al:=Al τ) (B:=Bf E bx τ) (w:=w) hz)
    simp only[List.length_map]at r1 r2 r3
    refine⟨.pointer (some ⟨w.heap.size,0,none⟩),w.alloc (.cells zs.toArray t),w.heap.size,w.heap.size,zs.toArray,by simp[execOp,ho,Instr.alloc,zeroValue,typeInfo,h1,h2,newVar,newRow,h4],.inr (Nat.le_refl _),World.grownBy_alloc w _ _,.inl rfl,heap_alloc_new w _,r1,r2,r3,fun r hr c hc k hk=>?_,fun bx' al B w2 hbx=>⟨rfl,fun _=>by rw[hbx];simp⟩⟩
    simp only[List.mem_singleton]at hr
    subst hr
    obtain⟨z,_,rfl⟩:=List.mem_map.1 hc
    cases hk
theorem St1.boxB {k':Nat} {t:TypeId} {x:Operand} {v:V1} (ho:o.op= .box t x) (hg:o.guard=none) (hd:o.dst=some d) (hn:Nat.blt d n=true) (hx:ev σ x=some (.o v)) (hf:lk σ (.u k')= .no) (h100:Nat.ble 100 k'=true):
    St1 P n ops o σ (.u k'::rd x) [.t d,.u k',.b k',.b k'] ((.t d,.v (.o (.c (.box k' v.cells.length 0 0))))::(.u k',.u)::(.b k',.b t v.cells.length [v.cells])::(.b k',.no)::σ):=
  St1.place hg hd hn hf h100 (okk_self h100) rfl fun E bx τ a w hR hs=>by
    obtain⟨hv,hu⟩:=ev_ok hx hR hs
    obtain⟨r1,r2,r3⟩:=rows_one (V1r.cells hv)
    refine⟨.pointer (some ⟨w.heap.size,0,none⟩),w.alloc (.cells (a.eval x).cells.toList.toArray t),w.heap.size,w.heap.size,_,by simp[execOp,ho,Instr.box,newVar,newRow],.inr (Nat.le_refl _),World.grownBy_alloc w _ _,.inl rfl,heap_alloc_new w _,r1,r2,r3,fun r hr c hc k hk=>?_,fun bx' al B w2 hbx=>⟨rfl,fun _=>by rw[hbx];simp⟩⟩
    simp only[List.mem_singleton]at hr
    subst hr
    exact hu k (V1.refs_cells hc k hk)
theorem St1.boxP {t:TypeId} {x:Operand} {v:V1} {ds:List D} (ho:o.op= .box t x) (hg:o.guard=none) (hd:o.dst=some d) (hn:Nat.blt d n=true) (hx:ev σ x=some (.o v)) (hds:datL v.cells=some ds):
    St1 P n ops o σ (rd x) [.t d] ((.t d,.v (.o (.c (.ptr ds))))::σ):=
  St1.fresh hg hd hn fun E bx τ a w hR hs=>by
    obtain⟨hv,hu⟩:=ev_ok hx hR hs
    have hc:=V1r.cells hv
    rw[datL_ok hds]at hc
    refine⟨⟨.pointer (some ⟨w.heap.size,0,none⟩),w.alloc (.cells (a.eval x).cells t),by simp[execOp,ho,Instr.box,newVar,newRow],(Below.refl _ _).alloc (Nat.le_refl _) _,⟨w.heap.size,0,rfl,fun j y hy=>?_⟩⟩,fun k hk=>by cases hk⟩
    obtain⟨u,h1,h2⟩:=hc.dat hy
    refine⟨u,.inr (Nat.le_refl _),?_,(h2.frame (below_sameAll ((Below.refl _ _).alloc (Nat.le_refl _) _) _)).mono fun b hb _=>.inl hb⟩
    rw[cell_of_row _ _ _ _ _ _ (heap_alloc_new w _),Nat.zero_add]
    rw[←Array.getElem?_toList];exact h1
end
def evL (σ:St):List Operand→Option (List V1)
  |[]=>some []
  |x::l=>match ev σ x with
    |some (.o v)=>match evL σ l with
      |some r=>some (v::r)
      |none=>none
    |_=>none
def rdL:List Operand→List Res
  |[]=>[]
  |x::l=>rd x++rdL l
def Vals (R:V1→Value→Prop) (xs:List V1) (vs:List Value):Prop:=vs.length=xs.length∧∀(i:Nat) x v,xs[i]?=some x→vs[i]?=some v→R x v
theorem Vals.cons {R:V1→Value→Prop} {x:V1} {v:Value} {xs:List V1} {vs:List Value} (h:R x v) (hs:Vals R xs vs):Vals R (x::xs) (v::vs):=by
  refine⟨by simp[hs.1],fun i y u hy hu=>?_⟩
  cases i with
  |zero=>simp at hy hu;subst hy hu;exact h
  |succ i=>rw[List.getElem?_cons_succ]at hy hu;exact hs.2 i y u hy hu
section
variable {E : Env} {bx : Nat → Nat × Nat} {τ : Res → RC} {a : Act} {w : World} {σ : St}
theorem evL_ok:∀ {l:List Operand} {xs:List V1},evL σ l=some xs→(∀r∈rdL l,τ r=lk σ r)→SR E bx τ a w→Vals (V1r bx (Al τ) (Bf E bx τ) w) xs (l.map a.eval)∧∀x∈xs,∀k∈x.refs,τ (.u k)≠ .no
  |[],xs,h,_,_=>by cases h;exact⟨⟨rfl,fun i x v h=>by simp at h⟩,fun p hp=>by cases hp⟩
  |x::l,xs,h,hr,hs=>by
    unfold evL at h
    split at h
    · rename_i v hv
      split at h
      · rename_i r hrr
        cases h
        obtain⟨h1,h2⟩:=evL_ok hrr (rd_r hr) hs
        obtain⟨h3,h4⟩:=ev_ok hv (rd_l hr) hs
        exact⟨.cons h3 h1,fun p hp=>by
          rcases List.mem_cons.1 hp with rfl|hp
          ·exact h4
          ·exact h2 p hp⟩
      ·cases h
    ·cases h
end
def rowsOk (sz:Nat):List V1→Bool
  |[]=>true
  |v::l=>Nat.beq v.cells.length sz&&rowsOk sz l
theorem rowsOk_at {sz:Nat}:∀ {l:List V1},rowsOk sz l=true→∀v∈l,v.cells.length=sz
  |[],_,v,hv=>by cases hv
  |u::l,h,v,hv=>by
    rw[rowsOk,Bool.and_eq_true]at h
    rcases List.mem_cons.1 hv with rfl|hv
    ·exact Nat.eq_of_beq_eq_true h.1
    ·exact rowsOk_at h.2 v hv
theorem flat_get {α:Type} {sz:Nat}:∀ {rows:List (List α)},(∀r∈rows,r.length=sz)→∀(i j:Nat),j<sz→rows.flatten[i *sz+j]?=(rows[i]?).bind (·[j]?)
  |[],_,i,j,_=>by simp
  |r::rows,h,i,j,hj=>by
    have hr:=h r List.mem_cons_self
    cases i with
    |zero=>
      simp only[Nat.zero_mul,Nat.zero_add,List.flatten_cons,List.getElem?_cons_zero,Option.bind_some]
      rw[List.getElem?_append_left (by omega)]
    |succ i=>
      rw[List.flatten_cons,List.getElem?_append_right (by rw[hr,Nat.add_mul];omega),List.getElem?_cons_succ,←flat_get (fun r hr=>h r (List.mem_cons_of_mem _ hr)) i j hj]
      congr 1
      rw[hr,Nat.add_mul];omega
theorem flat_len {α:Type} {sz:Nat}:∀ {rows:List (List α)},(∀r∈rows,r.length=sz)→rows.flatten.length=rows.length *sz
  |[],_=>by simp
  |r::rows,h=>by
    rw[List.flatten_cons,List.length_append,h r List.mem_cons_self,flat_len (fun r hr=>h r (List.mem_cons_of_mem _ hr)),List.length_cons,Nat.add_mul];omega
section
variable {P : Program} {n : Nat} {ops : Array Oper} {o : Oper} {σ : St} {d : Nat}
def tyE (P:Program) (t:TypeId):Option (TypeId×Nat×Bool):=
  match P.underlying t with
  |some (.slice e)=>(P.info? e).map fun i=>(e,i.size,i.zero.isSome)
  |_=>none
theorem run_lit {t e:TypeId} {sz m:Nat} (ht:tyE P t=some (e,sz+1,true)) (vs:List Value) (hl:vs.length=m+1) (hv:∀v∈vs,v.cells.size=sz+1) (hs:m≤1000) (hsz:sz≤1000) (w:World):
    ∃cells,(Instr.buildSlice t (m+1) ((vs.zipIdx 0).map fun x=>(x.2,x.1)).toArray).run P w= .ok (.slice (some ⟨w.heap.size,0,none⟩) (m+1) (m+1)) (w.alloc (.cells cells e))∧cells.size=(m+1) *(sz+1)∧
      ∀(i:Nat) v (j:Nat) u,vs[i]?=some v→v.cells[j]?=some u→cells[i *(sz+1)+j]?=some u:=by
  unfold tyE at ht
  cases hu:P.underlying t with
  |none=>simp[hu]at ht
  |some dd=>
    cases dd<;>simp only[hu,reduceCtorEq]at ht
    case slice e'=>
      cases hi:P.info? e' with
      |none=>rw[hi]at ht;cases ht
      |some ie=>
        rw[hi]at ht
        simp only[Option.map_some,Option.some.injEq,Prod.mk.injEq]at ht
        obtain⟨rfl,h1,h2⟩:=ht
        obtain⟨z,hz⟩:=Option.isSome_iff_exists.1 h2
        have hmul:(m+1) *(sz+1)≤1001 *1001:=Nat.mul_le_mul (by omega) (by omega)
        have hpos:0<(m+1) *(sz+1):=Nat.mul_pos (by omega) (by omega)
        obtain⟨r,hr,hrs,hrg⟩:=Great.fill_dense (s:=sz+1) (by omega) vs 0 ((Array.range ((m+1) *(sz+1))).map (z.cells[· % z.cells.size]!)) hv (by simp[hl])
        refine⟨r,run_buildSlice w t e' (m+1) _ r ie z hu hi hz (by rw[h1];omega) (by rw[h1];omega) (by rw[h1];simpa using hr),by rw[hrs];simp,fun i v j u hv' hu'=>?_⟩
        have hil:i<vs.length:=(List.getElem?_eq_some_iff.1 hv').1
        have hjl:j<sz+1:=by
          have:=hv v (List.mem_of_getElem? hv')
          have:=(Array.getElem?_eq_some_iff.1 hu').1
          omega
        have hlt:i *(sz+1)+j<vs.length *(sz+1):=by
          have:=Nat.mul_le_mul_right (sz+1) (show i+1≤vs.length by omega)
          rw[Nat.add_mul]at this;omega
        rw[hrg,if_pos ⟨by rw[Nat.zero_mul];exact Nat.zero_le _,by rw[Nat.zero_add];exact hlt⟩,Nat.mul_comm i,Nat.mul_add_div (by omega),Nat.mul_add_mod,Nat.div_eq_of_lt hjl,Nat.mod_eq_of_lt hjl]
        simp[hv',hu']
theorem run_lit0 {t e:TypeId} {sz:Nat} {b:Bool} (ht:tyE P t=some (e,sz,b)) (w:World):(Instr.buildSlice t 0 #[]).run P w= .ok (.slice (some ⟨w.heap.size,0,none⟩) 0 0) (w.alloc (.cells #[] e)):=by
  unfold tyE at ht
  cases hu:P.underlying t with
  |none=>simp[hu]at ht
  |some dd=>
    cases dd<;>simp only[hu,reduceCtorEq]at ht
    case slice e'=>
      cases hi:P.info? e' with
      |none=>rw[hi]at ht;cases ht
      |some ie=>
        rw[hi]at ht
        simp only[Option.map_some,Option.some.injEq,Prod.mk.injEq]at ht
        obtain⟨rfl,h1,h2⟩:=ht
        simp[Instr.buildSlice,run_underlying hu,sizeOf,typeInfo,hi,newRow,Instr.fill]
        rw[show ∀f:Nat→Value,Array.map f (Array.range 0)=#[]from fun f=>Array.eq_empty_of_size_eq_zero (by simp)]
theorem eval_parts (a:Act) (xs:List Operand):(((xs.zipIdx 0).map fun x=>(x.2,x.1)).toArray.map fun(i,x)=>(i,a.eval x))=(((xs.map a.eval).zipIdx 0).map fun x=>(x.2,x.1)).toArray:=by
  simp[List.zipIdx_map]
def datR:List V1→Option (List (List D))
  |[]=>some []
  |v::l=>match datL v.cells with
    |some r=>match datR l with
      |some rs=>some (r::rs)
      |none=>none
    |none=>none
theorem datR_ok:∀ {l:List V1} {rows:List (List D)},datR l=some rows→l.map V1.cells=rows.map (·.map C.d)
  |[],rows,h=>by cases h;rfl
  |v::l,rows,h=>by
    unfold datR at h
    split at h
    · rename_i r hr
      split at h
      · rename_i rs hrs
        cases h
        rw[List.map_cons,List.map_cons,datR_ok hrs,datL_ok hr]
      ·cases h
    ·cases h
theorem St1.lit {t e:TypeId} {sz m:Nat} {parts:Array (Nat×Operand)} {xs:List Operand} {vs:List V1} {rows:List (List D)} (ho:o.op= .buildSlice t (m+1) parts) (hg:o.guard=none) (hd:o.dst=some d) (hn:Nat.blt d n=true) (hpl:parts=((xs.zipIdx 0).map fun x=>(x.2,x.1)).toArray)
    (ht:tyE P t=some (e,sz+1,true)) (hx:evL σ xs=some vs) (hl:(Nat.beq vs.length (m+1)&&Nat.ble m 1000&&Nat.ble sz 1000)=true) (hr:rowsOk (sz+1) vs=true) (hds:datR vs=some rows):St1 P n ops o σ (rdL xs) [.t d] ((.t d,.v (.o (.c (.d (.list (sz+1) rows)))))::σ):=
  St1.fresh hg hd hn fun E bx τ a w hR hs=>by
    subst hpl
    simp only[Bool.and_eq_true]at hl
    have hl1:=Nat.eq_of_beq_eq_true hl.1.1
    have hl2:=Nat.le_of_ble_eq_true hl.1.2
    have hl3:=Nat.le_of_ble_eq_true hl.2
    obtain⟨⟨q1,q2⟩,_⟩:=evL_ok hx hR hs
    have hrows:=datR_ok hds
    have hat:∀(i:Nat) v,(xs.map a.eval)[i]?=some v→∃x,vs[i]?=some x∧V1r bx (Al τ) (Bf E bx τ) w x v:=fun i v hv=>by
      have hi:i<vs.length:=by rw[←q1];exact(List.getElem?_eq_some_iff.1 hv).1
      exact⟨vs[i],List.getElem?_eq_getElem hi,q2 i _ v (List.getElem?_eq_getElem hi) hv⟩
    obtain⟨cells,hrun,hcs,hcell⟩:=run_lit ht (xs.map a.eval) (by rw[q1,hl1]) (fun v hv=>by
      obtain⟨i,hi⟩:=List.mem_iff_getElem?.1 hv
      obtain⟨x,hx,hxv⟩:=hat i v hi
      have:=hxv.cells.1
      rw[rowsOk_at hr x (List.mem_of_getElem? hx)]at this
      simpa using this) hl2 hl3 w
    have hlen:rows.length=m+1:=by have:=congrArg List.length hrows;simp at this;omega
    have hframe:=below_sameAll ((Below.refl w.heap.size w).alloc (Nat.le_refl _) (.cells cells e))
    have key:∀(i:Nat) r (j:Nat) y,rows[i]?=some r→r[j]?=some y→r.length=sz+1∧∃u,cells[i *(sz+1)+j]?=some u∧Dr (Bf E bx τ) w y u:=fun i r j y hi hj=>by
      have hil:i<rows.length:=(List.getElem?_eq_some_iff.1 hi).1
      have hv:(xs.map a.eval)[i]?=some ((xs.map a.eval)[i]'(by omega)):=List.getElem?_eq_getElem _
      obtain⟨x,hx,hxv⟩:=hat i _ hv
      have hxc:x.cells=r.map C.d:=by
        have:=congrArg (·[i]?) hrows
        simp only[List.getElem?_map,hx,hi,Option.map_some,Option.some.injEq]at this
        exact this
      have hc:=hxv.cells
      rw[hxc]at hc
      obtain⟨u,h1,h2⟩:=hc.dat hj
      refine⟨by have:=rowsOk_at hr x (List.mem_of_getElem? hx);rw[hxc]at this;simpa using this,u,hcell i _ j u hv (by rw[←Array.getElem?_toList];exact h1),h2⟩
    refine⟨⟨.slice (some ⟨w.heap.size,0,none⟩) (m+1) (m+1),w.alloc (.cells cells e),by simp only[execOp,ho,Sem.run_bind,eval_parts];rw[hrun];rfl,(Below.refl _ _).alloc (Nat.le_refl _) _,?_⟩,fun k hk=>by cases hk⟩
    refine Dr.list _ rows _ _ _ w.heap.size 0 (fun i j=>cells.getD (i *(sz+1)+j) undef) hlen.symm (Nat.le_refl _) (by omega) (fun h=>by cases h) (fun _=>rfl) (fun i r hi=>?_) (fun i r j y hi hj=>⟨.inr (Nat.le_refl _),?_⟩) (fun i r j y hi hj=>?_)
    · have hil:i<rows.length:=(List.getElem?_eq_some_iff.1 hi).1
      have hv:(xs.map a.eval)[i]?=some ((xs.map a.eval)[i]'(by omega)):=List.getElem?_eq_getElem _
      obtain⟨x,hx,hxv⟩:=hat i _ hv
      have hxc:x.cells=r.map C.d:=by
        have:=congrArg (·[i]?) hrows
        simp only[List.getElem?_map,hx,hi,Option.map_some,Option.some.injEq]at this
        exact this
      have:=rowsOk_at hr x (List.mem_of_getElem? hx);rw[hxc]at this;simpa using this
    · obtain⟨_,u,h1,_⟩:=key i r j y hi hj
      rw[cell_of_row _ _ _ _ _ _ (heap_alloc_new w _),Nat.zero_add,h1]
      simp[Array.getD_eq_getD_getElem?,h1]
    · obtain⟨_,u,h1,h2⟩:=key i r j y hi hj
      simp only[Array.getD_eq_getD_getElem?,h1,Option.getD_some]
      exact(h2.frame (hframe _)).mono fun b hb _=>.inl hb
theorem St1.litB {t e:TypeId} {sz m k':Nat} {parts:Array (Nat×Operand)} {xs:List Operand} {vs:List V1} (ho:o.op= .buildSlice t (m+1) parts) (hg:o.guard=none) (hd:o.dst=some d) (hn:Nat.blt d n=true) (hpl:parts=((xs.zipIdx 0).map fun x=>(x.2,x.1)).toArray)
    (ht:tyE P t=some (e,sz+1,true)) (hx:evL σ xs=some vs) (hl:(Nat.beq vs.length (m+1)&&Nat.ble m 1000&&Nat.ble sz 1000)=true) (hr:rowsOk (sz+1) vs=true) (hf:lk σ (.u k')= .no) (h100:Nat.ble 100 k'=true):
    St1 P n ops o σ (.u k'::rdL xs) [.t d,.u k',.b k',.b k'] ((.t d,.v (.o (.c (.own k' (sz+1) (m+1)))))::(.u k',.u)::(.b k',.b e (sz+1) (vs.map V1.cells))::(.b k',.no)::σ):=
  St1.place hg hd hn hf h100 (okk_self h100) rfl fun E bx τ a w hR hs=>by
    subst hpl
    simp only[Bool.and_eq_true]at hl
    have hl1:=Nat.eq_of_beq_eq_true hl.1.1
    have hl2:=Nat.le_of_ble_eq_true hl.1.2
    have hl3:=Nat.le_of_ble_eq_true hl.2
    obtain⟨⟨q1,q2⟩,q3⟩:=evL_ok hx hR hs
    have hat:∀(i:Nat) v,(xs.map a.eval)[i]?=some v→∃x,vs[i]?=some x∧V1r bx (Al τ) (Bf E bx τ) w x v:=fun i v hv=>by
      have hi:i<vs.length:=by rw[←q1];exact(List.getElem?_eq_some_iff.1 hv).1
      exact⟨vs[i],List.getElem?_eq_getElem hi,q2 i _ v (List.getElem?_eq_getElem hi) hv⟩
    obtain⟨cells,hrun,hcs,hcell⟩:=run_lit ht (xs.map a.eval) (by rw[q1,hl1]) (fun v hv=>by
      obtain⟨i,hi⟩:=List.mem_iff_getElem?.1 hv
      obtain⟨x,hx,hxv⟩:=hat i v hi
      have:=hxv.cells.1
      rw[rowsOk_at hr x (List.mem_of_getElem? hx)]at this
      simpa using this) hl2 hl3 w
    refine⟨.slice (some ⟨w.heap.size,0,none⟩) (m+1) (m+1),w.alloc (.cells cells e),w.heap.size,w.heap.size,cells,by simp only[execOp,ho,Sem.run_bind,eval_parts];rw[hrun];rfl,.inr (Nat.le_refl _),World.grownBy_alloc w _ _,.inl rfl,heap_alloc_new w _,by rw[hcs,List.length_map,hl1];exact Nat.le_refl _,fun i r hi=>?_,fun i r j c hi hj=>?_,fun r hr' c hc k hk=>?_,fun bx' al B w2 hbx=>⟨rfl,fun _=>⟨m+1,by rw[hbx],Nat.le_refl _,by unfold maxLen;omega,by rw[hbx,hcs]⟩⟩⟩
    · rw[List.getElem?_map]at hi
      cases hv:vs[i]? with
      |none=>rw[hv]at hi;cases hi
      |some v=>rw[hv]at hi;cases hi;exact rowsOk_at hr v (List.mem_of_getElem? hv)
    · rw[List.getElem?_map]at hi
      cases hv:vs[i]? with
      |none=>rw[hv]at hi;cases hi
      |some x=>
        rw[hv]at hi;cases hi
        have hil:i<(xs.map a.eval).length:=by rw[q1];exact(List.getElem?_eq_some_iff.1 hv).1
        have hxv:=q2 i x _ hv (List.getElem?_eq_getElem hil)
        have hc:=hxv.cells
        have hjl:j<((xs.map a.eval)[i]).cells.toList.length:=by rw[hc.1];exact(List.getElem?_eq_some_iff.1 hj).1
        exact⟨_,hcell i _ j _ (List.getElem?_eq_getElem hil) (by rw[←Array.getElem?_toList];exact List.getElem?_eq_getElem hjl),hc.2 j c _ hj (List.getElem?_eq_getElem hjl)⟩
    · obtain⟨v,hv,rfl⟩:=List.mem_map.1 hr'
      exact q3 v hv k (V1.refs_cells hc k hk)
theorem St1.lit0 {t e:TypeId} {sz k':Nat} {b:Bool} (ho:o.op= .buildSlice t 0 #[]) (hg:o.guard=none) (hd:o.dst=some d) (hn:Nat.blt d n=true) (ht:tyE P t=some (e,sz,b)) (hf:lk σ (.u k')= .no) (h100:Nat.ble 100 k'=true):
    St1 P n ops o σ [.u k'] [.t d,.u k',.b k',.b k'] ((.t d,.v (.o (.c (.own k' sz 0))))::(.u k',.u)::(.b k',.b e sz [])::(.b k',.no)::σ):=
  St1.place hg hd hn hf h100 (okk_self h100) rfl fun E bx τ a w hR hs=>by
    refine⟨.slice (some ⟨w.heap.size,0,none⟩) 0 0,w.alloc (.cells #[] e),w.heap.size,w.heap.size,#[],by simp only[execOp,ho,Sem.run_bind];rw[show Array.map (fun x:Nat×Operand=>(x.1,a.eval x.2)) #[]=#[]from by simp,run_lit0 ht w];rfl,.inr (Nat.le_refl _),World.grownBy_alloc w _ _,.inl rfl,heap_alloc_new w _,by simp,fun i r hi=>by simp at hi,fun i r j c hi hj=>by simp at hi,fun r hr'=>(by cases hr'),fun bx' al B w2 hbx=>⟨rfl,fun _=>⟨0,by rw[hbx],Nat.le_refl _,by unfold maxLen;omega,by rw[hbx,Nat.zero_mul];rfl⟩⟩⟩
theorem St1.lit0D {t e:TypeId} {sz:Nat} {b:Bool} (ho:o.op= .buildSlice t 0 #[]) (hg:o.guard=none) (hd:o.dst=some d) (hn:Nat.blt d n=true) (ht:tyE P t=some (e,sz,b)):
    St1 P n ops o σ [] [.t d] ((.t d,.v (.o (.c (.d (.list sz [])))))::σ):=
  St1.fresh hg hd hn fun E bx τ a w hR hs=>by
    refine⟨⟨.slice (some ⟨w.heap.size,0,none⟩) 0 0,w.alloc (.cells #[] e),by simp only[execOp,ho,Sem.run_bind];rw[show Array.map (fun x:Nat×Operand=>(x.1,a.eval x.2)) #[]=#[]from by simp,run_lit0 ht w];rfl,(Below.refl _ _).alloc (Nat.le_refl _) _,?_⟩,fun k hk=>by cases hk⟩
    exact Dr.list sz [] _ _ _ 0 0 (fun _ _=>undef) rfl (Nat.le_refl _) (by omega) (fun h=>by cases h) (fun h=>by simp at h) (fun i r h=>by simp at h) (fun i r j x h=>by simp at h) (fun i r j x h=>by simp at h)
/-! #### store -/
theorem run_storeRow {t:TypeId} {r:Bool} {m:Nat} (ht:tyL P t=some (r,m)) (w:World) (b o:Nat) (v:Value) (hl:v.cells.toList.length=m) (h1:∀u∈v.cells.toList,u.oneCell'=true) (hc:∀j,j<m→(w.cell? ⟨b,o+j,none⟩).isSome=true) (hf:∀j,j<m→w.frozen? ⟨b,o+j,none⟩=false):
    (Instr.storeAt t (.pointer (some ⟨b,o,none⟩)) v).run P w= .ok () (w.setCells b o v.cells.toList):=by
  have:=run_storeCells_cells (P:=P) b o v.cells.toList 0 w (fun j hj=>by simpa using hc j (by omega)) (fun j hj=>by simpa using hf j (by omega)) h1
  simp only[Nat.add_zero]at this
  simp only[Array.length_toList]at hl
  simp[Instr.storeAt,Instr.sureAddr,storeVar,run_sizeOf' ht,hl,this]
theorem rows_put {bx:Nat→Nat×Nat} {al B:Nat→Prop} {w:World} {cur cur':Array Value} {sz i j:Nat} {rows:List (List C)} {r:List C} {cs:List C} {vs:List Value}
    (h4:∀(i:Nat) r,rows[i]?=some r→r.length=sz) (h5:∀(i:Nat) r (j:Nat) c,rows[i]?=some r→r[j]?=some c→∃u,cur[i *sz+j]?=some u∧Cr bx al B w c u) (hi:rows[i]?=some r) (hj:j+cs.length≤r.length) (hv:Cells (Cr bx al B w) cs vs)
    (hcur:cur'.toList=cur.toList.take (i *sz+j)++vs++cur.toList.drop (i *sz+j+vs.length)) (hsz:i *sz+j+vs.length≤cur.size):
    (∀(l:Nat) r',(rows.set i (place1 r j cs))[l]?=some r'→r'.length=sz)∧∀(l:Nat) r' (q:Nat) c,(rows.set i (place1 r j cs))[l]?=some r'→r'[q]?=some c→∃u,cur'[l *sz+q]?=some u∧Cr bx al B w c u:=by
  have hrl:=h4 i r hi
  have hil:i<rows.length:=(List.getElem?_eq_some_iff.1 hi).1
  have hget:∀p,cur'[p]?=if i *sz+j≤p∧p<i *sz+j+vs.length then vs[p -(i *sz+j)]? else cur[p]?:=by
    intro p
    rw[←Array.getElem?_toList,hcur]
    have hl1:(cur.toList.take (i *sz+j)).length=i *sz+j:=by rw[List.length_take,Array.length_toList];omega
    by_cases h1:p<i *sz+j
    ·rw[List.append_assoc,List.getElem?_append_left (by omega),List.getElem?_take,if_pos h1,if_neg (by omega),Array.getElem?_toList]
    · by_cases h2:p<i *sz+j+vs.length
      ·rw[List.append_assoc,List.getElem?_append_right (by omega),hl1,List.getElem?_append_left (by omega),if_pos (by omega)]
      · rw[List.getElem?_append_right (by rw[List.length_append];omega),List.length_append,hl1,List.getElem?_drop,if_neg (by omega),Array.getElem?_toList]
        congr 1;omega
  refine⟨fun l r' hl=>?_,fun l r' q c hl hq=>?_⟩
  · rw[List.getElem?_set]at hl
    by_cases e:i=l
    · subst e
      rw[if_pos rfl,if_pos hil]at hl;cases hl;rw[place1_len _ _ _ hj];exact hrl
    ·rw[if_neg e]at hl;exact h4 l r' hl
  · rw[List.getElem?_set]at hl
    by_cases e:i=l
    · subst e
      rw[if_pos rfl,if_pos hil]at hl
      cases hl
      rw[place1_get _ _ _ hj]at hq
      by_cases hin:j≤q∧q<j+cs.length
      · rw[if_pos hin]at hq
        have hvl:q -j<vs.length:=by rw[hv.1];omega
        refine⟨vs[q -j],?_,hv.2 _ c _ hq (List.getElem?_eq_getElem hvl)⟩
        rw[hget,if_pos (by rw[hv.1];omega),show i *sz+q -(i *sz+j)=q -j by omega,List.getElem?_eq_getElem hvl]
      · rw[if_neg hin]at hq
        obtain⟨u,h6,h7⟩:=h5 i r q c hi hq
        exact⟨u,by rw[hget,if_neg (by rw[hv.1];omega)];exact h6,h7⟩
    · rw[if_neg e]at hl
      obtain⟨u,h6,h7⟩:=h5 l r' q c hl hq
      have hql:q<sz:=by have:=h4 l r' hl;have:=(List.getElem?_eq_some_iff.1 hq).1;omega
      refine⟨u,?_,h7⟩
      rw[hget,if_neg ?_]
      ·exact h6
      · rw[hv.1]
        rcases Nat.lt_or_ge l i with h8|h8
        · have:=Nat.mul_le_mul_right sz (show l+1≤i by omega)
          rw[Nat.add_mul]at this;omega
        · have:=Nat.mul_le_mul_right sz (show i+1≤l by omega)
          rw[Nat.add_mul]at this;omega
theorem St1.store {t:TypeId} {x y:Operand} {m k sz sz' i j:Nat} {rw':Bool} {e:TypeId} {rows:List (List C)} {r:List C} {v:V1} (ho:o.op= .store t x y) (hg:o.guard=none) (hd:o.dst=none) (ht:tyL P t=some (rw',m))
    (hx:ev σ x=some (.o (.c (.box k sz i j)))) (hb:lk σ (.b k)= .b e sz' rows) (hsz:sz'=sz) (hi:rows[i]?=some r) (hj:Nat.ble (j+m) r.length=true) (hy:ev σ y=some (.o v)) (hm:Nat.beq v.cells.length m=true):
    St1 P n ops o σ ((rd x++rd y)++[.b k]) [.b k] ((.b k,.b e sz' (rows.set i (place1 r j v.cells)))::σ):=by
  subst hsz
  refine⟨fun r hr=>lk_other _ _ _ _ (fun e=>hr (by rw[←e];simp)),fun E bx τ a w hE hR hs=>OW.plain hg fun Q=>?_⟩
  have hk:τ (.b k)= .b e sz' rows:=(rd_r hR _ (by simp)).trans hb
  have hm':=Nat.eq_of_beq_eq_true hm
  have hj':=Nat.le_of_ble_eq_true hj
  obtain⟨cur,h1,h2,h3,h4,h5⟩:=hs.box k e sz' rows hk
  obtain⟨hv,hu⟩:=ev_ok hy (rd_r (rd_l hR)) hs
  have hvc:=V1r.cells hv
  have hrl:=h4 i r hi
  have hil:i<rows.length:=(List.getElem?_eq_some_iff.1 hi).1
  have hfit:i *sz'+j+m≤cur.size:=by
    have:=Nat.mul_le_mul_right sz' (show i+1≤rows.length by omega)
    rw[Nat.add_mul]at this;omega
  have hvl:(a.eval y).cells.toList.length=m:=by rw[hvc.1,hm']
  have hrun:=run_storeRow ht w (bx k).1 (i *sz'+j) (a.eval y) hvl hvc.one (fun l hl=>by rw[cell_of_row w _ _ _ _ _ h1,Array.getElem?_eq_getElem (by omega)];rfl) (fun l hl=>by simp[World.frozen?,h1])
  obtain⟨cur',e1,e2,e3⟩:=heap_setCells (bx k).1 e (a.eval y).cells.toList (i *sz'+j) w cur h1 (by omega)
  obtain⟨p1,p2⟩:=rows_put h4 h5 hi (by omega) hvc e3 (by omega)
  have hnew:=hs.write hk (setCells_grown (bx k).1 (a.eval y).cells.toList (i *sz'+j) w) e1 (by rw[e2,h2]) (by rw[List.length_set,e2];exact h3) p1 p2 (fun r' hr' c hc l hl=>by
    rcases List.mem_or_eq_of_mem_set hr' with h6|h6
    ·exact fun hu=>(hs.unused l hu).2.2 k e sz' rows hk r' h6 c hc hl
    · subst h6
      rcases place1_mem hc with h7|h7
      ·exact fun hu=>(hs.unused l hu).2.2 k e sz' rows hk r (List.mem_of_getElem? hi) c h7 hl
      ·exact hu l (V1.refs_cells h7 l hl))
  unfold Oper.wp
  rw[show (execOp a.eval o).run P w= .ok .skip (w.setCells (bx k).1 (i *sz'+j) (a.eval y).cells.toList)by simp only[execOp,ho,ev_box hx (rd_l (rd_l hR)) hs (Al_of hk),Sem.run_bind,hrun];rfl,Oper.upon_skip,hd]
  refine⟨bx,?_⟩
  have e9:ovr τ [.b k] ((.b k,.b e sz' (rows.set i (place1 r j v.cells)))::σ)=upd τ (.b k) (.b e sz' (rows.set i (place1 r j v.cells))):=by
    funext r
    by_cases hr:r= .b k
    ·subst hr;simp[ovr,upd,lk_same]
    ·simp[ovr,upd,hr]
  rw[e9]
  exact hnew
end
theorem Dr.flat {B:Nat→Prop} {w:World} {sz:Nat} {rows:List (List D)} {ad:Addr} {m cap:Nat} (h:Dr B w (.list sz rows) (.slice (some ad) m cap)):
    ∃vss:List (List Value),vss.length=rows.length∧(∀r∈vss,r.length=sz)∧(∀r∈rows,r.length=sz)∧(∀(i:Nat) r (j:Nat) y,rows[i]?=some r→r[j]?=some y→∃vs u,vss[i]?=some vs∧vs[j]?=some u∧Dr B w y u)∧
      ∀(j:Nat) u,vss.flatten[j]?=some u→w.cell? (ad.add j)=some u:=by
  cases h with
  |list _ _ _ _ _ b off f hn h1 h2 h3 h4 h5 h6 h7=>
    have hr:∀r∈rows,r.length=sz:=fun r hr=>by
      obtain⟨i,hi⟩:=List.mem_iff_getElem?.1 hr
      exact h5 i r hi
    have hl:∀r∈(List.range rows.length).map fun i=>(List.range sz).map fun j=>f i j,r.length=sz:=fun r hr=>by
      obtain⟨i,_,rfl⟩:=List.mem_map.1 hr
      simp
    refine⟨(List.range rows.length).map fun i=>(List.range sz).map fun j=>f i j,by simp,hl,hr,fun i r j y hi hj=>?_,fun p u hp=>?_⟩
    · have hil:=(List.getElem?_eq_some_iff.1 hi).1
      have hjl:=(List.getElem?_eq_some_iff.1 hj).1
      rw[h5 i r hi]at hjl
      exact⟨_,f i j,by simp[hil];rfl,by simp[hjl],h7 i r j y hi hj⟩
    · have hpl:=(List.getElem?_eq_some_iff.1 hp).1
      rw[flat_len hl,List.length_map,List.length_range]at hpl
      have hs:0<sz:=Nat.pos_of_ne_zero fun e=>by rw[e,Nat.mul_zero]at hpl;omega
      have hmod:=Nat.mod_lt p hs
      have hdiv:p / sz<rows.length:=(Nat.div_lt_iff_lt_mul hs).2 hpl
      have hdm:p=p / sz *sz+p % sz:=by rw[Nat.mul_comm];exact(Nat.div_add_mod p sz).symm
      rw[hdm,flat_get hl _ _ hmod]at hp
      simp[hdiv,hmod]at hp
      subst hp
      have hrow:=h5 _ _ (List.getElem?_eq_getElem hdiv)
      obtain⟨_,hc⟩:=h6 (p / sz) _ (p % sz) _ (List.getElem?_eq_getElem hdiv) (List.getElem?_eq_getElem (by rw[hrow];exact hmod))
      have had:=Option.some.inj (h4 (by rw[hn];exact Nat.lt_of_le_of_lt (Nat.zero_le _) hdiv))
      rw[had,Addr.add_mid]
      rw[←hdm]at hc
      exact hc
theorem Dr.take {B:Nat→Prop} {w:World} {sz m cap:Nat} {rows:List (List D)} {ad:Option Addr} (h:Dr B w (.list sz rows) (.slice ad m cap)) (k:Nat) (hk:k≤rows.length):Dr B w (.list sz (rows.take k)) (.slice ad k cap):=by
  have key:∀ {α:Type} {l:List α} {i:Nat} {x:α},(l.take k)[i]?=some x→l[i]?=some x:=by
    intro α l i x hx
    rw[List.getElem?_take]at hx
    split at hx
    ·exact hx
    ·cases hx
  cases h with
  |list _ _ _ _ _ b off f hn h1 h2 h3 h4 h5 h6 h7=>
    exact .list _ _ _ _ _ b off f (by rw[List.length_take];omega) (by omega) (by omega) h3 (fun h=>h4 (by omega)) (fun i r hr=>h5 i r (key hr)) (fun i r j x hr hx=>h6 i r j x (key hr) hx) (fun i r j x hr hx=>h7 i r j x (key hr) hx)
theorem Dr.drop {B:Nat→Prop} {w:World} {sz m cap:Nat} {rows:List (List D)} {ad:Option Addr} (h:Dr B w (.list sz rows) (.slice ad m cap)) (k:Nat) (hk:k≤rows.length):
    Dr B w (.list sz (rows.drop k)) (.slice (if cap=k then ad else ad.map (·.add (k *sz))) (m -k) (cap -k)):=by
  cases h with
  |list _ _ _ _ _ b off f hn h1 h2 h3 h4 h5 h6 h7=>
    refine .list _ _ _ _ _ b (off+k *sz) (fun i j=>f (k+i) j) (by rw[List.length_drop];omega) (by omega) (by omega) (fun h=>?_) (fun h=>?_) (fun i r hr=>h5 _ r (by rwa[List.getElem?_drop]at hr)) (fun i r j x hr hx=>?_) (fun i r j x hr hx=>h7 _ r j x (by rwa[List.getElem?_drop]at hr) hx)
    · split at h
      ·rename_i e;omega
      · cases ad with
        |none=>have:=h3 rfl;omega
        |some a=>cases h
    · rw[if_neg (by omega),h4 (by omega)]
      simp[Addr.add_mid]
    · rw[List.getElem?_drop]at hr
      have:=h6 _ r j x hr hx
      rw[Nat.add_mul]at this
      exact⟨this.1,by rw[show off+k *sz+(i *sz+j)=off+(k *sz+i *sz+j)by omega];exact this.2⟩
def tyA (P:Program) (t:TypeId):Option (TypeId×Nat×Nat×Nat):=
  match P.underlying t with
  |some (.slice e)=>(P.info? e).bind fun i=>i.zero.map fun z=>(e,i.size,i.bytes,z.cells.size)
  |_=>none
theorem tyA_out {P:Program} {t e:TypeId} {sz by' zs:Nat} (h:tyA P t=some (e,sz,by',zs)):P.underlying t=some (.slice e)∧∃i z,P.info? e=some i∧i.zero=some z∧i.size=sz∧i.bytes=by'∧z.cells.size=zs:=by
  unfold tyA at h
  cases hu:P.underlying t with
  |none=>simp[hu]at h
  |some d=>
    cases d<;>simp only[hu,reduceCtorEq]at h
    case slice e'=>
      cases hi:P.info? e' with
      |none=>rw[hi]at h;cases h
      |some i=>
        cases hz:i.zero with
        |none=>rw[hi]at h;simp[hz]at h
        |some z=>
          rw[hi]at h
          simp only[Option.bind_some,hz,Option.map_some,Option.some.injEq,Prod.mk.injEq]at h
          obtain⟨rfl,h1,h2,h3⟩:=h
          exact⟨rfl,i,z,hi,hz,h1,h2,h3⟩
section
variable {P : Program} {n : Nat} {ops : Array Oper} {o : Oper} {σ : St} {d : Nat}
theorem run_appB {t ty e:TypeId} {sz by':Nat} (ht:tyA P t=some (e,sz+1,by',sz+1)) (w:World) (g m cap:Nat) (cur:Array Value) (hg:w.heap[g]?=some (.cells cur e (0,0))) (hmc:m≤cap) (hcm:cap≤maxLen) (hcs:cap *(sz+1)=cur.size)
    {B:Nat→Prop} {news:List (List D)} {x:Value} (hx:Dr B w (.list (sz+1) news) x) (hn:m+news.length≤4294967296) (hby:by'≤32768):
    ∃(w':World) (g' cap':Nat) (cur':Array Value),(Builtin.append_ #[t,t] ty #[.slice (some ⟨g,0,none⟩) m cap,x]).run P w= .ok (.slice (some ⟨g',0,none⟩) (m+news.length) cap') w'∧w.grownBy w' (some g)∧(g'=g∨w.heap.size≤g')∧w'.heap[g']?=some (.cells cur' e (0,0))∧
      m+news.length≤cap'∧cap'≤maxLen∧cap' *(sz+1)=cur'.size∧(∀p,p<m *(sz+1)→cur'[p]?=cur[p]?)∧(∀r∈news,r.length=sz+1)∧∀(i:Nat) r (j:Nat) y,news[i]?=some r→r[j]?=some y→∃u,cur'[(m+i) *(sz+1)+j]?=some u∧Dr B w y u:=by
  obtain⟨hu,i,z,hi,hz,hs1,hs2,hs3⟩:=tyA_out ht
  obtain⟨ad,c,rfl,q1,q2,q3,q4⟩:=hx.slice
  have hown:w.ownsRow 0 e (sz+1) (.slice (some ⟨g,0,none⟩) m cap) m (cur.toList.take (m *(sz+1))):=by
    refine⟨?_,.inr ⟨g,cap,cur,rfl,Nat.zero_le _,hg,hmc,hcm,hcs.symm,rfl⟩⟩
    have:=Nat.mul_le_mul_right (sz+1) hmc
    rw[List.length_take,Array.length_toList];omega
  cases ad with
  |none=>
    have:=q3 rfl
    have hn0:news=[]:=List.eq_nil_of_length_eq_zero (by omega)
    subst hn0 this
    exact⟨w,g,cap,cur,run_append_owned_none (P:=P) w 0 t ty e i (sz+1) hu hi _ m _ hown,World.grownBy.refl _ _,.inl rfl,hg,by simpa using hmc,hcm,hcs,fun _ _=>rfl,fun r hr=>(by cases hr),fun i r j y h=>(by simp at h)⟩
  |some ad=>
    obtain⟨vss,f1,f2,f3,f4,f5⟩:=hx.flat
    have hfl:vss.flatten.length=news.length *(sz+1):=by rw[flat_len f2,f1]
    obtain⟨v',w',hr,hp⟩:=run_app (P:=P) w 0 t ty e i z (sz+1) by' hu hi hz hs1 hs2 hs3 (by omega) (.slice (some ⟨g,0,none⟩) m cap) m _ hown ad news.length c vss.flatten hfl f5
      (fun u hu=>by
        obtain⟨p,hp⟩:=List.mem_iff_getElem?.1 hu
        have hc:=f5 p u hp
        have hpl:=(List.getElem?_eq_some_iff.1 hp).1
        rw[hfl]at hpl
        have hs:0<sz+1:=by omega
        have hdiv:p / (sz+1)<news.length:=(Nat.div_lt_iff_lt_mul hs).2 hpl
        have hmod:=Nat.mod_lt p hs
        have hdm:p=p / (sz+1) *(sz+1)+p % (sz+1):=by rw[Nat.mul_comm];exact(Nat.div_add_mod p (sz+1)).symm
        have hrl:=f3 _ (List.getElem_mem hdiv)
        obtain⟨vs,u',h1,h2,h3⟩:=f4 (p / (sz+1)) _ (p % (sz+1)) _ (List.getElem?_eq_getElem hdiv) (List.getElem?_eq_getElem (by omega))
        rw[hdm,flat_get f2 _ _ hmod,h1]at hp
        simp only[Option.bind_some,h2,Option.some.injEq]at hp
        rw[←hp];exact h3.one)
      (by unfold maxLen;omega) (by have:=Nat.mul_le_mul hn hby;omega) (Nat.zero_le _)
    obtain⟨p1,p2,p3⟩:=hp
    have hol:m *(sz+1)≤cur.size:=by have:=Nat.mul_le_mul_right (sz+1) hmc;omega
    rcases p1.2 with⟨rfl,h0⟩|⟨g',cap',cur',rfl,_,k1,k2,k3,k4,k5⟩
    ·rcases p3 with h|⟨k,h,_⟩<;>cases h
    · have hat : ∀ p, p < (m + news.length) * (sz + 1) → cur'[p]? = (cur.toList.take (m * (sz + 1)) ++ vss.flatten)[p]? := fun p hp => by
        rw[←k5,List.getElem?_take,if_pos hp,Array.getElem?_toList]
      have htl:(cur.toList.take (m *(sz+1))).length=m *(sz+1):=by rw[List.length_take,Array.length_toList];omega
      refine⟨w',g',cap',cur',hr,p2,?_,k1,k2,k3,k4.symm,fun p hp=>?_,f3,fun l r j y hl hj=>?_⟩
      · rcases p3 with h|⟨k,h,h2⟩
        ·exact .inl (Option.some.inj h)
        ·exact .inr (by have:=Option.some.inj h;simp only at this;omega)
      ·rw[hat p (by rw[Nat.add_mul];omega),List.getElem?_append_left (by omega),List.getElem?_take,if_pos hp,Array.getElem?_toList]
      · obtain⟨vs,u,h1,h2,h3⟩:=f4 l r j y hl hj
        have hll:=(List.getElem?_eq_some_iff.1 hl).1
        have hjl:j<sz+1:=by have:=f3 r (List.mem_of_getElem? hl);have:=(List.getElem?_eq_some_iff.1 hj).1;omega
        refine⟨u,?_,h3⟩
        have hlt:(m+l) *(sz+1)+j<(m+news.length) *(sz+1):=by
          have:=Nat.mul_le_mul_right (sz+1) (show m+l+1≤m+news.length by omega)
          rw[Nat.add_mul (m+l)]at this;omega
        rw[hat _ hlt,List.getElem?_append_right (by rw[Nat.add_mul];omega),htl,show (m+l) *(sz+1)+j -m *(sz+1)=l *(sz+1)+j by rw[Nat.add_mul];omega,flat_get f2 _ _ hjl,h1]
        exact h2
theorem exec_app {ρ:Operand→Value} {s x:Operand} {ts:Array TypeId} (ho:o.op= .call {callee:=.builtin .append,args:=#[s,x],argTypes:=ts}) (w w':World) (v:Value) (h:(Builtin.append_ ts o.type #[ρ s,ρ x]).run P w= .ok v w'):(execOp ρ o).run P w= .ok (.value v) w':=by
  simp only[execOp,ho,resolve,invoke,builtin,Sem.run_bind,Sem.run_pure,Result.andThen_ok,List.map_toArray,List.map_cons,List.map_nil,h]
theorem St1.appB {t e:TypeId} {s x:Operand} {ts:Array TypeId} {sz by' k k' m:Nat} {rows:List (List C)} {news:List (List D)} (ho:o.op= .call {callee:=.builtin .append,args:=#[s,x],argTypes:=ts}) (hg:o.guard=none) (hd:o.dst=some d) (hn:Nat.blt d n=true) (hts:ts=#[t,t])
    (ht:tyA P t=some (e,sz+1,by',sz+1)) (hby:Nat.ble by' 32768=true) (hs':ev σ s=some (.o (.c (.own k (sz+1) m)))) (hb:lk σ (.b k)= .b e (sz+1) rows) (hx:ev σ x=some (.o (.c (.d (.list (sz+1) news))))) (hm:rows.length=m) (hl:rows.length+news.length≤4294967296) (hf:lk σ (.u k')= .no) (h100:Nat.ble 100 k'=true) (hkk:okk k k'=true):
    St1 P n ops o σ (.u k'::((rd s++rd x)++[.b k])) [.t d,.u k',.b k',.b k] ((.t d,.v (.o (.c (.own k' (sz+1) (m+news.length)))))::(.u k',.u)::(.b k',.b e (sz+1) (rows++news.map (·.map C.d)))::(.b k,.no)::σ):=
  St1.place hg hd hn hf h100 hkk rfl fun E bx τ a w hR hs=>by
    subst hts hm
    have hk:τ (.b k)= .b e (sz+1) rows:=(rd_r hR _ (by simp)).trans hb
    obtain⟨cap,e1,c1,c2,c3⟩:=ev_own hs' (rd_l (rd_l hR)) hs (Al_of hk)
    obtain⟨cur,h1,h2,h3,h4,h5⟩:=hs.box k e _ rows hk
    obtain⟨w',g',cap',cur',r1,r2,r3,r4,r5,r6,r7,r8,r9,r10⟩:=run_appB (ty:=o.type) ht w (bx k).1 rows.length cap cur h1 c1 c2 (by rw[h2];exact c3) (ev_list hx (rd_r (rd_l hR)) hs) hl (Nat.le_of_ble_eq_true hby)
    have hrl:(rows++news.map (·.map C.d)).length=rows.length+news.length:=by simp
    refine⟨_,w',g',(bx k).1,cur',exec_app ho w w' _ (by rw[e1];exact r1),?_,r2,.inr ⟨Al_of hk,rfl⟩,r4,by rw[hrl,←r7];exact Nat.mul_le_mul_right _ r5,fun i r hi=>?_,fun i r j c hi hj=>?_,fun r hr c hc l hl=>?_,fun bx' al B w2 hbx=>⟨rfl,fun _=>⟨cap',by rw[hbx],r5,r6,by rw[hbx];exact r7⟩⟩⟩
    ·exact r3.imp (fun h=>⟨Al_of hk,h⟩) id
    · rw[List.getElem?_append]at hi
      split at hi
      ·exact h4 i r hi
      · rw[List.getElem?_map]at hi
        cases hq:news[i -rows.length]? with
        |none=>rw[hq]at hi;cases hi
        |some r'=>rw[hq]at hi;cases hi;rw[List.length_map];exact r9 r' (List.mem_of_getElem? hq)
    · rw[List.getElem?_append]at hi
      split at hi
      · rename_i hlt
        obtain⟨u,h6,h7⟩:=h5 i r j c hi hj
        have hjl:j<sz+1:=by have:=h4 i r hi;have:=(List.getElem?_eq_some_iff.1 hj).1;omega
        have:=Nat.mul_le_mul_right (sz+1) (show i+1≤rows.length by omega)
        rw[Nat.add_mul]at this
        exact⟨u,(r8 _ (by omega)).trans h6,h7⟩
      · rename_i hge
        rw[List.getElem?_map]at hi
        cases hq:news[i -rows.length]? with
        |none=>rw[hq]at hi;cases hi
        |some r'=>
          rw[hq]at hi;cases hi
          rw[List.getElem?_map]at hj
          cases hy:r'[j]? with
          |none=>rw[hy]at hj;cases hj
          |some y=>
            rw[hy]at hj;cases hj
            obtain⟨u,h6,h7⟩:=r10 _ r' j y hq hy
            exact⟨u,by rw[show i=rows.length+(i -rows.length)by omega];exact h6,h7⟩
    · rw[List.mem_append]at hr
      rcases hr with hr|hr
      ·exact fun hu=>(hs.unused l hu).2.2 k e _ rows hk r hr c hc hl
      · obtain⟨r',_,rfl⟩:=List.mem_map.1 hr
        obtain⟨y,_,rfl⟩:=List.mem_map.1 hc
        cases hl
theorem St1.freshK {k:Nat} {R:List Res} {x:V} (hg:o.guard=none) (hd:o.dst=some d) (hn:Nat.blt d n=true)
    (h:∀(E:Env) (bx:Nat→Nat×Nat) (τ:Res→RC) (a:Act) (w:World),(∀r∈R,τ r=lk σ r)→SR E bx τ a w→
      ∃v w' q,(execOp a.eval o).run P w= .ok (.value v) w'∧((Al τ k∧q=(bx k).1)∨w.heap.size≤q)∧w.grownBy w' (some q)∧Vr bx (fun _=>False) (fun b=>Bf E bx τ b∨w.heap.size≤b∨(Al τ k∧b=(bx k).1∧100≤k∧k<1000)) w' x v∧x.refs=[]):
    St1 P n ops o σ R [.t d,.b k] ((.t d,.v x)::(.b k,.no)::σ):=by
  refine⟨fun r hr=>?_,fun E bx τ a w hE hR hs=>OW.plain hg fun Q=>?_⟩
  · simp only[List.mem_cons,List.not_mem_nil,or_false,not_or]at hr
    rw[lk_other _ _ _ _ (fun e=>hr.1 e.symm),lk_other _ _ _ _ (fun e=>hr.2 e.symm)]
  · obtain⟨v,w',q,hrun,h1,h2,h3,h4⟩:=h E bx τ a w hR hs
    have hk:=hs.killW h1 h2
    unfold Oper.wp
    rw[hrun,Oper.upon_value,hd]
    refine⟨bx,?_⟩
    have e1:ovr τ [.t d,.b k] ((.t d,.v x)::(.b k,.no)::σ)=upd (upd τ (.b k) .no) (.t d) (.v x):=by
      funext r
      simp only[ovr,lk_cons]
      by_cases r1:r= .t d
      ·subst r1;simp[upd_same]
      · by_cases r2:r= .b k
        ·subst r2;simp[upd]
        ·simp[upd,r1,r2]
    rw[e1]
    have hal:∀l,Al (upd τ (.b k) .no) l→Al τ l∧l≠k:=fun l ⟨e,sz,rows,hl⟩=>by
      by_cases e1:l=k
      ·subst e1;rw[upd_same]at hl;cases hl
      ·exact⟨⟨e,sz,rows,by rwa[upd_other _ _ (by simpa using e1)]at hl⟩,e1⟩
    refine hk.put (by rw[hE];simpa using hn) (h3.to (Same.refl _ _) (fun b hb hl=>?_) (fun l hl=>by rw[h4]at hl;cases hl)) (fun l hl=>by rw[h4]at hl;cases hl)
    rcases hb with hb|hb|⟨hb1,rfl,hb3,hb4⟩
    ·exact⟨hb.1,fun l hl=>hb.2 l (hal l hl).1⟩
    ·exact⟨.inr (Nat.le_trans hs.hsize hb),fun l hl e=>by have:=hs.lt (hal l hl).1;omega⟩
    · refine⟨?_,fun l hl e=>(hal l hl).2 (hs.inj l k (hal l hl).1 hb1 e.symm)⟩
      rcases hs.own k hb1 with h5|⟨h5,_⟩
      ·exact .inr h5
      ·omega
section
variable {t e : TypeId} {s x : Operand} {ts : Array TypeId} {sz by' k k' m : Nat} {news : List (List D)}
theorem run_appN {ty:TypeId} (ht:tyA P t=some (e,sz+1,by',sz+1)) (w:World) {B:Nat→Prop} {x:Value} (hx:Dr B w (.list (sz+1) news) x) (h0:0<news.length) (hn:news.length≤4294967296) (hby:by'≤32768):
    ∃(w':World) (g' cap':Nat) (cur':Array Value),(Builtin.append_ #[t,t] ty #[.slice none 0 0,x]).run P w= .ok (.slice (some ⟨g',0,none⟩) news.length cap') w'∧w.grownBy w' none∧w.heap.size≤g'∧w'.heap[g']?=some (.cells cur' e (0,0))∧
      news.length≤cap'∧cap'≤maxLen∧cap' *(sz+1)=cur'.size∧(∀r∈news,r.length=sz+1)∧∀(i:Nat) r (j:Nat) y,news[i]?=some r→r[j]?=some y→∃u,cur'[i *(sz+1)+j]?=some u∧Dr B w y u:=by
  obtain⟨hu,i,z,hi,hz,hs1,hs2,hs3⟩:=tyA_out ht
  obtain⟨ad,c,rfl,q1,q2,q3,q4⟩:=hx.slice
  obtain⟨b,off,rfl,_⟩:=q4 h0
  obtain⟨vss,f1,f2,f3,f4,f5⟩:=hx.flat
  have hfl:vss.flatten.length=news.length *(sz+1):=by rw[flat_len f2,f1]
  obtain ⟨v', w', hr, p1, p2, p3⟩ := run_append_own (P := P) w w.heap.size t ty e i z (sz + 1) by' hu hi hz hs1 hs2 hs3 (by omega) _ 0 [] (World.ownsRow_nil w _ e (sz + 1)) ⟨b, off, none⟩ news.length c vss.flatten hfl f5
      (fun u hu=>by
        obtain⟨p,hp⟩:=List.mem_iff_getElem?.1 hu
        have hpl:=(List.getElem?_eq_some_iff.1 hp).1
        rw[hfl]at hpl
        have hs:0<sz+1:=by omega
        have hdiv:p / (sz+1)<news.length:=(Nat.div_lt_iff_lt_mul hs).2 hpl
        have hmod:=Nat.mod_lt p hs
        have hdm:p=p / (sz+1) *(sz+1)+p % (sz+1):=by rw[Nat.mul_comm];exact(Nat.div_add_mod p (sz+1)).symm
        have hrl:=f3 _ (List.getElem_mem hdiv)
        obtain⟨vs,u',h1,h2,h3⟩:=f4 (p / (sz+1)) _ (p % (sz+1)) _ (List.getElem?_eq_getElem hdiv) (List.getElem?_eq_getElem (by rw[hrl];exact hmod))
        rw[hdm,flat_get f2 _ _ hmod,h1]at hp
        simp only[Option.bind_some,h2,Option.some.injEq]at hp
        rw[←hp];exact h3.one)
      (by unfold maxLen;omega) (by have:=Nat.mul_le_mul (show 0+news.length≤4294967296 by omega) hby;omega) (Nat.le_refl _)
  rw[Nat.zero_add,List.nil_append]at p1
  rcases p1.2 with⟨rfl,h9⟩|⟨g',cap',cur',rfl,hge,k1,k2,k3,k4,k5⟩
  ·omega
  · refine⟨w',g',cap',cur',hr,p2,hge,k1,k2,k3,k4.symm,f3,fun l r j y hl hj=>?_⟩
    obtain⟨vs,u,h1,h2,h3⟩:=f4 l r j y hl hj
    have hll:=(List.getElem?_eq_some_iff.1 hl).1
    have hjl:j<sz+1:=by have:=f3 r (List.mem_of_getElem? hl);have:=(List.getElem?_eq_some_iff.1 hj).1;omega
    refine⟨u,?_,h3⟩
    have hlt:l *(sz+1)+j<news.length *(sz+1):=by
      have:=Nat.mul_le_mul_right (sz+1) (show l+1≤news.length by omega)
      rw[Nat.add_mul l]at this;omega
    have:cur'[l *(sz+1)+j]?=vss.flatten[l *(sz+1)+j]?:=by rw[←k5,List.getElem?_take,if_pos hlt,Array.getElem?_toList]
    rw[this,flat_get f2 _ _ hjl,h1]
    exact h2
theorem St1.appN (ho:o.op= .call {callee:=.builtin .append,args:=#[s,x],argTypes:=ts}) (hg:o.guard=none) (hd:o.dst=some d) (hn:Nat.blt d n=true) (hts:ts=#[t,t])
    (ht:tyA P t=some (e,sz+1,by',sz+1)) (hby:Nat.ble by' 32768=true) (hs':ev σ s=some (.o (.c (.d (.val (.slice none 0 0)))))) (hx:ev σ x=some (.o (.c (.d (.list (sz+1) news))))) (h0:0<news.length) (hl:news.length≤4294967296) (hf:lk σ (.u k')= .no) (h100:Nat.ble 100 k'=true):
    St1 P n ops o σ (.u k'::(rd s++rd x)) [.t d,.u k',.b k',.b k'] ((.t d,.v (.o (.c (.own k' (sz+1) news.length))))::(.u k',.u)::(.b k',.b e (sz+1) (news.map (·.map C.d)))::(.b k',.no)::σ):=
  St1.place hg hd hn hf h100 (okk_self h100) rfl fun E bx τ a w hR hs=>by
    subst hts
    obtain⟨w',g',cap',cur',r1,r2,r3,r4,r5,r6,r7,r9,r10⟩:=run_appN (ty:=o.type) ht w (ev_list hx (rd_r hR) hs) h0 hl (Nat.le_of_ble_eq_true hby)
    refine⟨_,w',g',g',cur',exec_app ho w w' _ (by rw[ev_val hs' (rd_l hR) hs];exact r1),.inr r3,⟨r2.os,r2.tape,r2.output,r2.size,fun b hb _=>r2.block b hb (by simp)⟩,.inl rfl,r4,by rw[List.length_map,←r7];exact Nat.mul_le_mul_right _ r5,fun i r hi=>?_,fun i r j c hi hj=>?_,fun r hr c hc l hl=>?_,fun bx' al B w2 hbx=>⟨rfl,fun _=>⟨cap',by rw[hbx],r5,r6,by rw[hbx];exact r7⟩⟩⟩
    · rw[List.getElem?_map]at hi
      cases hq:news[i]? with
      |none=>rw[hq]at hi;cases hi
      |some r'=>rw[hq]at hi;cases hi;rw[List.length_map];exact r9 r' (List.mem_of_getElem? hq)
    · rw[List.getElem?_map]at hi
      cases hq:news[i]? with
      |none=>rw[hq]at hi;cases hi
      |some r'=>
        rw[hq]at hi;cases hi
        rw[List.getElem?_map]at hj
        cases hy:r'[j]? with
        |none=>rw[hy]at hj;cases hj
        |some y=>
          rw[hy]at hj;cases hj
          exact r10 _ r' j y hq hy
    · obtain⟨r',_,rfl⟩:=List.mem_map.1 hr
      obtain⟨y,_,rfl⟩:=List.mem_map.1 hc
      cases hl
theorem St1.appD {rows:List (List D)} (ho:o.op= .call {callee:=.builtin .append,args:=#[s,x],argTypes:=ts}) (hg:o.guard=none) (hd:o.dst=some d) (hn:Nat.blt d n=true) (hts:ts=#[t,t])
    (ht:tyA P t=some (e,sz+1,by',sz+1)) (hby:Nat.ble by' 32768=true) (hs':ev σ s=some (.o (.c (.own k (sz+1) m)))) (hb:lk σ (.b k)= .b e (sz+1) (rows.map (·.map C.d))) (hx:ev σ x=some (.o (.c (.d (.list (sz+1) news))))) (hm:rows.length=m) (hl:rows.length+news.length≤4294967296) (hkk:(Nat.ble 100 k&&Nat.ble k 999)=true):
    St1 P n ops o σ ((rd s++rd x)++[.b k]) [.t d,.b k] ((.t d,.v (.o (.c (.d (.list (sz+1) (rows++news))))))::(.b k,.no)::σ):=
  St1.freshK hg hd hn fun E bx τ a w hR hs=>by
    subst hts hm
    have hk:τ (.b k)= .b e (sz+1) (rows.map (·.map C.d)):=(rd_r hR _ (by simp)).trans hb
    rw[Bool.and_eq_true]at hkk
    have hk1:=Nat.le_of_ble_eq_true hkk.1
    have hk2:=Nat.le_of_ble_eq_true hkk.2
    obtain⟨cap,e1,c1,c2,c3⟩:=ev_own hs' (rd_l (rd_l hR)) hs (Al_of hk)
    obtain⟨cur,h1,h2,h3,h4,h5⟩:=hs.box k e _ _ hk
    have hold:∀(i:Nat) r (j:Nat) y,rows[i]?=some r→r[j]?=some y→r.length=sz+1∧∃u,cur[i *(sz+1)+j]?=some u∧Dr (Bf E bx τ) w y u:=fun i r j y hi hj=>by
      have hi':(rows.map (·.map C.d))[i]?=some (r.map C.d):=by rw[List.getElem?_map,hi];rfl
      obtain⟨u,h6,h7⟩:=h5 i _ j (.d y) hi' (by rw[List.getElem?_map,hj];rfl)
      exact⟨by have:=h4 i _ hi';rwa[List.length_map]at this,u,h6,h7⟩
    obtain⟨w',g',cap',cur',r1,r2,r3,r4,r5,r6,r7,r8,r9,r10⟩:=run_appB (ty:=o.type) ht w (bx k).1 rows.length cap cur h1 c1 c2 (by rw[h2];exact c3) (ev_list hx (rd_r (rd_l hR)) hs) hl (Nat.le_of_ble_eq_true hby)
    have hsm:Same (Bf E bx τ) w w':=grown_same r2 (fun b hb e=>by cases e;exact hb.2 k (Al_of hk) rfl)
    have hget:∀(i:Nat) r (j:Nat) y,(rows++news)[i]?=some r→r[j]?=some y→r.length=sz+1∧∃u,cur'[i *(sz+1)+j]?=some u∧Dr (Bf E bx τ) w y u:=fun i r j y hi hj=>by
      rw[List.getElem?_append]at hi
      split at hi
      · rename_i hlt
        obtain⟨h0,u,h6,h7⟩:=hold i r j y hi hj
        have hjl:j<sz+1:=by have:=(List.getElem?_eq_some_iff.1 hj).1;omega
        have:=Nat.mul_le_mul_right (sz+1) (show i+1≤rows.length by omega)
        rw[Nat.add_mul]at this
        exact⟨h0,u,(r8 _ (by omega)).trans h6,h7⟩
      · rename_i hge
        obtain⟨u,h6,h7⟩:=r10 _ r j y hi hj
        exact⟨r9 r (List.mem_of_getElem? hi),u,by rw[show i=rows.length+(i -rows.length)by omega];exact h6,h7⟩
    have hlen:∀(i:Nat) r,(rows++news)[i]?=some r→r.length=sz+1:=fun i r hi=>by
      rw[List.getElem?_append]at hi
      split at hi
      · have hi':(rows.map (·.map C.d))[i]?=some (r.map C.d):=by rw[List.getElem?_map,hi];rfl
        have:=h4 i _ hi';rwa[List.length_map]at this
      ·exact r9 r (List.mem_of_getElem? hi)
    refine⟨_,w',(bx k).1,exec_app ho w w' _ (by rw[e1];exact r1),.inl ⟨Al_of hk,rfl⟩,r2,?_,rfl⟩
    refine Dr.list _ (rows++news) _ _ _ g' 0 (fun i j=>cur'.getD (i *(sz+1)+j) undef) (by rw[List.length_append]) r5 (by omega) (fun h=>by cases h) (fun _=>rfl) hlen (fun i r j y hi hj=>⟨?_,?_⟩) (fun i r j y hi hj=>?_)
    · rcases r3 with rfl|h6
      ·exact .inr (.inr ⟨Al_of hk,rfl,hk1,by omega⟩)
      ·exact .inr (.inl h6)
    · obtain⟨_,u,h6,_⟩:=hget i r j y hi hj
      rw[cell_of_row _ _ _ _ _ _ r4,Nat.zero_add,h6]
      simp[Array.getD_eq_getD_getElem?,h6]
    · obtain⟨_,u,h6,h7⟩:=hget i r j y hi hj
      simp only[Array.getD_eq_getD_getElem?,h6,Option.getD_some]
      exact(h7.frame hsm).mono fun b hb _=>.inl hb
end
/-! #### slice expressions -/
section
variable {t e : TypeId} {x y z : Operand} {sz sz' by' k l : Nat} {p q : Int} {rows : List (List D)}
end
/-! #### function values, min, max, guards -/
def cellsP:List V1→Option (List (List D))
  |[]=>some []
  | .c (.ptr cells)::l=>(cellsP l).map (cells::·)
  |_=>none
theorem cellsP_ok:∀ {l:List V1} {cap:List (List D)},cellsP l=some cap→l=cap.map fun c=>.c (.ptr c)
  |[],cap,h=>by cases h;rfl
  | .c (.ptr cells)::l,cap,h=>by
    simp only[cellsP,Option.map_eq_some_iff]at h
    obtain⟨r,hr,rfl⟩:=h
    rw[cellsP_ok hr];rfl
theorem St1.makeFunc {f:FuncId} {captured:Array Operand} {xs:List Operand} {vs:List V1} {cap:List (List D)} (ho:o.op= .makeFunc (.func f) #[] captured) (hg:o.guard=none) (hd:o.dst=some d) (hn:Nat.blt d n=true) (hxs:captured=xs.toArray) (hx:evL σ xs=some vs) (hc:cellsP vs=some cap):
    St1 P n ops o σ (rdL xs) [.t d] ((.t d,.v (.o (.c (.fn f cap))))::σ):=
  St1.value hg hd hn fun E bx τ a w hR hs=>by
    subst hxs
    obtain⟨⟨q1,q2⟩,_⟩:=evL_ok hx hR hs
    have hcs:=cellsP_ok hc
    subst hcs
    refine⟨⟨.func (.func f) #[] (xs.map a.eval).toArray,by simp[execOp,ho,Instr.makeFunc],_,rfl,by rw[q1,List.length_map],fun i c u hci hu=>?_⟩,fun k hk=>by cases hk⟩
    exact q2 i (.c (.ptr c)) u (by rw[List.getElem?_map,hci];rfl) hu
section
variable {x y : Operand} {p q : Int} {ts : Array TypeId}
theorem St1.max2 (ho:o.op= .call {callee:=.builtin .max,args:=#[x,y],argTypes:=ts}) (hg:o.guard=none) (hd:o.dst=some d) (hn:Nat.blt d n=true) (hx:ev σ x=some (.o (nat1 p))) (hy:ev σ y=some (.o (nat1 q))):
    St1 P n ops o σ (rd x++rd y) [.t d] ((.t d,.v (.o (nat1 (max p q))))::σ):=
  St1.value hg hd hn fun E bx τ a w hR hs=>by
    refine⟨⟨.int .i64 (max p q),?_,.val _ rfl⟩,fun k hk=>by cases hk⟩
    simp only[execOp,ho,resolve,invoke,builtin,List.map_toArray,List.map_cons,List.map_nil,ev_val hx (rd_l hR) hs,ev_val hy (rd_r hR) hs,Builtin.max_,List.foldlM,Builtin.max2,Sem.run_bind,Sem.run_pure,Result.andThen_ok]
    rw[show (if q>p then q else p)=max p q by omega]
theorem St1.min2 (ho:o.op= .call {callee:=.builtin .min,args:=#[x,y],argTypes:=ts}) (hg:o.guard=none) (hd:o.dst=some d) (hn:Nat.blt d n=true) (hx:ev σ x=some (.o (nat1 p))) (hy:ev σ y=some (.o (nat1 q))):
    St1 P n ops o σ (rd x++rd y) [.t d] ((.t d,.v (.o (nat1 (min p q))))::σ):=
  St1.value hg hd hn fun E bx τ a w hR hs=>by
    refine⟨⟨.int .i64 (min p q),?_,.val _ rfl⟩,fun k hk=>by cases hk⟩
    simp only[execOp,ho,resolve,invoke,builtin,List.map_toArray,List.map_cons,List.map_nil,ev_val hx (rd_l hR) hs,ev_val hy (rd_r hR) hs,Builtin.min_,List.foldlM,Builtin.min2,Sem.run_bind,Sem.run_pure,Result.andThen_ok]
    rw[show (if q<p then q else p)=min p q by omega]
end
theorem yielded_at {E:Env} {bx:Nat→Nat×Nat} {τ:Res→RC} {a:Act} {w:World} (hs:SR E bx τ a w) {i:Nat} {t:Tmp} {c:Bool} (hi:(ops[i]?).bind (·.dst)=some t) (h:τ (.t t)= .v (.o (bo1 c))) (ht:t<E.n):yielded ops a.tmps i=some c:=by
  have h1:=hs.evalBool h
  have h2:t<a.tmps.size:=by rw[hs.size];exact ht
  have h3:a.tmps[t]?=some (.bool c):=by
    rw[Array.getElem?_eq_getElem h2]
    have h4:a.tmps.getD t undef= .bool c:=h1
    rw[Array.getD_eq_getD_getElem?,Array.getElem?_eq_getElem h2]at h4
    simpa using h4
  simp[yielded,hi,h3]
theorem St1.guardT {i:Nat} {b c:Bool} {t:Tmp} {R W:List Res} {σ':St} (hg:o.guard=some (i,b)) (hi:(ops[i]?).bind (·.dst)=some t) (ht:Nat.blt t n=true) (hv:lk σ (.t t)= .v (.o (bo1 c))) (hc:c=b) (h:St1 P n ops {o with guard:=none} σ R W σ'):St1 P n ops o σ (.t t::R) W σ':=by
  refine⟨h.1,fun E bx τ a w hE hR hs Q=>?_⟩
  have hy:=yielded_at (ops:=ops) hs hi ((hR _ List.mem_cons_self).trans hv) (by rw[hE];simpa using ht)
  have h2:=h.2 E bx τ a w hE (fun r hr=>hR r (List.mem_cons_of_mem _ hr)) hs Q
  rw[if_pos (by simp[Region.wanted])]at h2
  rw[if_pos (by simp[Region.wanted,hg,hy,hc])]
  exact h2
theorem undef_tup {bx:Nat→Nat×Nat} {al B:Nat→Prop} {w:World}:Vr bx al B w (.tup []) undef:=⟨[],rfl,rfl,fun i c u h=>by simp at h⟩
theorem guard_no {i:Nat} {b:Bool} {t:Tmp} {c:V} (hg:o.guard=some (i,b)) (hd:o.dst=some d) (hn:Nat.blt d n=true) (hv:lk σ (.t t)= .v c)
    (hy:∀(E:Env) (bx:Nat→Nat×Nat) (τ:Res→RC) (a:Act) (w:World),E.n=n→τ (.t t)= .v c→SR E bx τ a w→yielded ops a.tmps i≠some b):St1 P n ops o σ [.t t] [.t d] ((.t d,.v (.tup []))::σ):=by
  refine⟨fun r hr=>lk_other _ _ _ _ (fun e=>hr (by rw[←e];simp)),fun E bx τ a w hE hR hs Q=>?_⟩
  have hy:=hy E bx τ a w hE ((hR _ List.mem_cons_self).trans hv) hs
  rw[if_neg (by simpa [Region.wanted,hg]using hy)]
  refine⟨bx,?_⟩
  have e:ovr τ [.t d] ((.t d,.v (.tup []))::σ)=upd τ (.t d) (.v (.tup [])):=by
    funext r
    by_cases hr:r= .t d
    ·subst hr;simp[ovr,upd,lk_same]
    ·simp[ovr,upd,hr]
  rw[e,hd]
  exact hs.put (by rw[hE];simpa using hn) undef_tup (fun k hk=>by cases hk)
theorem St1.guardF {i:Nat} {b c:Bool} {t:Tmp} (hg:o.guard=some (i,b)) (hd:o.dst=some d) (hi:(ops[i]?).bind (·.dst)=some t) (ht:Nat.blt t n=true) (hn:Nat.blt d n=true) (hv:lk σ (.t t)= .v (.o (bo1 c))) (hc:c= !b):St1 P n ops o σ [.t t] [.t d] ((.t d,.v (.tup []))::σ):=
  guard_no hg hd hn hv fun E bx τ a w hE h hs=>by
    rw[yielded_at (ops:=ops) hs hi h (by rw[hE];simpa using ht),hc]
    cases b<;>simp
theorem St1.guardU {i:Nat} {b:Bool} {t:Tmp} (hg:o.guard=some (i,b)) (hd:o.dst=some d) (hi:(ops[i]?).bind (·.dst)=some t) (ht:Nat.blt t n=true) (hn:Nat.blt d n=true) (hv:lk σ (.t t)= .v (.tup [])):St1 P n ops o σ [.t t] [.t d] ((.t d,.v (.tup []))::σ):=
  guard_no hg hd hn hv fun E bx τ a w hE h hs=>by
    have h2:t<a.tmps.size:=by rw[hs.size,hE];simpa using ht
    obtain⟨vs,h3,h4,_⟩:=hs.slot t _ h
    have h5:vs=[]:=List.eq_nil_of_length_eq_zero h4
    subst h5
    have h6:a.tmps[t]?=some (.tuple #[]):=by
      rw[Array.getD_eq_getD_getElem?,Array.getElem?_eq_getElem h2]at h3
      rw[Array.getElem?_eq_getElem h2]
      exact congrArg some h3
    simp[yielded,hi,h6]
end
def dR (rows:List (List D)):List (List C):=rows.map (·.map C.d)
abbrev Inv:=List (Nat×Nat)
inductive Cto (σ:St) (inv:Inv):C→C→Prop
  |d (x y:D) (h:x=y):Cto σ inv (.d x) (.d y)
  |nil (sz:Nat):Cto σ inv (.d (.val (.slice none 0 0))) (.d (.list sz []))
  |nilT (sz:Nat):Cto σ inv (.d (.val (.slice none 0 0))) (.d (.tree (fun _=>False) (.list sz [])))
  |er (S:Nat→Prop) (x:D):Cto σ inv (.d (.tree S x)) (.d x)
  |ptr (x y:List D) (h:x=y):Cto σ inv (.ptr x) (.ptr y)
  |fn (f:FuncId) (c:List (List D)):Cto σ inv (.fn f c) (.fn f c)
  |fb (f:FuncId) (k k' sz:Nat) (h:(k',k)∈inv):Cto σ inv (.fb f k sz) (.fb f k' sz)
  |off (k k' sz i n m:Nat) (h:(k',k)∈inv) (hn:n=m):Cto σ inv (.off k sz i n) (.off k' sz i m)
  |box (k k' sz i j i':Nat) (h:(k',k)∈inv) (hi:i=i'):Cto σ inv (.box k sz i j) (.box k' sz i' j)
  |own (k k' sz n m:Nat) (h:(k',k)∈inv) (hn:n=m):Cto σ inv (.own k sz n) (.own k' sz m)
  |frz (k sz n:Nat) (e:TypeId) (rows:List (List C)) (rows':List (List D)) (h:lk σ (.b k)= .b e sz rows) (hr:rows=dR rows') (hk:(Nat.ble 100 k&&Nat.ble k 999)=true) (hi:(inv.all fun p=> !Nat.beq p.2 k)=true) (hn:n=rows'.length) (hs:n≤17592186044416):Cto σ inv (.own k sz n) (.d (.list sz rows'))
  |frzP (k sz i j:Nat) (e:TypeId) (rows:List (List C)) (rows':List (List D)) (r:List D) (h:lk σ (.b k)= .b e sz rows) (hr:rows=dR rows') (hk:(Nat.ble 100 k&&Nat.ble k 999)=true) (hi:(inv.all fun p=> !Nat.beq p.2 k)=true) (hri:rows'[i]?=some r):Cto σ inv (.box k sz i j) (.ptr (r.drop j))
inductive Ctos (σ:St) (inv:Inv):List C→List C→Prop
  |nil:Ctos σ inv [] []
  |cons {c c':C} {l l':List C} (h:Cto σ inv c c') (hs:Ctos σ inv l l'):Ctos σ inv (c::l) (c'::l')
  |dat (l:List C) (l':List C) (ds:List D) (h:l=ds.map C.d) (h':l'=ds.map C.d):Ctos σ inv l l'
inductive Vto (σ:St) (inv:Inv):V→V→Prop
  |c {c c':C} (h:Cto σ inv c c'):Vto σ inv (.o (.c c)) (.o (.c c'))
  |agg {l l':List C} (h:Ctos σ inv l l'):Vto σ inv (.o (.agg l)) (.o (.agg l'))
  |dat (v v':V) (h:v=v') (hr:v.refs=[]):Vto σ inv v v'
inductive Rto (σ:St) (inv:Inv):List (List C)→List (List C)→Prop
  |dat (rows rows':List (List C)) (l:List (List D)) (h:rows=dR l) (h':rows'=dR l):Rto σ inv rows rows'
  |nil:Rto σ inv [] []
  |cons {r r':List C} {l l':List (List C)} (h:Ctos σ inv r r') (hs:Rto σ inv l l'):Rto σ inv (r::l) (r'::l')
  |app {a a' b b':List (List C)} (h:Rto σ inv a a') (hs:Rto σ inv b b'):Rto σ inv (a++b) (a'++b')
theorem Cto.nilE {σ:St} {inv:Inv} {x:D} (sz:Nat) (h:x= .list sz []):Cto σ inv (.d (.val (.slice none 0 0))) (.d x):=by subst h;exact .nil sz
theorem Rto.eq {σ:St} {inv:Inv} {a a' b b':List (List C)} (e:a=a') (e':b=b') (h:Rto σ inv a' b'):Rto σ inv a b:=by subst e e';exact h
def KeepOk (σ:St) (inv:Inv):St→Prop
  |[]=>True
  |(.t t,.v x')::l=>(∃x,lk σ (.t t)= .v x∧Vto σ inv x x')∧KeepOk σ inv l
  |(.b k',.b e sz rows')::l=>(∃k rows,(k',k)∈inv∧lk σ (.b k)= .b e sz rows∧Rto σ inv rows rows')∧KeepOk σ inv l
  |(.u _,.u)::l=>KeepOk σ inv l
  |_=>False
def invOk (inv:Inv):Bool:=inv.all (fun p=>Nat.beq p.1 p.2||(Nat.ble 100 p.1&&Nat.ble 100 p.2&&(Nat.ble p.2 999||Nat.ble 1000 p.1))||(Nat.ble p.2 99&&Nat.ble 1000 p.1))&&inv.all (fun p=>inv.all fun q=>(Nat.beq p.1 q.1)==(Nat.beq p.2 q.2))
def usedOk (σ':St) (inv:Inv):Bool:=inv.all fun p=>match lk σ' (.u p.1)with
  | .u=>true
  |_=>false
theorem lk_mem:∀ {σ:St} {r:Res} {x:RC},lk σ r=x→x≠ .no→(r,x)∈σ
  |[],r,x,h,hn=>absurd h.symm hn
  |(q,y)::l,r,x,h,hn=>by
    rw[lk_cons]at h
    by_cases e:r=q
    · subst e
      rw[upd_same]at h
      subst h
      exact List.mem_cons_self
    · rw[upd_other _ _ e]at h
      exact List.mem_cons_of_mem _ (lk_mem h hn)
theorem KeepOk.t {σ:St} {inv:Inv}:∀ {σ':St} {t:Nat} {x':V},KeepOk σ inv σ'→(Res.t t,RC.v x')∈σ'→∃x,lk σ (.t t)= .v x∧Vto σ inv x x'
  |[],_,_,_,h=>by cases h
  |p::l,t,x',hk,h=>by
    rcases List.mem_cons.1 h with rfl|h2
    ·exact hk.1
    · clear h
      obtain⟨r,c⟩:=p
      cases r<;>cases c<;>first|exact hk.elim|exact KeepOk.t hk.2 h2|exact KeepOk.t (σ':=l) hk h2
theorem KeepOk.b {σ:St} {inv:Inv}:∀ {σ':St} {k':Nat} {e:TypeId} {sz:Nat} {rows':List (List C)},KeepOk σ inv σ'→(Res.b k',RC.b e sz rows')∈σ'→∃k rows,(k',k)∈inv∧lk σ (.b k)= .b e sz rows∧Rto σ inv rows rows'
  |[],_,_,_,_,_,h=>by cases h
  |p::l,k',e,sz,rows',hk,h=>by
    rcases List.mem_cons.1 h with rfl|h2
    ·exact hk.1
    · clear h
      obtain⟨r,c⟩:=p
      cases r<;>cases c<;>first|exact hk.elim|exact KeepOk.b hk.2 h2|exact KeepOk.b (σ':=l) hk h2
def oldOf (inv:Inv) (k':Nat):Nat:=match inv.find? fun p=>Nat.beq p.1 k' with
  |some p=>p.2
  |none=>k'
theorem oldOf_mem {inv:Inv} (h:invOk inv=true) {k' k:Nat} (hm:(k',k)∈inv):oldOf inv k'=k:=by
  rw[invOk,Bool.and_eq_true]at h
  unfold oldOf
  cases hf:inv.find? fun p=>Nat.beq p.1 k' with
  |none=>
    have:=List.find?_eq_none.1 hf (k',k) hm
    simp at this
  |some p=>
    have h1:=List.mem_of_find?_eq_some hf
    have h2:=List.find?_some hf
    have h3:=List.all_eq_true.1 (List.all_eq_true.1 h.2 p h1) (k',k) hm
    simp only at h3 h2
    rw[h2]at h3
    simp at h3
    exact h3
theorem inv_inj {inv:Inv} (h:invOk inv=true) {k' k l':Nat} (hm:(k',k)∈inv) (hl:(l',k)∈inv):k'=l':=by
  rw[invOk,Bool.and_eq_true]at h
  have h3:=List.all_eq_true.1 (List.all_eq_true.1 h.2 _ hm) _ hl
  simp at h3
  exact h3
theorem inv_num {inv:Inv} (h:invOk inv=true) {k' k:Nat} (hm:(k',k)∈inv):k'=k∨(100≤k'∧100≤k∧(k≤999∨1000≤k'))∨(k≤99∧1000≤k'):=by
  rw[invOk,Bool.and_eq_true]at h
  have h3:=List.all_eq_true.1 h.1 _ hm
  simp at h3
  omega
section
variable {E : Env} {bx : Nat → Nat × Nat} {a : Act} {w : World} {σ σ' : St} {inv : Inv}
theorem Ctos.get {l l':List C} (h:Ctos σ inv l l'):l'.length=l.length∧∀(i:Nat) c',l'[i]?=some c'→∃c,l[i]?=some c∧Cto σ inv c c':=by
  induction h with
  |nil=>exact⟨rfl,fun i c' h=>by simp at h⟩
  |cons h hs ih=>
    refine⟨by simp[ih.1],fun i c' hi=>?_⟩
    cases i with
    |zero=>simp at hi;subst hi;exact⟨_,by simp,h⟩
    |succ i=>rw[List.getElem?_cons_succ]at hi ⊢;exact ih.2 i c' hi
  |dat l l' ds h h'=>
    subst h h'
    refine⟨rfl,fun i c' hi=>⟨c',hi,?_⟩⟩
    rw[List.getElem?_map]at hi
    cases hd:ds[i]? with
    |none=>rw[hd]at hi;cases hi
    |some x=>rw[hd]at hi;cases hi;exact .d x x rfl
theorem Rto.get {l l':List (List C)} (h:Rto σ inv l l'):l'.length=l.length∧∀(i:Nat) r',l'[i]?=some r'→∃r,l[i]?=some r∧Ctos σ inv r r':=by
  induction h with
  |nil=>exact⟨rfl,fun i c' h=>by simp at h⟩
  |cons h hs ih=>
    refine⟨by simp[ih.1],fun i c' hi=>?_⟩
    cases i with
    |zero=>simp at hi;subst hi;exact⟨_,by simp,h⟩
    |succ i=>rw[List.getElem?_cons_succ]at hi ⊢;exact ih.2 i c' hi
  |app h hs ih1 ih2=>
    refine⟨by simp[ih1.1,ih2.1],fun i r' hi=>?_⟩
    rw[List.getElem?_append]at hi ⊢
    rw[ih1.1]at hi
    split at hi
    ·rename_i hlt;rw[if_pos hlt];exact ih1.2 i r' hi
    ·rename_i hlt;rw[if_neg hlt];exact ih2.2 _ r' hi
  |dat rows rows' l h h'=>
    subst h h'
    refine⟨rfl,fun i r' hi=>⟨r',hi,?_⟩⟩
    unfold dR at hi
    rw[List.getElem?_map]at hi
    cases hd:l[i]? with
    |none=>rw[hd]at hi;cases hi
    |some x=>rw[hd]at hi;cases hi;exact .dat _ _ x rfl rfl
theorem Wk.keep (inv:Inv) (hi:invOk inv=true) (hu:usedOk σ' inv=true) (hk:KeepOk σ inv σ'):Wk σ σ':=by
  intro E bx a w hs
  have hal:∀k',Al (lk σ') k'→∃k,(k',k)∈inv∧Al (lk σ) k∧oldOf inv k'=k:=by
    rintro k' ⟨e,sz,rows',h⟩
    obtain⟨k,rows,h1,h2,_⟩:=hk.b (lk_mem h (by simp))
    exact⟨k,h1,⟨e,sz,rows,h2⟩,oldOf_mem hi h1⟩
  have hbf:∀b,Bf E bx (lk σ) b→Bf E (fun k'=>bx (oldOf inv k')) (lk σ') b:=fun b hb=>⟨hb.1,fun k' hk'=>by
    obtain⟨k,_,h2,h3⟩:=hal k' hk'
    show b≠(bx (oldOf inv k')).1
    rw[h3];exact hb.2 k h2⟩
  have hfr:∀k,Al (lk σ) k→100≤k→k≤999→(∀p∈inv,p.2≠k)→Bf E (fun k'=>bx (oldOf inv k')) (lk σ') (bx k).1:=fun k h1 h2 h3 h4=>by
    refine⟨?_,fun k' hk' e=>?_⟩
    · rcases hs.own k h1 with h5|⟨h5,_⟩
      ·exact .inr h5
      ·omega
    · obtain⟨k0,h5,h6,h7⟩:=hal k' hk'
      have e':(bx k).1=(bx (oldOf inv k')).1:=e
      rw[h7]at e'
      exact h4 _ h5 (hs.inj _ _ h6 h1 e'.symm)
  have hC:∀ {c c':C} {v:Value},Cto σ inv c c'→Cr bx (Al (lk σ)) (Bf E bx (lk σ)) w c v→Cr (fun k'=>bx (oldOf inv k')) (Al (lk σ')) (Bf E (fun k'=>bx (oldOf inv k')) (lk σ')) w c' v:=by
    intro c c' v h hv
    cases h with
    |d x y h=>subst h;exact Dr.mono (fun b hb _=>hbf b hb) hv
    |nil sz=>
      have hv':Dr _ w (.val (.slice none 0 0)) v:=hv
      cases hv'
      exact Dr.list sz [] none 0 0 0 0 (fun _ _=>undef) rfl (Nat.le_refl _) (by omega) (fun _=>rfl) (fun h=>by simp at h) (fun i r h=>by simp at h) (fun i r j x h=>by simp at h) (fun i r j x h=>by simp at h)
    |nilT sz=>
      have hv':Dr _ w (.val (.slice none 0 0)) v:=hv
      cases hv'
      exact Dr.tree _ _ _ (fun b h=>h.elim) (fun b h=>h.elim) (DrU.list _ sz [] none 0 0 0 0 (fun _ _=>undef) (fun _ _ _=>False) rfl (Nat.le_refl _) (by omega) (fun _=>rfl) (fun h=>by simp at h) (fun i r h=>by simp at h) (fun i r j x h=>by simp at h) (fun _ _ _ h=>h.elim) (fun _ _ _ _ _ h=>h.elim) (fun i r j x h=>by simp at h))
    |er S x=>
      have hv':Dr _ w (.tree S x) v:=hv
      cases hv' with
      |tree _ _ _ hB hl h=>exact h.dr.mono fun b hb _=>hbf b (hB b hb)
    |ptr x y h=>subst h;exact Pr.mono (fun b hb _=>hbf b hb) hv
    |fn f cap=>
      obtain⟨vs,e,hl,h⟩:=hv
      exact⟨vs,e,hl,fun i c u hc hu=>(h i c u hc hu).mono fun b hb _=>hbf b hb⟩
    |fb f k k' sz h=>
      obtain⟨u,e,h0,hv⟩:=hv
      refine⟨u,e,h0,fun hk'=>?_⟩
      obtain⟨k0,h1,h2,h3⟩:=hal k' hk'
      have:k0=k:=by rw[←h3,oldOf_mem hi h]
      subst this
      show u= .pointer (some ⟨(bx (oldOf inv k')).1,_,none⟩)
      rw[h3];exact hv h2
    |box k k' sz i j i' h hi'=>
      subst hi'
      refine⟨hv.1,fun hk'=>?_⟩
      obtain⟨k0,h1,h2,h3⟩:=hal k' hk'
      have:k0=k:=by rw[←h3,oldOf_mem hi h]
      subst this
      show v= .pointer (some ⟨(bx (oldOf inv k')).1,_,none⟩)
      rw[h3];exact hv.2 h2
    |own k k' sz n m h hn=>
      subst hn
      refine⟨hv.1,fun hk'=>?_⟩
      obtain⟨k0,h1,h2,h3⟩:=hal k' hk'
      have:k0=k:=by rw[←h3,oldOf_mem hi h]
      subst this
      obtain⟨cap,h4⟩:=hv.2 h2
      exact⟨cap,by show v= .slice (some ⟨(bx (oldOf inv k')).1,0,none⟩) _ _∧_∧_∧_=(bx (oldOf inv k')).2;rw[h3];exact h4⟩
    |off k k' sz i n m h hn=>
      subst hn
      refine⟨hv.1,fun hk'=>?_⟩
      obtain⟨k0,h1,h2,h3⟩:=hal k' hk'
      have:k0=k:=by rw[←h3,oldOf_mem hi h]
      subst this
      obtain⟨cap,h4⟩:=hv.2 h2
      exact⟨cap,by show v= .slice (some ⟨(bx (oldOf inv k')).1,_,none⟩) _ _∧_∧_;rw[h3];exact h4⟩
    |frz k sz n e rows rows' h hr hkk hii hn hs'=>
      subst hr hn
      rw[Bool.and_eq_true]at hkk
      have hk1:=Nat.le_of_ble_eq_true hkk.1
      have hk2:=Nat.le_of_ble_eq_true hkk.2
      have hni:∀p∈inv,p.2≠k:=fun p hp e=>by have:=List.all_eq_true.1 hii p hp;rw[e]at this;simp at this
      obtain⟨cap,rfl,h1,h2,h3⟩:=hv.2 ⟨e,sz,_,h⟩
      obtain⟨cur,h4,h5,h6,h7,h8⟩:=hs.box k e sz _ h
      have key:∀(i:Nat) r (j:Nat) y,rows'[i]?=some r→r[j]?=some y→r.length=sz∧∃u,cur[i *sz+j]?=some u∧Dr (Bf E bx (lk σ)) w y u:=fun i r j y hi' hj=>by
        have hi2:(dR rows')[i]?=some (r.map C.d):=by rw[dR,List.getElem?_map,hi'];rfl
        obtain⟨u,q1,q2⟩:=h8 i _ j (.d y) hi2 (by rw[List.getElem?_map,hj];rfl)
        exact⟨by have:=h7 i _ hi2;rwa[List.length_map]at this,u,q1,q2⟩
      refine Dr.list sz rows' _ _ _ (bx k).1 0 (fun i j=>cur.getD (i *sz+j) undef) rfl h1 hs' (fun h=>by cases h) (fun _=>rfl) (fun i r hi'=>?_) (fun i r j y hi' hj=>⟨hfr k ⟨e,sz,_,h⟩ hk1 hk2 hni,?_⟩) (fun i r j y hi' hj=>?_)
      ·have:=h7 i (r.map C.d) (by rw[dR,List.getElem?_map,hi'];rfl);rwa[List.length_map]at this
      · obtain⟨_,u,q1,_⟩:=key i r j y hi' hj
        rw[cell_of_row _ _ _ _ _ _ h4,Nat.zero_add,q1]
        simp[Array.getD_eq_getD_getElem?,q1]
      · obtain⟨_,u,q1,q2⟩:=key i r j y hi' hj
        simp only[Array.getD_eq_getD_getElem?,q1,Option.getD_some]
        exact q2.mono fun b hb _=>hbf b hb
    |frzP k sz i j e rows rows' r h hr hkk hii hri=>
      subst hr
      rw[Bool.and_eq_true]at hkk
      have hk1:=Nat.le_of_ble_eq_true hkk.1
      have hk2:=Nat.le_of_ble_eq_true hkk.2
      have hni:∀p∈inv,p.2≠k:=fun p hp e=>by have:=List.all_eq_true.1 hii p hp;rw[e]at this;simp at this
      have hv2:=hv.2 ⟨e,sz,_,h⟩
      obtain⟨cur,h4,h5,h6,h7,h8⟩:=hs.box k e sz _ h
      refine⟨(bx k).1,i *sz+j,hv2,fun l y hl=>?_⟩
      rw[List.getElem?_drop]at hl
      have hi2:(dR rows')[i]?=some (r.map C.d):=by rw[dR,List.getElem?_map,hri];rfl
      obtain⟨u,q1,q2⟩:=h8 i _ (j+l) (.d y) hi2 (by rw[List.getElem?_map,hl];rfl)
      exact⟨u,hfr k ⟨e,sz,_,h⟩ hk1 hk2 hni,by rw[cell_of_row _ _ _ _ _ _ h4,Nat.add_assoc];exact q1,Dr.mono (fun b hb _=>hbf b hb) q2⟩
  have hrefC:∀ {c c':C},Cto σ inv c c'→∀k'∈c'.refs,∃k,(k',k)∈inv:=by
    intro c c' h k' hk'
    cases h with
    |box k l sz i j i' h hi'=>simp only[C.refs,List.mem_singleton]at hk';subst hk';exact⟨k,h⟩
    |own k l sz n m h hn=>simp only[C.refs,List.mem_singleton]at hk';subst hk';exact⟨k,h⟩
    |fb f k l sz h=>simp only[C.refs,List.mem_singleton]at hk';subst hk';exact⟨k,h⟩
    |off k l sz i n m h hn=>simp only[C.refs,List.mem_singleton]at hk';subst hk';exact⟨k,h⟩
    |_=>cases hk'
  have hV:∀ {x x':V} {v:Value},Vto σ inv x x'→Vr bx (Al (lk σ)) (Bf E bx (lk σ)) w x v→Vr (fun k'=>bx (oldOf inv k')) (Al (lk σ')) (Bf E (fun k'=>bx (oldOf inv k')) (lk σ')) w x' v:=by
    intro x x' v h hv
    cases h with
    |c h=>exact hC h hv
    |agg h=>
      obtain⟨vs,e,hl,hv⟩:=hv
      obtain⟨h1,h2⟩:=Ctos.get h
      refine⟨vs,e,by rw[hl,h1],fun i c' u hc' hu=>?_⟩
      obtain⟨c,hc,hcc⟩:=h2 i c' hc'
      exact hC hcc (hv i c u hc hu)
    |dat v1 v2 h hr=>subst h;exact hv.to (Same.refl _ _) (fun b hb _=>hbf b hb) (fun k hk=>by rw[hr]at hk;cases hk)
  have hrefV:∀ {x x':V},Vto σ inv x x'→∀k'∈x'.refs,∃k,(k',k)∈inv:=by
    intro x x' h k' hk'
    cases h with
    |c h=>exact hrefC h k' hk'
    |agg h=>
      obtain⟨c',hc',hk'⟩:=List.mem_flatMap.1 hk'
      obtain⟨i,hi'⟩:=List.mem_iff_getElem?.1 hc'
      obtain⟨c,_,hcc⟩:=(Ctos.get h).2 i c' hi'
      exact hrefC hcc k' hk'
    |dat v1 v2 h hr=>subst h;rw[hr]at hk';cases hk'
  have huse:∀k' k,(k',k)∈inv→lk σ' (.u k')≠ .no:=fun k' k hm e=>by
    have:=List.all_eq_true.1 hu _ hm
    simp only[e]at this
    cases this
  refine⟨fun k'=>bx (oldOf inv k'),fun t x' ht=>?_,fun k' e sz rows' hk'=>?_,fun k' l' h1 h2 he=>?_,fun k' hk'=>⟨fun h=>?_,fun t x' ht hr=>?_,fun l' e sz rows' hl' r hr c hc hcr=>?_⟩,hs.size,hs.defers,fun k' h=>?_,hs.mtl,fun k' g hm h=>?_,hs.os,hs.tape,hs.output,hs.hsize,hs.old⟩
  · obtain⟨x,h1,h2⟩:=hk.t (lk_mem ht (by simp))
    exact hV h2 (hs.slot t x h1)
  · obtain⟨k,rows,h1,h2,h3⟩:=hk.b (lk_mem hk' (by simp))
    obtain⟨cur,q1,q2,q3,q4,q5⟩:=hs.box k e sz rows h2
    obtain⟨r1,r2⟩:=h3.get
    have ho:=oldOf_mem hi h1
    refine⟨cur,by rw[ho];exact q1,by rw[ho];exact q2,by rw[r1];exact q3,fun i r' hi'=>?_,fun i r' j c' hi' hj=>?_⟩
    · obtain⟨r,g1,g2⟩:=r2 i r' hi'
      rw[(Ctos.get g2).1];exact q4 i r g1
    · obtain⟨r,g1,g2⟩:=r2 i r' hi'
      obtain⟨c,g3,g4⟩:=(Ctos.get g2).2 j c' hj
      obtain⟨u,g5,g6⟩:=q5 i r j c g1 g3
      exact⟨u,g5,hC g4 g6⟩
  · obtain⟨k,m1,m2,m3⟩:=hal k' h1
    obtain⟨l,n1,n2,n3⟩:=hal l' h2
    simp only[m3,n3]at he
    have:=hs.inj k l m2 n2 he
    subst this
    exact inv_inj hi m1 n1
  · obtain⟨k,m1,_,_⟩:=hal k' h
    exact huse k' k m1 hk'
  · obtain⟨x,h1,h2⟩:=hk.t (lk_mem ht (by simp))
    obtain⟨k,m1⟩:=hrefV h2 k' hr
    exact huse k' k m1 hk'
  · obtain⟨k,rows,h1,h2,h3⟩:=hk.b (lk_mem hl' (by simp))
    obtain⟨i,hi'⟩:=List.mem_iff_getElem?.1 hr
    obtain⟨j,hj⟩:=List.mem_iff_getElem?.1 hc
    obtain⟨r0,g1,g2⟩:=h3.get.2 i r hi'
    obtain⟨c0,g3,g4⟩:=(Ctos.get g2).2 j c hj
    obtain⟨k0,m1⟩:=hrefC g4 k' hcr
    exact huse k' k0 m1 hk'
  · obtain⟨k,m1,m2,m3⟩:=hal k' h
    show E.w.heap.size≤(bx (oldOf inv k')).1∨_∧∃p∈E.mt,p.2.1=(bx (oldOf inv k')).1
    rw[m3]
    rcases hs.own k m2 with h1|⟨h1,h2⟩
    ·exact .inl h1
    · refine .inr ⟨?_,h2⟩
      have:=inv_num hi m1
      omega
  · obtain⟨k,m1,m2,m3⟩:=hal k' h
    have h1:=hs.mtl _ hm
    have h2:=inv_num hi m1
    have h3:k'=k:=by simp at h1;omega
    subst h3
    show bx (oldOf inv k')=g
    rw[m3];exact hs.ent k' g hm m2
end
def C.ren (ρ:Nat→Nat):C→C
  | .box k sz i j=>.box (ρ k) sz i j
  | .own k sz n=>.own (ρ k) sz n
  | .d x=>.d x
  | .ptr c=>.ptr c
  | .fn f c=>.fn f c
  | .fb f k sz=>.fb f (ρ k) sz
  | .off k sz i n=>.off (ρ k) sz i n
def V1.ren (ρ:Nat→Nat):V1→V1
  | .c x=>.c (x.ren ρ)
  | .agg cs=>.agg (cs.map (C.ren ρ))
def V.ren (ρ:Nat→Nat):V→V
  | .o x=>.o (x.ren ρ)
  | .tup xs=>.tup (xs.map (V1.ren ρ))
  | .gh S=>.gh S
section
variable {bx : Nat → Nat × Nat} {al B : Nat → Prop} {w : World} {v : Value} {ρ : Nat → Nat}
theorem Cr.ren {c:C}:Cr (fun k=>bx (ρ k)) (fun k=>al (ρ k)) B w c v↔Cr bx al B w (c.ren ρ) v:=by cases c<;>exact Iff.rfl
theorem V1r.ren {x:V1}:V1r (fun k=>bx (ρ k)) (fun k=>al (ρ k)) B w x v↔V1r bx al B w (x.ren ρ) v:=by
  cases x with
  |c c=>exact Cr.ren
  |agg cs=>
    refine⟨fun⟨vs,e,hl,h⟩=>⟨vs,e,by simpa using hl,fun i c u hc hu=>?_⟩,fun⟨vs,e,hl,h⟩=>⟨vs,e,by simpa using hl,fun i c u hc hu=>Cr.ren.2 (h i _ u (by rw[List.getElem?_map,hc];rfl) hu)⟩⟩
    rw[List.getElem?_map]at hc
    cases hq:cs[i]? with
    |none=>rw[hq]at hc;cases hc
    |some c0=>rw[hq]at hc;cases hc;exact Cr.ren.1 (h i c0 u hq hu)
theorem Vr.ren {x:V}:Vr (fun k=>bx (ρ k)) (fun k=>al (ρ k)) B w x v↔Vr bx al B w (x.ren ρ) v:=by
  cases x with
  |o x=>exact V1r.ren
  |tup cs=>
    refine⟨fun⟨vs,e,hl,h⟩=>⟨vs,e,by simpa using hl,fun i c u hc hu=>?_⟩,fun⟨vs,e,hl,h⟩=>⟨vs,e,by simpa using hl,fun i c u hc hu=>V1r.ren.2 (h i _ u (by rw[List.getElem?_map,hc];rfl) hu)⟩⟩
    rw[List.getElem?_map]at hc
    cases hq:cs[i]? with
    |none=>rw[hq]at hc;cases hc
    |some c0=>rw[hq]at hc;cases hc;exact V1r.ren.1 (h i c0 u hq hu)
  |gh S=>exact Iff.rfl
theorem C.refs_ren {c:C} {k:Nat} (h:k∈(c.ren ρ).refs):∃l∈c.refs,k=ρ l:=by
  cases c<;>simp only[C.ren,C.refs,List.mem_singleton,List.not_mem_nil]at h ⊢
  ·exact⟨_,rfl,h⟩
  ·exact⟨_,rfl,h⟩
  ·exact⟨_,rfl,h⟩
  ·exact⟨_,rfl,h⟩
theorem V1.refs_ren {x:V1} {k:Nat} (h:k∈(x.ren ρ).refs):∃l∈x.refs,k=ρ l:=by
  cases x with
  |c c=>exact C.refs_ren h
  |agg cs=>
    obtain⟨c,hc,hk⟩:=List.mem_flatMap.1 h
    obtain⟨c0,hc0,rfl⟩:=List.mem_map.1 hc
    obtain⟨l,hl,e⟩:=C.refs_ren hk
    exact⟨l,List.mem_flatMap.2 ⟨c0,hc0,hl⟩,e⟩
theorem V.refs_ren {x:V} {k:Nat} (h:k∈(x.ren ρ).refs):∃l∈x.refs,k=ρ l:=by
  cases x with
  |o c=>exact V1.refs_ren h
  |tup cs=>
    obtain⟨c,hc,hk⟩:=List.mem_flatMap.1 h
    obtain⟨c0,hc0,rfl⟩:=List.mem_map.1 hc
    obtain⟨l,hl,e⟩:=V1.refs_ren hk
    exact⟨l,List.mem_flatMap.2 ⟨c0,hc0,hl⟩,e⟩
  |gh S=>cases h
end
/-! ### What a function does -/
structure HOk (bx:Nat→Nat×Nat) (B:Nat→Prop) (w:World) (τ:Res→RC):Prop where
  box:∀k e sz rows,τ (.b k)= .b e sz rows→∃cur:Array Value,w.heap[(bx k).1]?=some (.cells cur e (0,0))∧cur.size=(bx k).2∧rows.length *sz≤cur.size∧
    (∀(i:Nat) r,rows[i]?=some r→r.length=sz)∧∀(i:Nat) r (j:Nat) c,rows[i]?=some r→r[j]?=some c→∃u,cur[i *sz+j]?=some u∧Cr bx (Al τ) B w c u
  inj:∀k l,Al τ k→Al τ l→(bx k).1=(bx l).1→k=l
  exc:∀k,Al τ k→¬B (bx k).1
def Baft (bx':Nat→Nat×Nat) (B:Nat→Prop) (w:World) (τ':Res→RC) (b:Nat):Prop:=(B b∨w.heap.size≤b)∧∀k,Al τ' k→b≠(bx' k).1
structure HPost (bx bx':Nat→Nat×Nat) (B:Nat→Prop) (w w':World) (τ τ':Res→RC) (y:V) (v:Value):Prop where
  ok:HOk bx' (Baft bx' B w τ') w' τ'
  val:Vr bx' (Al τ') (Baft bx' B w τ') w' y v
  os:w'.os=w.os
  tape:w'.tape=w.tape
  output:w'.output=w.output
  size:w.heap.size≤w'.heap.size
  old:∀b,b<w.heap.size→(∀k,Al τ k→b≠(bx k).1)→w'.heap[b]?=w.heap[b]?
  same:∀k,k<100→Al τ' k→Al τ k∧bx' k=bx k
  new:∀k,Al τ' k→w.heap.size≤(bx' k).1∨∃l,Al τ l∧(bx l).1=(bx' k).1
def Fn (P:Program) (f:FuncId) (hb:St) (args:List V1) (y:V) (hb':St):Prop:=
  ∀(B:Nat→Prop) (bx:Nat→Nat×Nat) (w:World) (vs:List Value),HOk bx B w (lk hb)→Vals (V1r bx (Al (lk hb)) B w) args vs→
    Calls P f vs.toArray w fun e w'=>∃v bx',e= .returned v∧HPost bx bx' B w w' (lk hb) (lk hb') y v
/-! ### How code shows it -/
def argS:Nat→List V1→St
  |_,[]=>[]
  |i,x::l=>(.t i,.v (.o x))::argS (i+1) l
theorem argS_t {hb:St} (hbt:∀t,lk hb (.t t)= .no):∀ {args:List V1} {i t:Nat} {x:V},lk (argS i args++hb) (.t t)= .v x→∃a,i≤t∧args[t -i]?=some a∧x= .o a
  |[],i,t,x,h=>by rw[argS,List.nil_append,hbt]at h;cases h
  |a::l,i,t,x,h=>by
    rw[argS,List.cons_append,lk_cons]at h
    by_cases e:t=i
    ·subst e;rw[upd_same]at h;cases h;exact⟨a,Nat.le_refl _,by simp,rfl⟩
    · rw[upd_other _ _ (by simpa using e)]at h
      obtain⟨b,h1,h2,h3⟩:=argS_t hbt h
      exact⟨b,by omega,by rw[show t -i=(t -(i+1))+1 by omega,List.getElem?_cons_succ];exact h2,h3⟩
theorem argS_o {hb:St} {r:Res} (hr:∀t,r≠ .t t):∀ {args:List V1} {i:Nat},lk (argS i args++hb) r=lk hb r
  |[],i=>rfl
  |a::l,i=>by rw[argS,List.cons_append,lk_cons,upd_other _ _ (hr i)];exact argS_o hr
def resV1 (σ:St) (P:Program):ResultVar→Option V1
  | .tmp t=>match lk σ (.t t)with
    | .v (.o x)=>some x
    |_=>none
  | .cell t ty=>match lk σ (.t t),tyL P ty with
    | .v (.o (.c (.box k sz i j))),some (true,m)=>match lk σ (.b k)with
      | .b _ sz' rows=>match Nat.beq sz sz',rows[i]? with
        |true,some r=>match Nat.ble (j+m) r.length with
          |true=>some (.agg ((r.drop j).take m))
          |false=>none
        |_,_=>none
      |_=>none
    | .v (.o (.c (.box k sz i j))),some (false,_)=>match lk σ (.b k)with
      | .b _ sz' rows=>match Nat.beq sz sz',rows[i]? with
        |true,some r=>match r[j]? with
          |some c=>some (.c c)
          |none=>none
        |_,_=>none
      |_=>none
    |_,_=>none
def resL (σ:St) (P:Program):List ResultVar→Option (List V1)
  |[]=>some []
  |r::l=>match resV1 σ P r with
    |some x=>match resL σ P l with
      |some xs=>some (x::xs)
      |none=>none
    |none=>none
def tupV:List V1→V
  |[x]=>.o x
  |xs=>.tup xs
def Kfin (P:Program) (res:Array ResultVar) (y:V) (hb':St):Exit→St→Prop
  | .normal,σ| .ret,σ=>∃σ2 xs,Wk σ σ2∧resL σ2 P res.toList=some xs∧tupV xs=y∧(∀k e sz rows,lk hb' (.b k)= .b e sz rows→lk σ2 (.b k)= .b e sz rows)
  |_,_=>False
section
variable {P : Program} {E : Env} {bx : Nat → Nat × Nat} {a : Act} {w : World} {σ : St}
theorem resV1_ok {r:ResultVar} {x:V1} (h:resV1 σ P r=some x) (hs:SR E bx (lk σ) a w):
    ∃v,(match r with | .tmp t=>pure (a.tmps.getD t undef)| .cell c t=>do loadVar t (←asAddr (a.tmps.getD c undef)):Sem Value).run P w= .ok v w∧V1r bx (Al (lk σ)) (Bf E bx (lk σ)) w x v:=by
  cases r with
  |tmp t=>
    simp only[resV1]at h
    split at h
    · rename_i y hy
      cases h
      exact⟨_,rfl,hs.slot t _ hy⟩
    ·cases h
  |cell t ty=>
    simp only[resV1]at h
    split at h
    · rename_i k sz i j m h1 h2
      split at h
      · rename_i e sz' rows hb
        split at h
        · rename_i r' h3 h4
          split at h
          · rename_i h5
            cases h
            have h3':=Nat.eq_of_beq_eq_true h3
            subst h3'
            have h5':=Nat.le_of_ble_eq_true h5
            have hv:Cr bx (Al (lk σ)) (Bf E bx (lk σ)) w (.box k sz i j) (a.tmps.getD t undef):=hs.slot t _ h1
            have hv2:=hv.2 ⟨e,sz,rows,hb⟩
            obtain⟨cur,q1,q2,q3,q4,q5⟩:=hs.box k e sz rows hb
            have hex:∀l:Fin m,∃u,w.cell? ⟨(bx k).1,i *sz+j+l,none⟩=some u∧Cr bx (Al (lk σ)) (Bf E bx (lk σ)) w (r'[j+l]'(by omega)) u:=fun l=>by
              obtain⟨u,h6,h7⟩:=q5 i r' (j+l) _ h4 (List.getElem?_eq_getElem (by omega))
              exact⟨u,by rw[cell_of_row w _ _ _ _ _ q1,Nat.add_assoc];exact h6,h7⟩
            obtain⟨us,hlen,hus⟩:∃us:List Value,us.length=m∧∀(l:Nat) u,us[l]?=some u→w.cell? ⟨(bx k).1,i *sz+j+l,none⟩=some u∧∃c,r'[j+l]?=some c∧Cr bx (Al (lk σ)) (Bf E bx (lk σ)) w c u:=by
              refine⟨List.ofFn fun j=>Classical.choose (hex j),List.length_ofFn,fun l u hu=>?_⟩
              have hl:l<m:=by have:=(List.getElem?_eq_some_iff.1 hu).1;rwa[List.length_ofFn]at this
              rw[List.getElem?_eq_getElem (by rw[List.length_ofFn];exact hl),List.getElem_ofFn]at hu
              cases hu
              have:=Classical.choose_spec (hex ⟨l,hl⟩)
              exact⟨this.1,_,List.getElem?_eq_getElem (by omega),this.2⟩
            have hrun:=run_loadRow h2 w (bx k).1 (i *sz+j) us hlen (fun j u hu=>(hus j u hu).1)
            simp only[Instr.loadAt,Instr.sureAddr,Sem.run_bind,Sem.run_pure,Result.andThen_ok]at hrun
            refine⟨.agg us.toArray,by simp only[hv2,asAddr,Sem.run_bind,Sem.run_pure,Result.andThen_ok];exact hrun,us,rfl,by simp;omega,fun l c u hc hu=>?_⟩
            have hi:l<m:=by rw[←hlen];exact(List.getElem?_eq_some_iff.1 hu).1
            obtain⟨_,c',h8,h9⟩:=hus l u hu
            rw[List.getElem?_take,if_pos hi,List.getElem?_drop,h8]at hc
            cases hc
            exact h9
          ·cases h
        ·cases h
      ·cases h
    · rename_i k sz i j m h1 h2
      split at h
      · rename_i e sz' rows hb
        split at h
        · rename_i r' h3 h4
          split at h
          · rename_i c h5
            cases h
            have h3':=Nat.eq_of_beq_eq_true h3
            subst h3'
            have hv:Cr bx (Al (lk σ)) (Bf E bx (lk σ)) w (.box k sz i j) (a.tmps.getD t undef):=hs.slot t _ h1
            have hv2:=hv.2 ⟨e,sz,rows,hb⟩
            obtain⟨cur,q1,q2,q3,q4,q5⟩:=hs.box k e sz rows hb
            obtain⟨u,h6,h7⟩:=q5 i r' j c h4 h5
            have hrun:=run_load1 h2 w (bx k).1 (i *sz+j) u (by rw[cell_of_row w _ _ _ _ _ q1];exact h6)
            exact⟨u,by simp only[hv2,asAddr,Sem.run_bind,Sem.run_pure,Result.andThen_ok];simpa [Instr.loadAt,Instr.sureAddr]using hrun,h7⟩
          ·cases h
        ·cases h
      ·cases h
    ·cases h
theorem resL_ok:∀ {l:List ResultVar} {xs:List V1},resL σ P l=some xs→SR E bx (lk σ) a w→
    ∃vs,(l.mapM fun r=>(match r with | .tmp t=>pure (a.tmps.getD t undef)| .cell c t=>do loadVar t (←asAddr (a.tmps.getD c undef)):Sem Value)).run P w= .ok vs w∧Vals (V1r bx (Al (lk σ)) (Bf E bx (lk σ)) w) xs vs
  |[],xs,h,_=>by cases h;exact⟨[],by simp,rfl,fun i x v h=>by simp at h⟩
  |r::l,xs,h,hs=>by
    unfold resL at h
    split at h
    · rename_i x hx
      split at h
      · rename_i ys hy
        cases h
        obtain⟨v,h1,h2⟩:=resV1_ok hx hs
        obtain⟨vs,h3,h4⟩:=resL_ok hy hs
        exact⟨v::vs,by rw[List.mapM_cons];simp only[Sem.run_bind,h1,Result.andThen_ok,h3,Sem.run_pure],.cons h2 h4⟩
      ·cases h
    ·cases h
theorem results_ok {fn:Func} {xs:List V1} (h:resL σ P fn.results.toList=some xs) (hs:SR E bx (lk σ) a w):
    ∃v,(results fn a.tmps).run P w= .ok v w∧Vr bx (Al (lk σ)) (Bf E bx (lk σ)) w (tupV xs) v:=by
  obtain⟨vs,h1,h2,h3⟩:=resL_ok h hs
  have hm:(fn.results.mapM fun r=>(match r with | .tmp t=>pure (a.tmps.getD t undef)| .cell c t=>do loadVar t (←asAddr (a.tmps.getD c undef)):Sem Value)).run P w= .ok vs.toArray w:=by
    rw[Array.mapM_eq_mapM_toList]
    simp only[map_eq_pure_bind,Sem.run_bind,h1,Result.andThen_ok,Sem.run_pure]
  refine⟨if h:vs.toArray.size=1 then vs.toArray[0]else .tuple vs.toArray,?_,?_⟩
  · unfold results
    rw[Sem.run_bind]
    erw [hm]
    rfl
  · match xs,h2,h3 with
    |[x],h2,h3=>
      match vs,h2,h3 with
      |[v],h2,h3=>exact h3 0 x v rfl rfl
    |[],h2,h3=>
      match vs,h2,h3 with
      |[],h2,h3=>exact⟨[],rfl,rfl,h3⟩
    |x::y::l,h2,h3=>
      rw[dif_neg (by simp only[List.size_toArray,h2,List.length_cons];omega)]
      exact⟨vs,rfl,h2,h3⟩
end
def refsOk (hb:St) (xs:List V1):Bool:=xs.all fun x=>x.refs.all fun k=>match lk hb (.u k)with
  | .u=>true
  |_=>false
theorem refsOk_at {hb:St} {xs:List V1} (h:refsOk hb xs=true) {x:V1} (hx:x∈xs) {k:Nat} (hk:k∈x.refs):lk hb (.u k)≠ .no:=by
  have:=List.all_eq_true.1 (List.all_eq_true.1 h x hx) k hk
  intro e
  rw[e]at this
  cases this
structure HB (hb:St):Prop where
  t:∀t,lk hb (.t t)= .no
  al:∀k,Al (lk hb) k→lk hb (.u k)≠ .no
  refs:∀k e sz rows,lk hb (.b k)= .b e sz rows→∀r∈rows,∀c∈r,∀l∈c.refs,lk hb (.u l)≠ .no
theorem HB.nil:HB []:=⟨fun _=>rfl,fun k ⟨e,sz,rows,h⟩=>(by cases h),fun k e sz rows h=>(by cases h)⟩
theorem HB.cons {hb:St} (h:HB hb) {k:Nat} {e:TypeId} {sz:Nat} {rows:List (List C)} (hr:∀r∈rows,∀c∈r,∀l∈c.refs,lk ((.u k,.u)::hb) (.u l)≠ .no):HB ((.b k,.b e sz rows)::(.u k,.u)::hb):=by
  have hu:∀l,lk hb (.u l)≠ .no→lk ((.b k,.b e sz rows)::(.u k,.u)::hb) (.u l)≠ .no:=fun l hl=>by
    rw[lk_cons,upd_other _ _ (by simp),lk_cons]
    by_cases e1:l=k
    ·subst e1;rw[upd_same];exact fun e=>by cases e
    ·rw[upd_other _ _ (by simpa using e1)];exact hl
  refine⟨fun t=>by rw[lk_cons,upd_other _ _ (by simp),lk_cons,upd_other _ _ (by simp)];exact h.t t,fun l hl=>?_,fun l e' sz' rows' hl r hr' c hc m hm=>?_⟩
  · by_cases e1:l=k
    ·subst e1;rw[lk_cons,upd_other _ _ (by simp),lk_cons,upd_same];exact fun e=>by cases e
    · obtain⟨e',sz',rows',hl⟩:=hl
      rw[lk_cons,upd_other _ _ (by simpa using e1),lk_cons,upd_other _ _ (by simp)]at hl
      exact hu l (h.al l ⟨_,_,_,hl⟩)
  · by_cases e1:l=k
    · subst e1
      rw[lk_cons,upd_same]at hl
      cases hl
      have:=hr r hr' c hc m hm
      rw[lk_cons,upd_other _ _ (by simp)]
      exact this
    · rw[lk_cons,upd_other _ _ (by simpa using e1),lk_cons,upd_other _ _ (by simp)]at hl
      exact hu m (h.refs l e' sz' rows' hl r hr' c hc m hm)
theorem dR_refs {rows:List (List D)} {r:List C} {c:C} (hr:r∈dR rows) (hc:c∈r) {l:Nat} (hl:l∈c.refs):False:=by
  obtain⟨r',_,rfl⟩:=List.mem_map.1 hr
  obtain⟨y,_,rfl⟩:=List.mem_map.1 hc
  cases hl
theorem HB.data {hb:St} (h:HB hb) {k:Nat} {e:TypeId} {sz:Nat} {rows:List (List D)}:HB ((.b k,.b e sz (dR rows))::(.u k,.u)::hb):=
  h.cons fun _ hr _ hc _ hl=>(dR_refs hr hc hl).elim
def mtOf (bx:Nat→Nat×Nat):St→List (Nat×Nat×Nat)
  |[]=>[]
  |(.b k,.b _ _ _)::l=>(k,bx k)::mtOf bx l
  |_::l=>mtOf bx l
theorem mtOf_mem {bx:Nat→Nat×Nat}:∀ {hb:St} {k:Nat},Al (lk hb) k→(k,bx k)∈mtOf bx hb
  |[],k,⟨e,sz,rows,h⟩=>by cases h
  |(q,x)::l,k,⟨e,sz,rows,h⟩=>by
    rw[lk_cons]at h
    by_cases e1:Res.b k=q
    · subst e1
      rw[upd_same]at h
      subst h
      exact List.mem_cons_self
    · rw[upd_other _ _ e1]at h
      have:=mtOf_mem (bx:=bx) (hb:=l) ⟨e,sz,rows,h⟩
      cases q<;>cases x<;>first|exact this|exact List.mem_cons_of_mem _ this
def low:St→Bool
  |[]=>true
  |(.b k,.b _ _ _)::l=>Nat.ble k 99&&(match lk l (.b k)with | .no=>true|_=>false)&&low l
  |(.u _,_)::l=>low l
  |_=>false
theorem mtOf_of {bx:Nat→Nat×Nat}:∀ {hb:St},low hb=true→∀ {p:Nat×Nat×Nat},p∈mtOf bx hb→p.1<100∧Al (lk hb) p.1∧p.2=bx p.1
  |[],_,p,h=>by cases h
  |(q,x)::l,hl,p,h=>by
    have hstep:∀(hl:low l=true) (hne:p∈mtOf bx l→lk ((q,x)::l) (.b p.1)=lk l (.b p.1)),p∈mtOf bx l→p.1<100∧Al (lk ((q,x)::l)) p.1∧p.2=bx p.1:=fun hl hne h=>by
      obtain⟨h1,⟨e,sz,rows,h2⟩,h3⟩:=mtOf_of hl h
      exact⟨h1,⟨e,sz,rows,(hne h).trans h2⟩,h3⟩
    cases q with
    |t n=>cases x<;>cases hl
    |u n=>
      have hl':low l=true:=by cases x<;>exact hl
      have h':p∈mtOf bx l:=by cases x<;>exact h
      exact hstep hl' (fun _=>by rw[lk_cons,upd_other _ _ (by simp)]) h'
    |b k=>
      cases x with
      |b e sz rows=>
        rw[low,Bool.and_eq_true,Bool.and_eq_true]at hl
        rcases List.mem_cons.1 h with rfl|h
        · have:=Nat.le_of_ble_eq_true hl.1.1
          exact⟨by show k<100;omega,⟨e,sz,rows,by rw[lk_cons,upd_same]⟩,rfl⟩
        · refine hstep hl.2 (fun h=>?_) h
          rw[lk_cons,upd_other]
          intro e1
          obtain⟨_,⟨e',sz',rows',h2⟩,_⟩:=mtOf_of hl.2 h
          have h3:=hl.1.2
          simp only[Res.b.injEq]at e1
          rw[←e1,h2]at h3
          cases h3
      |_=>cases hl
theorem Fn.of_code {P:Program} {f:FuncId} {fn:Func} {c:Code} {hb hb':St} {args:List V1} {y:V} (hf:P.funcs[f]?=some fn) (hbd:fn.body=some c) (hn:Nat.ble args.length fn.ntmps=true) (hhb:HB hb) (hlow:low hb=true) (hra:refsOk hb args=true)
    (hhb':HB hb') (hry:refsOk hb' [match y with | .o x=>x| .tup xs=>.agg (xs.flatMap V1.cells)| .gh _=>.agg []]=true) (hnum:∀k,k<100→Al (lk hb') k→Al (lk hb) k)
    (h:ACode P fn.ntmps c (Kfin P fn.results y hb') (argS 0 args++hb)):Fn P f hb args y hb':=by
  intro B bx w vs hh hv
  have hn':=Nat.le_of_ble_eq_true hn
  refine calls_of_wp hf hbd ?_
  let E:Env:={w:=w,B:=B,n:=fn.ntmps,mt:=mtOf bx hb}
  have hgt:∀r:Res,(∀t,r≠ .t t)→lk (argS 0 args++hb) r=lk hb r:=fun r hr=>argS_o hr
  have hgb:∀k,lk (argS 0 args++hb) (.b k)=lk hb (.b k):=fun k=>hgt _ (by simp)
  have hgu:∀k,lk (argS 0 args++hb) (.u k)=lk hb (.u k):=fun k=>hgt _ (by simp)
  have hal:Al (lk (argS 0 args++hb))=Al (lk hb):=by funext k;simp only[Al,hgb]
  have hlt:∀k,Al (lk hb) k→(bx k).1<w.heap.size:=fun k ⟨e,sz,rows,hk⟩=>by
    obtain⟨cur,h1,_⟩:=hh.box k e sz rows hk
    exact(Array.getElem?_eq_some_iff.1 h1).1
  have hB:∀b,B b→b<w.heap.size→Bf E bx (lk (argS 0 args++hb)) b:=fun b h1 _=>⟨.inl h1,fun k hk e=>by
    rw[hal]at hk
    exact hh.exc k hk (e▸h1)⟩
  have hto:∀k,Al (lk (argS 0 args++hb)) k→Al (lk hb) k∧bx k=bx k:=fun k hk=>⟨by rwa[hal]at hk,rfl⟩
  have hSR:SR E bx (lk (argS 0 args++hb)) {tmps:=vs.toArray++Array.replicate (fn.ntmps -vs.toArray.size) undef,defers:=[]} w:=by
    refine⟨fun t x ht=>?_,fun k e sz rows hk=>?_,fun k l hk hl=>hh.inj k l (by rwa[hal]at hk) (by rwa[hal]at hl),fun k hk=>?_,?_,rfl,fun k hk=>.inr ⟨?_,?_⟩,fun p hp=>(mtOf_of hlow hp).1,fun k g hm hk=>(mtOf_of hlow hm).2.2.symm,rfl,rfl,rfl,Nat.le_refl _,fun b hb hm=>rfl⟩
    · obtain⟨a,_,h1,rfl⟩:=argS_t hhb.t ht
      rw[Nat.sub_zero]at h1
      have hl:t<args.length:=(List.getElem?_eq_some_iff.1 h1).1
      have hvl:t<vs.length:=by rw[hv.1];exact hl
      have h2:=hv.2 t a _ h1 (List.getElem?_eq_getElem hvl)
      have h3:(vs.toArray++Array.replicate (fn.ntmps -vs.toArray.size) undef).getD t undef=vs[t]:=by
        rw[Array.getD_eq_getD_getElem?,Array.getElem?_append_left (by simpa using hvl)]
        simp[hvl]
      show V1r _ _ _ w a _
      rw[h3]
      exact h2.to (Same.refl _ _) hB (fun k _ hk=>hto k hk)
    · rw[hgb]at hk
      obtain⟨cur,h1,h2,h3,h4,h5⟩:=hh.box k e sz rows hk
      refine⟨cur,h1,h2,h3,h4,fun i r j c hi hj=>?_⟩
      obtain⟨u,h6,h7⟩:=h5 i r j c hi hj
      exact⟨u,h6,h7.to (Same.refl _ _) hB (fun k _ hk=>hto k hk)⟩
    · rw[hgu]at hk
      refine⟨fun hk'=>hhb.al k (by rwa[hal]at hk') hk,fun t x ht hr=>?_,fun l e sz rows hl r hr c hc hr'=>?_⟩
      · obtain⟨a,_,h1,rfl⟩:=argS_t hhb.t ht
        exact refsOk_at hra (List.mem_of_getElem? h1) hr hk
      · rw[hgb]at hl
        exact hhb.refs l e sz rows hl r hr c hc k hr' hk
    · show (vs.toArray++Array.replicate (fn.ntmps -vs.toArray.size) undef).size=fn.ntmps
      simp[hv.1];omega
    ·rw[hal]at hk;exact .inl (mtOf_of hlow (mtOf_mem (bx:=bx) hk)).1
    ·rw[hal]at hk;exact⟨_,mtOf_mem hk,rfl⟩
  refine wp_mono (h E bx _ w rfl hSR) ?_
  rintro e a' w' ⟨σ',bx',hK,hs⟩
  have key:(∃σ2 xs,Wk σ' σ2∧resL σ2 P fn.results.toList=some xs∧tupV xs=y∧(∀k e sz rows,lk hb' (.b k)= .b e sz rows→lk σ2 (.b k)= .b e sz rows))→a'.defers=[]∧∃v,(results fn a'.tmps).run P w'= .ok v w'∧∃v' bx',Ending.returned v= .returned v'∧HPost bx bx' B w w' (lk hb) (lk hb') y v':=by
    rintro⟨σ2,xs,hwk,hres,hy,hbox⟩
    obtain⟨bx2,hs2⟩:=hwk E bx' a' w' hs
    obtain⟨v,hrun,hvr⟩:=results_ok hres hs2
    rw[hy]at hvr
    have hal':∀k,Al (lk hb') k→Al (lk σ2) k:=fun k ⟨e,sz,rows,hk⟩=>⟨e,sz,rows,hbox k e sz rows hk⟩
    have hbaft:∀b,Bf E bx2 (lk σ2) b→b<w'.heap.size→Baft bx2 B w (lk hb') b:=fun b hb _=>⟨hb.1,fun k hk=>hb.2 k (hal' k hk)⟩
    refine⟨hs2.defers,v,hrun,v,bx2,rfl,⟨fun k e sz rows hk=>?_,fun k l hk hl=>hs2.inj k l (hal' k hk) (hal' l hl),fun k hk hb=>hb.2 k hk rfl⟩,hvr.to (Same.refl _ _) hbaft (fun k hk hk'=>⟨hal' k hk',rfl⟩),hs2.os,hs2.tape,hs2.output,hs2.hsize,fun b hb1 hb2=>hs2.old b hb1 (fun k g hm=>?_),fun k hk hk'=>⟨hnum k hk hk',?_⟩,fun k hk=>?_⟩
    · obtain⟨cur,h1,h2,h3,h4,h5⟩:=hs2.box k e sz rows (hbox k e sz rows hk)
      refine⟨cur,h1,h2,h3,h4,fun i r j c hi hj=>?_⟩
      obtain⟨u,h6,h7⟩:=h5 i r j c hi hj
      exact⟨u,h6,h7.to (Same.refl _ _) hbaft (fun k hk hk'=>⟨hal' k hk',rfl⟩)⟩
    · obtain⟨_,h1,h2⟩:=mtOf_of hlow hm
      have h2':g=bx k:=h2
      rw[h2'];exact hb2 k h1
    ·exact hs2.ent k _ (mtOf_mem (bx:=bx) (hnum k hk hk')) (hal' k hk')
    · rcases hs2.own k (hal' k hk)with h1|⟨_,p,hp,h1⟩
      ·exact .inl h1
      · obtain⟨_,h2,h3⟩:=mtOf_of hlow hp
        exact .inr ⟨p.1,h2,by rw[←h3];exact h1⟩
  cases e with
  |normal=>exact key hK
  |ret=>exact key hK
  |_=>exact hK.elim
end Go.Proofs.YtollooimmfngjaaGreat
