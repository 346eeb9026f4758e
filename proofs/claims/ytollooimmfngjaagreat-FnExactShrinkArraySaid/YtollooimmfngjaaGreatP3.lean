/- Part 3 of 7 of the proof: laws on memory and data, then what the functions compute, in the order in which they build on each other; conditions: those that each theorem names. -/
import Derived.SizedLaws
import Derived.Lib.Bytealg
import Derived.Lib.SlicesS
import Derived.Test.YtollooimmfngjaaGreatP2
set_option maxRecDepth 100000
set_option maxHeartbeats 1600000

namespace Go.Proofs.YtollooimmfngjaaGreat
set_option linter.unusedVariables false
set_option linter.unusedSimpArgs false
open Go.RowKit
theorem first_nil {f:Int→Nat→Pts→Bool×Nat×Pts} (hf:∀v s o,∃z,(f v s o).2.2=o++z) {hi v:Int} {s:Nat} (h:v<hi) (hR:(iterW f (hi -v).toNat v s []).2.2=[]):(f v s []).2.2=[]:=by
  rw[iterW_lt h]at hR
  by_cases hb:(f v s []).1=true
  · rw[if_pos hb]at hR
    obtain⟨z,hz⟩:=iterW_grow hf (hi -(v+1)).toNat (v+1) (f v s []).2.1 (f v s []).2.2
    rw[hz]at hR
    exact(List.append_eq_nil_iff.1 hR).1
  ·rwa[if_neg hb]at hR
theorem iterW_no {f:Int→Nat→Pts→Bool×Nat×Pts} {hi v:Int} {s:Nat} {o:Pts} {r:Bool×Nat×Pts} (h:v<hi) (hs:f v s o=r) (hb:r.1=false):iterW f (hi -v).toNat v s o=r:=by
  rw[iterW_lt h,hs,if_neg (by rw[hb];simp)]
theorem iterW_yes {f:Int→Nat→Pts→Bool×Nat×Pts} {hi v:Int} {s:Nat} {o:Pts} {r:Bool×Nat×Pts} (h:v<hi) (hs:f v s o=r) (hb:r.1=true):iterW f (hi -v).toNat v s o=iterW f (hi -(v+1)).toNat (v+1) r.2.1 r.2.2:=by
  rw[iterW_lt h,hs,if_pos hb]
theorem hbIn_O {σ:St} {inv:Inv} {k:Nat} {ns:List Lp} {s:Nat} {o:Pts} (h:lk σ (.b (asc inv 0))= .b 158 3 [[.d (dLs ns),.d (dI (s:Nat)),.own (asc inv k) 1 o.length]]) (h2:lk σ (.b (asc inv k))= .b 43 1 (dR (o.map rIs))):hbIn σ inv (hbO k ns s o):=⟨h,by rw[renR_dR];exact h2,trivial⟩
theorem walk_leaf_no {ns:List Lp} {s0:Nat} {p:List Int} (hp:p.length=ns.length) (hp0:0<p.length) (hp4:p.length≤4)  :Fn Tryz.prog 106 (hbN ns s0) [.c (.box 0 3 0 0),vD (dIs p)] (.o (bo1 (decide ((([]:Pts)).length+1≤120)))) (hbO 1000 ns s0 (([]:Pts)++[p])):=by
 refine Fn.of_code Tryz.func106 rfl rfl (hbN_HB _ _) rfl rfl (hbO_HB _ _ _ _) rfl (num_NO _ _ _ _) ?_
 refine .r<|.c .a<|.nn<|.seq<|.r<|.c .m<|.c (.ln 3 1 8)<|.c .m<|.c .nB<|.c (.fB 0 0 false)<|.c (.b1 1)<|.c (.ln 148 2 48)<|.c .eq<|.nn ?_
 refine .cD rfl (fun h15=>?_) (fun h15=>?_)
 ·skip
  refine .seq ?_
  refine ACode.drawK (by kernel_rfl) (by kernel_rfl) ?_
  refine .c .m<|.c .m<|.c .nB<|.c (.fB 2 0 false)<|.c (.b1 1)<|.c .m ?_
  refine .c (.cP [.tmp 21] rfl rfl rfl rfl (clone_dat hp0 (by omega)) rfl) ?_
  refine .c (.li 43 0 0 [.tmp 22]) ?_
  refine .c (St1.appN (k':=124) (e:=43) (sz:=0) (by':=24) rfl rfl rfl rfl rfl (by kernel_rfl) rfl rfl rfl (by simp) (by simp[dR]<;>omega) rfl rfl) ?_
  refine .c .nB<|.c (.fB 2 0 false)<|.c (.sT 1 false) ?_
  refine .nil ⟨by kernel_rfl,?_⟩
  refine ks_n<|.r<|.c .m<|.c .nB<|.c (.fB 2 0 false)<|.c (.b1 1)<|.c (.lB 43 1 24)<|.c .le<|.c .a<|.nn<|.ret<|ks_r ?_
  refine kf_wret [eT 4 (decide ((([]:Pts)).length+1≤120)),(.b 0,.b 158 3 ([[.d (dLs ns),.d (dI (s0:Nat)),.own 1000 1 (([]:Pts)++[p]).length]])),eU 0,(.b 1000,.b 43 1 (dR ((([]:Pts)++[p]).map rIs))),eU 1000] (Wk.keep [(0,0),(1000,124)] rfl rfl ⟨ks rfl (.dt (congrArg (fun b=>V.o (bo1 b)) (by rw[Bool.eq_iff_iff];simp<;>omega))),kb 0 rfl (.cons (.cons .dt (.cons .dt (.cons .ow .nil))) .nil),kb 124 rfl (.dt rfl (by simp[dR,rIs];try rfl)),trivial⟩) rfl ?_ (two_box rfl rfl)
  rfl
 ·skip
  exact absurd h15 (by simp;omega)
theorem walk_leaf_oo {ns:List Lp} {s0:Nat} {p:List Int} (hp:p.length=ns.length) (hp0:0<p.length) (hp4:p.length≤4) {o0:Pts} (ho:o0.length≤120):Fn Tryz.prog 106 (hbO 1 ns s0 o0) [.c (.box 0 3 0 0),vD (dIs p)] (.o (bo1 (decide ((o0).length+1≤120)))) (hbO 1000 ns s0 (o0++[p])):=by
 refine Fn.of_code Tryz.func106 rfl rfl (hbO_HB _ _ _ _) rfl rfl (hbO_HB _ _ _ _) rfl (num_OO _ _ _ _ _) ?_
 refine .r<|.c .a<|.nn<|.seq<|.r<|.c .m<|.c (.ln 3 1 8)<|.c .m<|.c .nB<|.c (.fB 0 0 false)<|.c (.b1 1)<|.c (.ln 148 2 48)<|.c .eq<|.nn ?_
 refine .cD rfl (fun h15=>?_) (fun h15=>?_)
 ·skip
  refine .seq ?_
  refine ACode.drawK (by kernel_rfl) (by kernel_rfl) ?_
  refine .c .m<|.c .m<|.c .nB<|.c (.fB 2 0 false)<|.c (.b1 1)<|.c .m ?_
  refine .c (.cP [.tmp 21] rfl rfl rfl rfl (clone_dat hp0 (by omega)) rfl) ?_
  refine .c (.li 43 0 0 [.tmp 22]) ?_
  refine .c (St1.appB (k':=1024) (e:=43) (sz:=0) (by':=24) rfl rfl rfl rfl rfl (by kernel_rfl) rfl rfl rfl rfl (by simp[dR]) (by simp[dR]<;>omega) rfl rfl rfl) ?_
  refine .c .nB<|.c (.fB 2 0 false)<|.c (.sT 1 false) ?_
  refine .nil ⟨by kernel_rfl,?_⟩
  refine ks_n<|.r<|.c .m<|.c .nB<|.c (.fB 2 0 false)<|.c (.b1 1)<|.c (.lB 43 1 24)<|.c .le<|.c .a<|.nn<|.ret<|ks_r ?_
  refine kf_wret [eT 4 (decide ((o0).length+1≤120)),(.b 0,.b 158 3 ([[.d (dLs ns),.d (dI (s0:Nat)),.own 1000 1 (o0++[p]).length]])),eU 0,(.b 1000,.b 43 1 (dR ((o0++[p]).map rIs))),eU 1000] (Wk.keep [(0,0),(1000,1024)] rfl rfl ⟨ks rfl (.dt (congrArg (fun b=>V.o (bo1 b)) (by rw[Bool.eq_iff_iff];simp<;>omega))),kb 0 rfl (.cons (.cons .dt (.cons .dt (.cons .ow .nil))) .nil),kb 1024 rfl (.dt rfl (by simp[dR,rIs];try rfl)),trivial⟩) rfl ?_ (two_box rfl rfl)
  rfl
 ·skip
  exact absurd h15 (by simp;omega)
theorem walk_leaf_noR {ns:List Lp} {s0:Nat} (hp:0=ns.length)  :Fn Tryz.prog 106 (hbN ns s0) [.c (.box 0 3 0 0),vN] (.o (bo1 (decide ((([]:Pts)).length+1≤120)))) (hbO 1000 ns s0 (([]:Pts)++[([]:List Int)])):=by
 refine Fn.of_code Tryz.func106 rfl rfl (hbN_HB _ _) rfl rfl (hbO_HB _ _ _ _) rfl (num_NO _ _ _ _) ?_
 refine .r<|.c .a<|.nn<|.seq<|.r<|.c .m ?_
 refine .c (St1.lenN (e:=3) (m:=1) (by':=8) rfl rfl rfl rfl rfl (by kernel_rfl) rfl) ?_
 refine .c .m<|.c .nB<|.c (.fB 0 0 false)<|.c (.b1 1)<|.c (.ln 148 2 48)<|.c .eq<|.nn ?_
 refine .cD rfl (fun h15=>?_) (fun h15=>?_)
 ·skip
  refine .seq ?_
  refine ACode.drawK (by kernel_rfl) (by kernel_rfl) ?_
  refine .c .m<|.c .m<|.c .nB<|.c (.fB 2 0 false)<|.c (.b1 1)<|.c .m ?_
  refine .c (.cP [.tmp 21] rfl rfl rfl rfl (clone_nilD) rfl) ?_
  refine .c (.li 43 0 0 [.tmp 22]) ?_
  refine .c (St1.appN (k':=124) (e:=43) (sz:=0) (by':=24) rfl rfl rfl rfl rfl (by kernel_rfl) rfl rfl rfl (by simp) (by simp[dR]<;>omega) rfl rfl) ?_
  refine .c .nB<|.c (.fB 2 0 false)<|.c (.sT 1 false) ?_
  refine .nil ⟨by kernel_rfl,?_⟩
  refine ks_n<|.r<|.c .m<|.c .nB<|.c (.fB 2 0 false)<|.c (.b1 1)<|.c (.lB 43 1 24)<|.c .le<|.c .a<|.nn<|.ret<|ks_r ?_
  refine kf_wret [eT 4 (decide ((([]:Pts)).length+1≤120)),(.b 0,.b 158 3 ([[.d (dLs ns),.d (dI (s0:Nat)),.own 1000 1 (([]:Pts)++[([]:List Int)]).length]])),eU 0,(.b 1000,.b 43 1 (dR ((([]:Pts)++[([]:List Int)]).map rIs))),eU 1000] (Wk.keep [(0,0),(1000,124)] rfl rfl ⟨ks rfl (.dt (congrArg (fun b=>V.o (bo1 b)) (by rw[Bool.eq_iff_iff];simp<;>omega))),kb 0 rfl (.cons (.cons .dt (.cons .dt (.cons .ow .nil))) .nil),kb 124 rfl (.dt rfl (by simp[dR,rIs];try rfl)),trivial⟩) rfl ?_ (two_box rfl rfl)
  rfl
 ·skip
  exact absurd h15 (by simp;omega)
theorem walk_nn {ns:List Lp} (hn:ns.length≤4) {l:Lp} {ms:List Lp} {p:List Int} (hl:ns[p.length]?=some l) (hR:okR l p) (hlo: -100000000≤loF p l.1∧loF p l.1≤100000000) (hhi: -100000000≤hiF p l.2∧hiF p l.2≤100000000) (hp0:0<p.length) {s0:Nat} (hs0:s0≤1199) (ih:∀v s o,loF p l.1≤v→v<hiF p l.2→s≤1199→o.length≤120→WOk ns ms (p++[v]) (dIs (p++[v])) s o) (hz:(walkF (l::ms) p s0 ([]:Pts)).2.2=[]):Fn Tryz.prog 106 (hbN ns s0) [.c (.box 0 3 0 0),vD (dIs p)] (.o (bo1 (walkF (l::ms) p s0 ([]:Pts)).1)) (hbN ns (walkF (l::ms) p s0 ([]:Pts)).2.1):=by
 obtain⟨R,hRd⟩:∃R,R=walkF (l::ms) p s0 ([]:Pts):=⟨_,rfl⟩
 rw[←hRd]at hz ⊢
 refine Fn.of_code Tryz.func106 rfl rfl (hbN_HB _ _) rfl rfl (hbN_HB _ _) rfl (num_NN _ _ _) ?_
 refine .r<|.c .a<|.nn<|.seq<|.r<|.c .m<|.c (.ln 3 1 8)<|.c .m<|.c .nB<|.c (.fB 0 0 false)<|.c (.b1 1)<|.c (.ln 148 2 48)<|.c .eq<|.nn ?_
 refine .cD rfl (fun h15=>?_) (fun h15=>?_)
 ·skip
  exact absurd h15 (by have:=(List.getElem?_eq_some_iff.1 hl).1;simp at this ⊢;omega)
 ·skip
  refine .skip<|ks_n<|.r<|.c .m<|.c .nB<|.c (.fB 0 0 false)<|.c (.b1 1)<|.c .m<|.c (.ln 3 1 8) ?_
  refine .c (.xL 148 2 48 rfl rfl rfl rfl rfl (map_at hl)) ?_
  refine .c (.lN 2)<|.c .m ?_
  refine .c (.cP [.tmp 41,.tmp 42] rfl rfl rfl rfl (span_fn hR) rfl) ?_
  refine .c .m<|.c .ex<|.c .ex<|.c .a<|.c .a<|.nn<|.seq<|.r<|.c .m<|.c .a<|.nn<|.block ?_
  refine .loopK (fun m σ=>(∃(v:Int) (s:Nat),m=(hiF p l.2 -v).toNat∧(loF p l.1≤v)∧(s≤1199)∧(iterW (stepW ms p) (hiF p l.2 -v).toNat v s []=R)∧σ=[eB 0 0 3,eD 1 (dIs p),eN 6 (hiF p l.2),eN 7 v,(.b 0,.b 158 3 [[.d (dLs ns),.d (dI (s:Nat)),nl]]),eU 0])) [(0,0)] ⟨loF p l.1,s0,rfl,(by omega),hs0,(by rw[hRd];rfl),rfl⟩ ⟨kX,kd,kd,kd,kb 0 rfl (.r3 .dt .dt .dt),trivial⟩ ?_
  rintro m σ ⟨v,s,hm0,h1,hs,hE,rfl⟩
  refine .seq<|.r<|.c .m<|.c .m<|.c .ls<|.nn ?_
  refine .cD rfl (fun h49=>?_) (fun h49=>?_)
  ·skip
   refine .skip<|ks_n<|.seq<|.block<|.r<|.c .m<|.c .nB<|.c (.fB 1 0 false)<|.c (.b1 1)<|.c .pl<|.c .nB<|.c (.fB 1 0 false)<|.c (.sT 1 false)<|.nn<|.seq ?_
   refine .keep [eB 0 0 3,eD 1 (dIs p),eN 6 (hiF p l.2),eN 7 v,(.b 0,.b 158 3 [[.d (dLs ns),.d (dI ((s+1):Nat)),nl]]),eU 0] [(0,0)] ⟨kX,kd,kd,kd,kb 0 rfl (.r3 .dt .dt .dt),trivial⟩ ?_
   refine .region<|.c .m<|.c .nB<|.c (.fB 1 0 false)<|.c (.b1 1)<|.c .pl<|.c .gt<|.c .m ?_
   refine .cD 65 rfl (fun g65=>?_) (fun g65=>?_)
   ·skip
    have hstep:stepW ms p v s []=(false,s+1,[]):=if_pos (by omega)
    obtain rfl:R=(false,s+1,[]):=by rw[←hE,iterW_no h49 hstep rfl]
    refine .c .f<|.c .f<|.c .f<|.c .f<|.c .f<|.c .f<|.c .f<|.c .f<|.c .pT<|.nn ?_
    refine .k1 ?_
    refine .r<|.c .a<|.nn<|.ret<|kb_r<|ks_r<|kl_r<|kb_r<|ks_r ?_
    refine kf_wret [eT 4 ((false,s+1,[]):Bool×Nat×Pts).1,(.b 0,.b 158 3 (dR ([rWk ns ((false,s+1,[]):Bool×Nat×Pts).2.1]))),eU 0] (Wk.keep [(0,0)] rfl rfl ⟨ks rfl (.dt (by first|rfl|exact congrArg (fun b=>V.o (bo1 b)) h74.symm)),kb 0 rfl (.dt rfl),trivial⟩) rfl ?_ (one_box rfl)
    rfl
   ·skip
    have hstep:stepW ms p v s []=walkF ms (p++[v]) (s+1) []:=if_neg (by omega)
    have ihv:=ih v (s+1) [] h1 h49 (by omega) (by simp)
    have hzz:(walkF ms (p++[v]) (s+1) []).2.2=[]:=by rw[←hE]at hz;have h5:=first_nil (fun v s o=>stepW_grow ms p v s o) h49 hz;rwa[hstep]at h5
    refine .c (.g .m)<|.c (.g .m) ?_
    refine .c (.gT rfl rfl rfl (.cO [.tmp 67] [(100,168)] rfl rfl rfl rfl (clone_own hp0 (by have:=hR.ln;omega)) rfl trivial flatS.nil (flatS.nil.cons rfl) HB.nil.data outS_one)) ?_
    refine .c (.g .m)<|.c (.g (.li 3 0 0 [.tmp 69])) ?_
    refine .c (.gT rfl rfl rfl (St1.appD (rows:=p.map rI) (e:=3) (sz:=0) (by':=8) rfl rfl rfl rfl rfl (by kernel_rfl) rfl rfl rfl rfl (by simp) (by simp;have:=hR.ln;omega) rfl)) ?_
    refine .c (.gT rfl rfl rfl (.cO [.tmp 66,.tmp 71] [(0,0)] rfl rfl rfl rfl (Fn.arg2 (dIs_snoc p v) (ihv.nn rfl hzz)) rfl ⟨rfl,trivial⟩ (hbN_flat _ _) (hbN_flat _ _) (hbN_HB _ _) outS_one)) ?_
    refine .c (.g .nt)<|.c .pF<|.nn ?_
    refine ACode.condT rfl (fun h74=>?_) (fun h74=>?_)
    ·try simp only[zs]at h74
     obtain rfl:R=walkF ms (p++[v]) (s+1) []:=by rw[←hE,iterW_no h49 hstep h74]
     refine .r<|.c .a<|.nn<|.ret<|kb_r<|ks_r<|kl_r<|kb_r<|ks_r ?_
     refine kf_wret [eT 4 (walkF ms (p++[v]) (s+1) []).1,(.b 0,.b 158 3 (dR ([rWk ns (walkF ms (p++[v]) (s+1) []).2.1]))),eU 0] (Wk.keep [(0,0)] rfl rfl ⟨ks rfl (.dt (by first|rfl|exact congrArg (fun b=>V.o (bo1 b)) h74.symm)),kb 0 rfl (.dt rfl),trivial⟩) rfl ?_ (one_box rfl)
     rfl
    ·try simp only[zs]at h74
     obtain⟨g,hg,hst⟩:=walkF_stp ms (p++[v]) (s+1) [] (by omega) (by simp)
     obtain⟨q1,q2⟩:=hst.ok.1 h74
     obtain⟨q3,q4⟩:=hst.st h74
     have q5:=congrArg List.length q4
     rw[List.length_append]at q5
     simp only[List.length_nil]at q5 q2
     refine .skip<|kb_n<|ks_n<|.region<|.c .m<|.c .pl<|.c .a<|.nil ?_
     refine kl_k [(0,0)] ⟨v+1,(walkF ms (p++[v]) (s+1) []).2.1,rfl,by omega,by omega,by rw[←hE,iterW_yes h49 hstep h74,hzz],rfl⟩ ⟨kX,kd,kd,kd,kb 0 rfl (.r3 .dt .dt .dt),trivial⟩
  ·skip
   obtain rfl:R=(true,s,[]):=by rw[←hE,iterW_ge h49]
   refine .exit<|ks_e<|kl_e<|kb_hit<|ks_n<|.r<|.c .a<|.nn<|.ret ?_
   refine kf_wret [eT 4 ((true,s,[]):Bool×Nat×Pts).1,(.b 0,.b 158 3 (dR ([rWk ns ((true,s,[]):Bool×Nat×Pts).2.1]))),eU 0] (Wk.keep [(0,0)] rfl rfl ⟨ks rfl (.dt (by first|rfl|exact congrArg (fun b=>V.o (bo1 b)) h74.symm)),kb 0 rfl (.dt rfl),trivial⟩) rfl ?_ (one_box rfl)
   rfl
theorem walk_no {ns:List Lp} (hn:ns.length≤4) {l:Lp} {ms:List Lp} {p:List Int} (hl:ns[p.length]?=some l) (hR:okR l p) (hlo: -100000000≤loF p l.1∧loF p l.1≤100000000) (hhi: -100000000≤hiF p l.2∧hiF p l.2≤100000000) (hp0:0<p.length) {s0:Nat} (hs0:s0≤1199) (ih:∀v s o,loF p l.1≤v→v<hiF p l.2→s≤1199→o.length≤120→WOk ns ms (p++[v]) (dIs (p++[v])) s o) (hz:(walkF (l::ms) p s0 ([]:Pts)).2.2≠[]):Fn Tryz.prog 106 (hbN ns s0) [.c (.box 0 3 0 0),vD (dIs p)] (.o (bo1 (walkF (l::ms) p s0 ([]:Pts)).1)) (hbO 1000 ns (walkF (l::ms) p s0 ([]:Pts)).2.1 (walkF (l::ms) p s0 ([]:Pts)).2.2):=by
 obtain⟨R,hRd⟩:∃R,R=walkF (l::ms) p s0 ([]:Pts):=⟨_,rfl⟩
 rw[←hRd]at hz ⊢
 refine Fn.of_code Tryz.func106 rfl rfl (hbN_HB _ _) rfl rfl (hbO_HB _ _ _ _) rfl (num_NO _ _ _ _) ?_
 refine .r<|.c .a<|.nn<|.seq<|.r<|.c .m<|.c (.ln 3 1 8)<|.c .m<|.c .nB<|.c (.fB 0 0 false)<|.c (.b1 1)<|.c (.ln 148 2 48)<|.c .eq<|.nn ?_
 refine .cD rfl (fun h15=>?_) (fun h15=>?_)
 ·skip
  exact absurd h15 (by have:=(List.getElem?_eq_some_iff.1 hl).1;simp at this ⊢;omega)
 ·skip
  refine .skip<|ks_n<|.r<|.c .m<|.c .nB<|.c (.fB 0 0 false)<|.c (.b1 1)<|.c .m<|.c (.ln 3 1 8) ?_
  refine .c (.xL 148 2 48 rfl rfl rfl rfl rfl (map_at hl)) ?_
  refine .c (.lN 2)<|.c .m ?_
  refine .c (.cP [.tmp 41,.tmp 42] rfl rfl rfl rfl (span_fn hR) rfl) ?_
  refine .c .m<|.c .ex<|.c .ex<|.c .a<|.c .a<|.nn<|.seq<|.r<|.c .m<|.c .a<|.nn<|.block ?_
  refine .loopK (fun m σ=>(∃(v:Int) (s:Nat),m=(hiF p l.2 -v).toNat∧(loF p l.1≤v)∧(s≤1199)∧(iterW (stepW ms p) (hiF p l.2 -v).toNat v s []=R)∧σ=[eB 0 0 3,eD 1 (dIs p),eN 6 (hiF p l.2),eN 7 v,(.b 0,.b 158 3 [[.d (dLs ns),.d (dI (s:Nat)),nl]]),eU 0])∨(∃(v:Int) (s:Nat) (o:Pts),m=(hiF p l.2 -v).toNat∧(loF p l.1≤v)∧(s≤1199)∧(o.length≤120)∧(o≠[])∧(iterW (stepW ms p) (hiF p l.2 -v).toNat v s o=R)∧σ=[eB 0 0 3,eD 1 (dIs p),eN 6 (hiF p l.2),eN 7 v,(.b 1010,.b 43 1 (dR (o.map rIs))),eU 1010,(.b 0,.b 158 3 [[.d (dLs ns),.d (dI (s:Nat)),.own 1010 1 (o.length)]]),eU 0])) [(0,0)] (.inl ⟨loF p l.1,s0,rfl,(by omega),hs0,(by rw[hRd];rfl),rfl⟩) ⟨kX,kd,kd,kd,kb 0 rfl (.r3 .dt .dt .dt),trivial⟩ ?_
  rintro m σ (⟨v,s,hm0,h1,hs,hE,rfl⟩|⟨v,s,o,hm0,h1,hs,ho,hno,hE,rfl⟩)
  ·skip
   refine .seq<|.r<|.c .m<|.c .m<|.c .ls<|.nn ?_
   refine .cD rfl (fun h49=>?_) (fun h49=>?_)
   ·skip
    refine .skip<|ks_n<|.seq<|.block<|.r<|.c .m<|.c .nB<|.c (.fB 1 0 false)<|.c (.b1 1)<|.c .pl<|.c .nB<|.c (.fB 1 0 false)<|.c (.sT 1 false)<|.nn<|.seq ?_
    by_cases hsp:(walkF ms (p++[v]) (s+1) []).2.2=[]
    ·skip
     have hzz:=hsp
     refine .keep [eB 0 0 3,eD 1 (dIs p),eN 6 (hiF p l.2),eN 7 v,(.b 0,.b 158 3 [[.d (dLs ns),.d (dI ((s+1):Nat)),nl]]),eU 0] [(0,0)] ⟨kX,kd,kd,kd,kb 0 rfl (.r3 .dt .dt .dt),trivial⟩ ?_
     refine .region<|.c .m<|.c .nB<|.c (.fB 1 0 false)<|.c (.b1 1)<|.c .pl<|.c .gt<|.c .m ?_
     refine .cD 65 rfl (fun g65=>?_) (fun g65=>?_)
     ·skip
      exact absurd (by rw[←hE,iterW_no h49 (r:=(false,s+1,[])) (if_pos (by omega)) rfl]) hz
     ·skip
      have hstep:stepW ms p v s []=walkF ms (p++[v]) (s+1) []:=if_neg (by omega)
      have ihv:=ih v (s+1) [] h1 h49 (by omega) (by simp)
      refine .c (.g .m)<|.c (.g .m) ?_
      refine .c (.gT rfl rfl rfl (.cO [.tmp 67] [(100,168)] rfl rfl rfl rfl (clone_own hp0 (by have:=hR.ln;omega)) rfl trivial flatS.nil (flatS.nil.cons rfl) HB.nil.data outS_one)) ?_
      refine .c (.g .m)<|.c (.g (.li 3 0 0 [.tmp 69])) ?_
      refine .c (.gT rfl rfl rfl (St1.appD (rows:=p.map rI) (e:=3) (sz:=0) (by':=8) rfl rfl rfl rfl rfl (by kernel_rfl) rfl rfl rfl rfl (by simp) (by simp;have:=hR.ln;omega) rfl)) ?_
      refine .c (.gT rfl rfl rfl (.cO [.tmp 66,.tmp 71] [(0,0)] rfl rfl rfl rfl (Fn.arg2 (dIs_snoc p v) (ihv.nn rfl hzz)) rfl ⟨rfl,trivial⟩ (hbN_flat _ _) (hbN_flat _ _) (hbN_HB _ _) outS_one)) ?_
      refine .c (.g .nt)<|.c .pF<|.nn ?_
      refine ACode.condT rfl (fun h74=>?_) (fun h74=>?_)
      ·try simp only[zs]at h74
       exact absurd (by rw[←hE,iterW_no h49 hstep h74];exact hzz) hz
      ·try simp only[zs]at h74
       obtain⟨g,hg,hst⟩:=walkF_stp ms (p++[v]) (s+1) [] (by omega) (by simp)
       obtain⟨q1,q2⟩:=hst.ok.1 h74
       obtain⟨q3,q4⟩:=hst.st h74
       have q5:=congrArg List.length q4
       rw[List.length_append]at q5
       simp only[List.length_nil]at q5 q2
       refine .skip<|kb_n<|ks_n<|.region<|.c .m<|.c .pl<|.c .a<|.nil ?_
       refine kl_k [(0,0)] (.inl ⟨v+1,(walkF ms (p++[v]) (s+1) []).2.1,rfl,by omega,by omega,by rw[←hE,iterW_yes h49 hstep h74,hzz],rfl⟩) ⟨kX,kd,kd,kd,kb 0 rfl (.r3 .dt .dt .dt),trivial⟩
    ·skip
     have hzz:=hsp
     refine .keep [eB 0 0 3,eD 1 (dIs p),eN 6 (hiF p l.2),eN 7 v,(.b 0,.b 158 3 [[.d (dLs ns),.d (dI ((s+1):Nat)),nl]]),eU 0] [(0,0)] ⟨kX,kd,kd,kd,kb 0 rfl (.r3 .dt .dt .dt),trivial⟩ ?_
     refine .region<|.c .m<|.c .nB<|.c (.fB 1 0 false)<|.c (.b1 1)<|.c .pl<|.c .gt<|.c .m ?_
     refine .cD 65 rfl (fun g65=>?_) (fun g65=>?_)
     ·skip
      exact absurd (by rw[←hE,iterW_no h49 (r:=(false,s+1,[])) (if_pos (by omega)) rfl]) hz
     ·skip
      have hstep:stepW ms p v s []=walkF ms (p++[v]) (s+1) []:=if_neg (by omega)
      have ihv:=ih v (s+1) [] h1 h49 (by omega) (by simp)
      refine .c (.g .m)<|.c (.g .m) ?_
      refine .c (.gT rfl rfl rfl (.cO [.tmp 67] [(100,168)] rfl rfl rfl rfl (clone_own hp0 (by have:=hR.ln;omega)) rfl trivial flatS.nil (flatS.nil.cons rfl) HB.nil.data outS_one)) ?_
      refine .c (.g .m)<|.c (.g (.li 3 0 0 [.tmp 69])) ?_
      refine .c (.gT rfl rfl rfl (St1.appD (rows:=p.map rI) (e:=3) (sz:=0) (by':=8) rfl rfl rfl rfl rfl (by kernel_rfl) rfl rfl rfl rfl (by simp) (by simp;have:=hR.ln;omega) rfl)) ?_
      refine .c (.gT rfl rfl rfl (.cO [.tmp 66,.tmp 71] [(0,0),(1000,1072)] rfl rfl rfl rfl (Fn.arg2 (dIs_snoc p v) (ihv.no rfl hzz)) rfl ⟨rfl,trivial⟩ (hbN_flat _ _) (hbO_flat3 _ _ _) (hbO_HB _ _ _ _) outS_O)) ?_
      refine .c (.g .nt)<|.c .pF<|.nn ?_
      refine ACode.condT rfl (fun h74=>?_) (fun h74=>?_)
      ·try simp only[zs]at h74
       obtain rfl:R=walkF ms (p++[v]) (s+1) []:=by rw[←hE,iterW_no h49 hstep h74]
       refine .r<|.c .a<|.nn<|.ret<|kb_r<|ks_r<|kl_r<|kb_r<|ks_r ?_
       refine kf_wret [eT 4 (walkF ms (p++[v]) (s+1) []).1,(.b 0,.b 158 3 ([[.d (dLs ns),.d (dI ((walkF ms (p++[v]) (s+1) []).2.1:Nat)),.own 1000 1 ((walkF ms (p++[v]) (s+1) []).2.2).length]])),eU 0,(.b 1000,.b 43 1 (dR (((walkF ms (p++[v]) (s+1) []).2.2).map rIs))),eU 1000] (Wk.keep [(0,0),(1000,1072)] rfl rfl ⟨ks rfl (.dt (by first|rfl|exact congrArg (fun b=>V.o (bo1 b)) h74.symm)),kb 0 rfl (.cons (.cons .dt (.cons .dt (.cons .ow .nil))) .nil),kb 1072 rfl (.dt rfl),trivial⟩) rfl ?_ (two_box rfl rfl)
       rfl
      ·try simp only[zs]at h74
       obtain⟨g,hg,hst⟩:=walkF_stp ms (p++[v]) (s+1) [] (by omega) (by simp)
       obtain⟨q1,q2⟩:=hst.ok.1 h74
       obtain⟨q3,q4⟩:=hst.st h74
       have q5:=congrArg List.length q4
       rw[List.length_append]at q5
       simp only[List.length_nil]at q5 q2
       refine .skip<|kb_n<|ks_n<|.region<|.c .m<|.c .pl<|.c .a<|.nil ?_
       refine kl_k [(0,0),(1010,1072)] (.inr ⟨v+1,(walkF ms (p++[v]) (s+1) []).2.1,(walkF ms (p++[v]) (s+1) []).2.2,rfl,by omega,by omega,by omega,hzz,by rw[←hE,iterW_yes h49 hstep h74],rfl⟩) ⟨kX,kd,kd,kd,kb 1072 rfl (.dt rfl),kb 0 rfl (.r3 .dt .dt .ow),trivial⟩
   ·skip
    exact absurd (by rw[←hE,iterW_ge h49]) hz
  ·skip
   refine .seq<|.r<|.c .m<|.c .m<|.c .ls<|.nn ?_
   refine .cD rfl (fun h49=>?_) (fun h49=>?_)
   ·skip
    refine .skip<|ks_n<|.seq<|.block<|.r<|.c .m<|.c .nB<|.c (.fB 1 0 false)<|.c (.b1 1)<|.c .pl<|.c .nB<|.c (.fB 1 0 false)<|.c (.sT 1 false)<|.nn<|.seq ?_
    refine .keep [eB 0 0 3,eD 1 (dIs p),eN 6 (hiF p l.2),eN 7 v,(.b 1690,.b 43 1 (dR (o.map rIs))),eU 1690,(.b 0,.b 158 3 [[.d (dLs ns),.d (dI ((s+1):Nat)),.own 1690 1 (o.length)]]),eU 0] [(0,0),(1690,1010)] ⟨kX,kd,kd,kd,kb 1010 rfl (.dt rfl),kb 0 rfl (.r3 .dt .dt .ow),trivial⟩ ?_
    refine .region<|.c .m<|.c .nB<|.c (.fB 1 0 false)<|.c (.b1 1)<|.c .pl<|.c .gt<|.c .m ?_
    refine .cD 65 rfl (fun g65=>?_) (fun g65=>?_)
    ·skip
     have hstep:stepW ms p v s o=(false,s+1,o):=if_pos (by omega)
     obtain rfl:R=(false,s+1,o):=by rw[←hE,iterW_no h49 hstep rfl]
     refine .c .f<|.c .f<|.c .f<|.c .f<|.c .f<|.c .f<|.c .f<|.c .f<|.c .pT<|.nn ?_
     refine .k1 ?_
     refine .r<|.c .a<|.nn<|.ret<|kb_r<|ks_r<|kl_r<|kb_r<|ks_r ?_
     refine kf_wret [eT 4 ((false,s+1,o):Bool×Nat×Pts).1,(.b 0,.b 158 3 ([[.d (dLs ns),.d (dI (((false,s+1,o):Bool×Nat×Pts).2.1:Nat)),.own 1000 1 (((false,s+1,o):Bool×Nat×Pts).2.2).length]])),eU 0,(.b 1000,.b 43 1 (dR ((((false,s+1,o):Bool×Nat×Pts).2.2).map rIs))),eU 1000] (Wk.keep [(0,0),(1000,1690)] rfl rfl ⟨ks rfl (.dt (by first|rfl|exact congrArg (fun b=>V.o (bo1 b)) h74.symm)),kb 0 rfl (.cons (.cons .dt (.cons .dt (.cons .ow .nil))) .nil),kb 1690 rfl (.dt rfl),trivial⟩) rfl ?_ (two_box rfl rfl)
     rfl
    ·skip
     have hstep:stepW ms p v s o=walkF ms (p++[v]) (s+1) o:=if_neg (by omega)
     have ihv:=ih v (s+1) o h1 h49 (by omega) (by omega)
     refine .c (.g .m)<|.c (.g .m) ?_
     refine .c (.gT rfl rfl rfl (.cO [.tmp 67] [(100,168)] rfl rfl rfl rfl (clone_own hp0 (by have:=hR.ln;omega)) rfl trivial flatS.nil (flatS.nil.cons rfl) HB.nil.data outS_one)) ?_
     refine .c (.g .m)<|.c (.g (.li 3 0 0 [.tmp 69])) ?_
     refine .c (.gT rfl rfl rfl (St1.appD (rows:=p.map rI) (e:=3) (sz:=0) (by':=8) rfl rfl rfl rfl rfl (by kernel_rfl) rfl rfl rfl rfl (by simp) (by simp;have:=hR.ln;omega) rfl)) ?_
     refine .c (.gT rfl rfl rfl (.cO [.tmp 66,.tmp 71] [(0,0),(1,1690),(1000,1072)] rfl rfl rfl rfl (Fn.arg2 (dIs_snoc p v) (ihv.oo hno)) rfl (hbIn_O rfl rfl) (hbO_flat1 _ _ _) (hbO_flat3 _ _ _) (hbO_HB _ _ _ _) outS_O)) ?_
     refine .c (.g .nt)<|.c .pF<|.nn ?_
     refine ACode.condT rfl (fun h74=>?_) (fun h74=>?_)
     ·try simp only[zs]at h74
      obtain rfl:R=walkF ms (p++[v]) (s+1) o:=by rw[←hE,iterW_no h49 hstep h74]
      refine .r<|.c .a<|.nn<|.ret<|kb_r<|ks_r<|kl_r<|kb_r<|ks_r ?_
      refine kf_wret [eT 4 (walkF ms (p++[v]) (s+1) o).1,(.b 0,.b 158 3 ([[.d (dLs ns),.d (dI ((walkF ms (p++[v]) (s+1) o).2.1:Nat)),.own 1000 1 ((walkF ms (p++[v]) (s+1) o).2.2).length]])),eU 0,(.b 1000,.b 43 1 (dR (((walkF ms (p++[v]) (s+1) o).2.2).map rIs))),eU 1000] (Wk.keep [(0,0),(1000,1072)] rfl rfl ⟨ks rfl (.dt (by first|rfl|exact congrArg (fun b=>V.o (bo1 b)) h74.symm)),kb 0 rfl (.cons (.cons .dt (.cons .dt (.cons .ow .nil))) .nil),kb 1072 rfl (.dt rfl),trivial⟩) rfl ?_ (two_box rfl rfl)
      rfl
     ·try simp only[zs]at h74
      obtain⟨g,hg,hst⟩:=walkF_stp ms (p++[v]) (s+1) o (by omega) (by omega)
      obtain⟨q1,q2⟩:=hst.ok.1 h74
      obtain⟨q3,q4⟩:=hst.st h74
      have q5:=congrArg List.length q4
      rw[List.length_append]at q5
      skip
      refine .skip<|kb_n<|ks_n<|.region<|.c .m<|.c .pl<|.c .a<|.nil ?_
      refine kl_k [(0,0),(1010,1072)] (.inr ⟨v+1,(walkF ms (p++[v]) (s+1) o).2.1,(walkF ms (p++[v]) (s+1) o).2.2,rfl,by omega,by omega,by omega,by obtain⟨z,hz2⟩:=walkF_grow ms (p++[v]) (s+1) o;rw[hz2];exact fun e=>hno (List.append_eq_nil_iff.1 e).1,by rw[←hE,iterW_yes h49 hstep h74],rfl⟩) ⟨kX,kd,kd,kd,kb 1072 rfl (.dt rfl),kb 0 rfl (.r3 .dt .dt .ow),trivial⟩
   ·skip
    obtain rfl:R=(true,s,o):=by rw[←hE,iterW_ge h49]
    refine .exit<|ks_e<|kl_e<|kb_hit<|ks_n<|.r<|.c .a<|.nn<|.ret ?_
    refine kf_wret [eT 4 ((true,s,o):Bool×Nat×Pts).1,(.b 0,.b 158 3 ([[.d (dLs ns),.d (dI (((true,s,o):Bool×Nat×Pts).2.1:Nat)),.own 1000 1 (((true,s,o):Bool×Nat×Pts).2.2).length]])),eU 0,(.b 1000,.b 43 1 (dR ((((true,s,o):Bool×Nat×Pts).2.2).map rIs))),eU 1000] (Wk.keep [(0,0),(1000,1010)] rfl rfl ⟨ks rfl (.dt (by first|rfl|exact congrArg (fun b=>V.o (bo1 b)) h74.symm)),kb 0 rfl (.cons (.cons .dt (.cons .dt (.cons .ow .nil))) .nil),kb 1010 rfl (.dt rfl),trivial⟩) rfl ?_ (two_box rfl rfl)
    rfl
theorem walk_oo {ns:List Lp} (hn:ns.length≤4) {l:Lp} {ms:List Lp} {p:List Int} (hl:ns[p.length]?=some l) (hR:okR l p) (hlo: -100000000≤loF p l.1∧loF p l.1≤100000000) (hhi: -100000000≤hiF p l.2∧hiF p l.2≤100000000) (hp0:0<p.length) {s0:Nat} (hs0:s0≤1199) {o0:Pts} (ho0:o0.length≤120) (hne:o0≠[]) (ih:∀v s o,loF p l.1≤v→v<hiF p l.2→s≤1199→o.length≤120→WOk ns ms (p++[v]) (dIs (p++[v])) s o)  :Fn Tryz.prog 106 (hbO 1 ns s0 o0) [.c (.box 0 3 0 0),vD (dIs p)] (.o (bo1 (walkF (l::ms) p s0 o0).1)) (hbO 1000 ns (walkF (l::ms) p s0 o0).2.1 (walkF (l::ms) p s0 o0).2.2):=by
 obtain⟨R,hRd⟩:∃R,R=walkF (l::ms) p s0 o0:=⟨_,rfl⟩
 rw[←hRd]
 refine Fn.of_code Tryz.func106 rfl rfl (hbO_HB _ _ _ _) rfl rfl (hbO_HB _ _ _ _) rfl (num_OO _ _ _ _ _) ?_
 refine .r<|.c .a<|.nn<|.seq<|.r<|.c .m<|.c (.ln 3 1 8)<|.c .m<|.c .nB<|.c (.fB 0 0 false)<|.c (.b1 1)<|.c (.ln 148 2 48)<|.c .eq<|.nn ?_
 refine .cD rfl (fun h15=>?_) (fun h15=>?_)
 ·skip
  exact absurd h15 (by have:=(List.getElem?_eq_some_iff.1 hl).1;simp at this ⊢;omega)
 ·skip
  refine .skip<|ks_n<|.r<|.c .m<|.c .nB<|.c (.fB 0 0 false)<|.c (.b1 1)<|.c .m<|.c (.ln 3 1 8) ?_
  refine .c (.xL 148 2 48 rfl rfl rfl rfl rfl (map_at hl)) ?_
  refine .c (.lN 2)<|.c .m ?_
  refine .c (.cP [.tmp 41,.tmp 42] rfl rfl rfl rfl (span_fn hR) rfl) ?_
  refine .c .m<|.c .ex<|.c .ex<|.c .a<|.c .a<|.nn<|.seq<|.r<|.c .m<|.c .a<|.nn<|.block ?_
  refine .loopK (fun m σ=>(∃(v:Int) (s:Nat) (o:Pts),m=(hiF p l.2 -v).toNat∧(loF p l.1≤v)∧(s≤1199)∧(o.length≤120)∧(o≠[])∧(iterW (stepW ms p) (hiF p l.2 -v).toNat v s o=R)∧σ=[eB 0 0 3,eD 1 (dIs p),eN 6 (hiF p l.2),eN 7 v,(.b 1010,.b 43 1 (dR (o.map rIs))),eU 1010,(.b 0,.b 158 3 [[.d (dLs ns),.d (dI (s:Nat)),.own 1010 1 (o.length)]]),eU 0])) [(0,0),(1010,1)] ⟨loF p l.1,s0,o0,rfl,(by omega),hs0,ho0,hne,(by rw[hRd];rfl),rfl⟩ ⟨kX,kd,kd,kd,kb 1 rfl (.dt rfl),kb 0 rfl (.r3 .dt .dt .ow),trivial⟩ ?_
  rintro m σ ⟨v,s,o,hm0,h1,hs,ho,hno,hE,rfl⟩
  refine .seq<|.r<|.c .m<|.c .m<|.c .ls<|.nn ?_
  refine .cD rfl (fun h49=>?_) (fun h49=>?_)
  ·skip
   refine .skip<|ks_n<|.seq<|.block<|.r<|.c .m<|.c .nB<|.c (.fB 1 0 false)<|.c (.b1 1)<|.c .pl<|.c .nB<|.c (.fB 1 0 false)<|.c (.sT 1 false)<|.nn<|.seq ?_
   refine .keep [eB 0 0 3,eD 1 (dIs p),eN 6 (hiF p l.2),eN 7 v,(.b 1690,.b 43 1 (dR (o.map rIs))),eU 1690,(.b 0,.b 158 3 [[.d (dLs ns),.d (dI ((s+1):Nat)),.own 1690 1 (o.length)]]),eU 0] [(0,0),(1690,1010)] ⟨kX,kd,kd,kd,kb 1010 rfl (.dt rfl),kb 0 rfl (.r3 .dt .dt .ow),trivial⟩ ?_
   refine .region<|.c .m<|.c .nB<|.c (.fB 1 0 false)<|.c (.b1 1)<|.c .pl<|.c .gt<|.c .m ?_
   refine .cD 65 rfl (fun g65=>?_) (fun g65=>?_)
   ·skip
    have hstep:stepW ms p v s o=(false,s+1,o):=if_pos (by omega)
    obtain rfl:R=(false,s+1,o):=by rw[←hE,iterW_no h49 hstep rfl]
    refine .c .f<|.c .f<|.c .f<|.c .f<|.c .f<|.c .f<|.c .f<|.c .f<|.c .pT<|.nn ?_
    refine .k1 ?_
    refine .r<|.c .a<|.nn<|.ret<|kb_r<|ks_r<|kl_r<|kb_r<|ks_r ?_
    refine kf_wret [eT 4 ((false,s+1,o):Bool×Nat×Pts).1,(.b 0,.b 158 3 ([[.d (dLs ns),.d (dI (((false,s+1,o):Bool×Nat×Pts).2.1:Nat)),.own 1000 1 (((false,s+1,o):Bool×Nat×Pts).2.2).length]])),eU 0,(.b 1000,.b 43 1 (dR ((((false,s+1,o):Bool×Nat×Pts).2.2).map rIs))),eU 1000] (Wk.keep [(0,0),(1000,1690)] rfl rfl ⟨ks rfl (.dt (by first|rfl|exact congrArg (fun b=>V.o (bo1 b)) h74.symm)),kb 0 rfl (.cons (.cons .dt (.cons .dt (.cons .ow .nil))) .nil),kb 1690 rfl (.dt rfl),trivial⟩) rfl ?_ (two_box rfl rfl)
    rfl
   ·skip
    have hstep:stepW ms p v s o=walkF ms (p++[v]) (s+1) o:=if_neg (by omega)
    have ihv:=ih v (s+1) o h1 h49 (by omega) (by omega)
    refine .c (.g .m)<|.c (.g .m) ?_
    refine .c (.gT rfl rfl rfl (.cO [.tmp 67] [(100,168)] rfl rfl rfl rfl (clone_own hp0 (by have:=hR.ln;omega)) rfl trivial flatS.nil (flatS.nil.cons rfl) HB.nil.data outS_one)) ?_
    refine .c (.g .m)<|.c (.g (.li 3 0 0 [.tmp 69])) ?_
    refine .c (.gT rfl rfl rfl (St1.appD (rows:=p.map rI) (e:=3) (sz:=0) (by':=8) rfl rfl rfl rfl rfl (by kernel_rfl) rfl rfl rfl rfl (by simp) (by simp;have:=hR.ln;omega) rfl)) ?_
    refine .c (.gT rfl rfl rfl (.cO [.tmp 66,.tmp 71] [(0,0),(1,1690),(1000,1072)] rfl rfl rfl rfl (Fn.arg2 (dIs_snoc p v) (ihv.oo hno)) rfl (hbIn_O rfl rfl) (hbO_flat1 _ _ _) (hbO_flat3 _ _ _) (hbO_HB _ _ _ _) outS_O)) ?_
    refine .c (.g .nt)<|.c .pF<|.nn ?_
    refine ACode.condT rfl (fun h74=>?_) (fun h74=>?_)
    ·try simp only[zs]at h74
     obtain rfl:R=walkF ms (p++[v]) (s+1) o:=by rw[←hE,iterW_no h49 hstep h74]
     refine .r<|.c .a<|.nn<|.ret<|kb_r<|ks_r<|kl_r<|kb_r<|ks_r ?_
     refine kf_wret [eT 4 (walkF ms (p++[v]) (s+1) o).1,(.b 0,.b 158 3 ([[.d (dLs ns),.d (dI ((walkF ms (p++[v]) (s+1) o).2.1:Nat)),.own 1000 1 ((walkF ms (p++[v]) (s+1) o).2.2).length]])),eU 0,(.b 1000,.b 43 1 (dR (((walkF ms (p++[v]) (s+1) o).2.2).map rIs))),eU 1000] (Wk.keep [(0,0),(1000,1072)] rfl rfl ⟨ks rfl (.dt (by first|rfl|exact congrArg (fun b=>V.o (bo1 b)) h74.symm)),kb 0 rfl (.cons (.cons .dt (.cons .dt (.cons .ow .nil))) .nil),kb 1072 rfl (.dt rfl),trivial⟩) rfl ?_ (two_box rfl rfl)
     rfl
    ·try simp only[zs]at h74
     obtain⟨g,hg,hst⟩:=walkF_stp ms (p++[v]) (s+1) o (by omega) (by omega)
     obtain⟨q1,q2⟩:=hst.ok.1 h74
     obtain⟨q3,q4⟩:=hst.st h74
     have q5:=congrArg List.length q4
     rw[List.length_append]at q5
     skip
     refine .skip<|kb_n<|ks_n<|.region<|.c .m<|.c .pl<|.c .a<|.nil ?_
     refine kl_k [(0,0),(1010,1072)] ⟨v+1,(walkF ms (p++[v]) (s+1) o).2.1,(walkF ms (p++[v]) (s+1) o).2.2,rfl,by omega,by omega,by omega,by obtain⟨z,hz2⟩:=walkF_grow ms (p++[v]) (s+1) o;rw[hz2];exact fun e=>hno (List.append_eq_nil_iff.1 e).1,by rw[←hE,iterW_yes h49 hstep h74],rfl⟩ ⟨kX,kd,kd,kd,kb 1072 rfl (.dt rfl),kb 0 rfl (.r3 .dt .dt .ow),trivial⟩
  ·skip
   obtain rfl:R=(true,s,o):=by rw[←hE,iterW_ge h49]
   refine .exit<|ks_e<|kl_e<|kb_hit<|ks_n<|.r<|.c .a<|.nn<|.ret ?_
   refine kf_wret [eT 4 ((true,s,o):Bool×Nat×Pts).1,(.b 0,.b 158 3 ([[.d (dLs ns),.d (dI (((true,s,o):Bool×Nat×Pts).2.1:Nat)),.own 1000 1 (((true,s,o):Bool×Nat×Pts).2.2).length]])),eU 0,(.b 1000,.b 43 1 (dR ((((true,s,o):Bool×Nat×Pts).2.2).map rIs))),eU 1000] (Wk.keep [(0,0),(1000,1010)] rfl rfl ⟨ks rfl (.dt (by first|rfl|exact congrArg (fun b=>V.o (bo1 b)) h74.symm)),kb 0 rfl (.cons (.cons .dt (.cons .dt (.cons .ow .nil))) .nil),kb 1010 rfl (.dt rfl),trivial⟩) rfl ?_ (two_box rfl rfl)
   rfl
theorem walk_nnR {ns:List Lp} (hn:ns.length≤4) {l:Lp} {ms:List Lp} (hl:ns[([]:List Int).length]?=some l) (hR:okR l ([]:List Int)) (hlo: -100000000≤loF ([]:List Int) l.1∧loF ([]:List Int) l.1≤100000000) (hhi: -100000000≤hiF ([]:List Int) l.2∧hiF ([]:List Int) l.2≤100000000) {s0:Nat} (hs0:s0≤1199) (ih:∀v s o,loF ([]:List Int) l.1≤v→v<hiF ([]:List Int) l.2→s≤1199→o.length≤120→WOk ns ms (([]:List Int)++[v]) (dIs (([]:List Int)++[v])) s o) (hz:(walkF (l::ms) ([]:List Int) s0 ([]:Pts)).2.2=[]):Fn Tryz.prog 106 (hbN ns s0) [.c (.box 0 3 0 0),vN] (.o (bo1 (walkF (l::ms) ([]:List Int) s0 ([]:Pts)).1)) (hbN ns (walkF (l::ms) ([]:List Int) s0 ([]:Pts)).2.1):=by
 obtain⟨R,hRd⟩:∃R,R=walkF (l::ms) ([]:List Int) s0 ([]:Pts):=⟨_,rfl⟩
 rw[←hRd]at hz ⊢
 refine Fn.of_code Tryz.func106 rfl rfl (hbN_HB _ _) rfl rfl (hbN_HB _ _) rfl (num_NN _ _ _) ?_
 refine .r<|.c .a<|.nn<|.seq<|.r<|.c .m ?_
 refine .c (St1.lenN (e:=3) (m:=1) (by':=8) rfl rfl rfl rfl rfl (by kernel_rfl) rfl) ?_
 refine .c .m<|.c .nB<|.c (.fB 0 0 false)<|.c (.b1 1)<|.c (.ln 148 2 48)<|.c .eq<|.nn ?_
 refine .cD rfl (fun h15=>?_) (fun h15=>?_)
 ·skip
  exact absurd h15 (by have:=(List.getElem?_eq_some_iff.1 hl).1;simp at this ⊢;omega)
 ·skip
  refine .skip<|ks_n<|.r<|.c .m<|.c .nB<|.c (.fB 0 0 false)<|.c (.b1 1)<|.c .m ?_
  refine .c (St1.lenN (e:=3) (m:=1) (by':=8) rfl rfl rfl rfl rfl (by kernel_rfl) rfl) ?_
  refine .c (.xL 148 2 48 rfl rfl rfl rfl rfl (map_at hl)) ?_
  refine .c (.lN 2)<|.c .m ?_
  refine .c (.cP [.tmp 41,.tmp 42] rfl rfl rfl rfl (Fn.nilArg (pre:=[ad (rL l)]) (post:=[]) (sz:=1) (span_fn hR)) rfl) ?_
  refine .c .m<|.c .ex<|.c .ex<|.c .a<|.c .a<|.nn<|.seq<|.r<|.c .m<|.c .a<|.nn<|.block ?_
  refine .loopK (fun m σ=>(∃(v:Int) (s:Nat),m=(hiF ([]:List Int) l.2 -v).toNat∧(loF ([]:List Int) l.1≤v)∧(s≤1199)∧(iterW (stepW ms ([]:List Int)) (hiF ([]:List Int) l.2 -v).toNat v s []=R)∧σ=[eB 0 0 3,(.t 1,.v (.o vN)),eN 6 (hiF ([]:List Int) l.2),eN 7 v,(.b 0,.b 158 3 [[.d (dLs ns),.d (dI (s:Nat)),nl]]),eU 0])) [(0,0)] ⟨loF ([]:List Int) l.1,s0,rfl,(by omega),hs0,(by rw[hRd];rfl),rfl⟩ ⟨kX,kd,kd,kd,kb 0 rfl (.r3 .dt .dt .dt),trivial⟩ ?_
  rintro m σ ⟨v,s,hm0,h1,hs,hE,rfl⟩
  refine .seq<|.r<|.c .m<|.c .m<|.c .ls<|.nn ?_
  refine .cD rfl (fun h49=>?_) (fun h49=>?_)
  ·skip
   refine .skip<|ks_n<|.seq<|.block<|.r<|.c .m<|.c .nB<|.c (.fB 1 0 false)<|.c (.b1 1)<|.c .pl<|.c .nB<|.c (.fB 1 0 false)<|.c (.sT 1 false)<|.nn<|.seq ?_
   refine .keep [eB 0 0 3,(.t 1,.v (.o vN)),eN 6 (hiF ([]:List Int) l.2),eN 7 v,(.b 0,.b 158 3 [[.d (dLs ns),.d (dI ((s+1):Nat)),nl]]),eU 0] [(0,0)] ⟨kX,kd,kd,kd,kb 0 rfl (.r3 .dt .dt .dt),trivial⟩ ?_
   refine .region<|.c .m<|.c .nB<|.c (.fB 1 0 false)<|.c (.b1 1)<|.c .pl<|.c .gt<|.c .m ?_
   refine .cD 65 rfl (fun g65=>?_) (fun g65=>?_)
   ·skip
    have hstep:stepW ms ([]:List Int) v s []=(false,s+1,[]):=if_pos (by omega)
    obtain rfl:R=(false,s+1,[]):=by rw[←hE,iterW_no h49 hstep rfl]
    refine .c .f<|.c .f<|.c .f<|.c .f<|.c .f<|.c .f<|.c .f<|.c .f<|.c .pT<|.nn ?_
    refine .k1 ?_
    refine .r<|.c .a<|.nn<|.ret<|kb_r<|ks_r<|kl_r<|kb_r<|ks_r ?_
    refine kf_wret [eT 4 ((false,s+1,[]):Bool×Nat×Pts).1,(.b 0,.b 158 3 (dR ([rWk ns ((false,s+1,[]):Bool×Nat×Pts).2.1]))),eU 0] (Wk.keep [(0,0)] rfl rfl ⟨ks rfl (.dt (by first|rfl|exact congrArg (fun b=>V.o (bo1 b)) h74.symm)),kb 0 rfl (.dt rfl),trivial⟩) rfl ?_ (one_box rfl)
    rfl
   ·skip
    have hstep:stepW ms ([]:List Int) v s []=walkF ms (([]:List Int)++[v]) (s+1) []:=if_neg (by omega)
    have ihv:=ih v (s+1) [] h1 h49 (by omega) (by simp)
    have hzz:(walkF ms (([]:List Int)++[v]) (s+1) []).2.2=[]:=by rw[←hE]at hz;have h5:=first_nil (fun v s o=>stepW_grow ms ([]:List Int) v s o) h49 hz;rwa[hstep]at h5
    refine .c (.g .m)<|.c (.g .m) ?_
    refine .c (.gT rfl rfl rfl (.cP [.tmp 67] rfl rfl rfl rfl (clone_nilN) rfl)) ?_
    refine .c (.g .m)<|.c (.g (.li 3 0 0 [.tmp 69])) ?_
    refine .c (.gT rfl rfl rfl (St1.appND (e:=3) (sz:=0) (by':=8) rfl rfl rfl rfl rfl (by kernel_rfl) rfl rfl rfl (by simp))) ?_
    refine .c (.gT rfl rfl rfl (.cO [.tmp 66,.tmp 71] [(0,0)] rfl rfl rfl rfl (ihv.nn rfl hzz) rfl ⟨rfl,trivial⟩ (hbN_flat _ _) (hbN_flat _ _) (hbN_HB _ _) outS_one)) ?_
    refine .c (.g .nt)<|.c .pF<|.nn ?_
    refine ACode.condT rfl (fun h74=>?_) (fun h74=>?_)
    ·try simp only[zs]at h74
     obtain rfl:R=walkF ms (([]:List Int)++[v]) (s+1) []:=by rw[←hE,iterW_no h49 hstep h74]
     refine .r<|.c .a<|.nn<|.ret<|kb_r<|ks_r<|kl_r<|kb_r<|ks_r ?_
     refine kf_wret [eT 4 (walkF ms (([]:List Int)++[v]) (s+1) []).1,(.b 0,.b 158 3 (dR ([rWk ns (walkF ms (([]:List Int)++[v]) (s+1) []).2.1]))),eU 0] (Wk.keep [(0,0)] rfl rfl ⟨ks rfl (.dt (by first|rfl|exact congrArg (fun b=>V.o (bo1 b)) h74.symm)),kb 0 rfl (.dt rfl),trivial⟩) rfl ?_ (one_box rfl)
     rfl
    ·try simp only[zs]at h74
     obtain⟨g,hg,hst⟩:=walkF_stp ms (([]:List Int)++[v]) (s+1) [] (by omega) (by simp)
     obtain⟨q1,q2⟩:=hst.ok.1 h74
     obtain⟨q3,q4⟩:=hst.st h74
     have q5:=congrArg List.length q4
     rw[List.length_append]at q5
     simp only[List.length_nil]at q5 q2
     refine .skip<|kb_n<|ks_n<|.region<|.c .m<|.c .pl<|.c .a<|.nil ?_
     refine kl_k [(0,0)] ⟨v+1,(walkF ms (([]:List Int)++[v]) (s+1) []).2.1,rfl,by omega,by omega,by rw[←hE,iterW_yes h49 hstep h74,hzz],rfl⟩ ⟨kX,kd,kd,kd,kb 0 rfl (.r3 .dt .dt .dt),trivial⟩
  ·skip
   obtain rfl:R=(true,s,[]):=by rw[←hE,iterW_ge h49]
   refine .exit<|ks_e<|kl_e<|kb_hit<|ks_n<|.r<|.c .a<|.nn<|.ret ?_
   refine kf_wret [eT 4 ((true,s,[]):Bool×Nat×Pts).1,(.b 0,.b 158 3 (dR ([rWk ns ((true,s,[]):Bool×Nat×Pts).2.1]))),eU 0] (Wk.keep [(0,0)] rfl rfl ⟨ks rfl (.dt (by first|rfl|exact congrArg (fun b=>V.o (bo1 b)) h74.symm)),kb 0 rfl (.dt rfl),trivial⟩) rfl ?_ (one_box rfl)
   rfl
theorem walk_noR {ns:List Lp} (hn:ns.length≤4) {l:Lp} {ms:List Lp} (hl:ns[([]:List Int).length]?=some l) (hR:okR l ([]:List Int)) (hlo: -100000000≤loF ([]:List Int) l.1∧loF ([]:List Int) l.1≤100000000) (hhi: -100000000≤hiF ([]:List Int) l.2∧hiF ([]:List Int) l.2≤100000000) {s0:Nat} (hs0:s0≤1199) (ih:∀v s o,loF ([]:List Int) l.1≤v→v<hiF ([]:List Int) l.2→s≤1199→o.length≤120→WOk ns ms (([]:List Int)++[v]) (dIs (([]:List Int)++[v])) s o) (hz:(walkF (l::ms) ([]:List Int) s0 ([]:Pts)).2.2≠[]):Fn Tryz.prog 106 (hbN ns s0) [.c (.box 0 3 0 0),vN] (.o (bo1 (walkF (l::ms) ([]:List Int) s0 ([]:Pts)).1)) (hbO 1000 ns (walkF (l::ms) ([]:List Int) s0 ([]:Pts)).2.1 (walkF (l::ms) ([]:List Int) s0 ([]:Pts)).2.2):=by
 obtain⟨R,hRd⟩:∃R,R=walkF (l::ms) ([]:List Int) s0 ([]:Pts):=⟨_,rfl⟩
 rw[←hRd]at hz ⊢
 refine Fn.of_code Tryz.func106 rfl rfl (hbN_HB _ _) rfl rfl (hbO_HB _ _ _ _) rfl (num_NO _ _ _ _) ?_
 refine .r<|.c .a<|.nn<|.seq<|.r<|.c .m ?_
 refine .c (St1.lenN (e:=3) (m:=1) (by':=8) rfl rfl rfl rfl rfl (by kernel_rfl) rfl) ?_
 refine .c .m<|.c .nB<|.c (.fB 0 0 false)<|.c (.b1 1)<|.c (.ln 148 2 48)<|.c .eq<|.nn ?_
 refine .cD rfl (fun h15=>?_) (fun h15=>?_)
 ·skip
  exact absurd h15 (by have:=(List.getElem?_eq_some_iff.1 hl).1;simp at this ⊢;omega)
 ·skip
  refine .skip<|ks_n<|.r<|.c .m<|.c .nB<|.c (.fB 0 0 false)<|.c (.b1 1)<|.c .m ?_
  refine .c (St1.lenN (e:=3) (m:=1) (by':=8) rfl rfl rfl rfl rfl (by kernel_rfl) rfl) ?_
  refine .c (.xL 148 2 48 rfl rfl rfl rfl rfl (map_at hl)) ?_
  refine .c (.lN 2)<|.c .m ?_
  refine .c (.cP [.tmp 41,.tmp 42] rfl rfl rfl rfl (Fn.nilArg (pre:=[ad (rL l)]) (post:=[]) (sz:=1) (span_fn hR)) rfl) ?_
  refine .c .m<|.c .ex<|.c .ex<|.c .a<|.c .a<|.nn<|.seq<|.r<|.c .m<|.c .a<|.nn<|.block ?_
  refine .loopK (fun m σ=>(∃(v:Int) (s:Nat),m=(hiF ([]:List Int) l.2 -v).toNat∧(loF ([]:List Int) l.1≤v)∧(s≤1199)∧(iterW (stepW ms ([]:List Int)) (hiF ([]:List Int) l.2 -v).toNat v s []=R)∧σ=[eB 0 0 3,(.t 1,.v (.o vN)),eN 6 (hiF ([]:List Int) l.2),eN 7 v,(.b 0,.b 158 3 [[.d (dLs ns),.d (dI (s:Nat)),nl]]),eU 0])∨(∃(v:Int) (s:Nat) (o:Pts),m=(hiF ([]:List Int) l.2 -v).toNat∧(loF ([]:List Int) l.1≤v)∧(s≤1199)∧(o.length≤120)∧(o≠[])∧(iterW (stepW ms ([]:List Int)) (hiF ([]:List Int) l.2 -v).toNat v s o=R)∧σ=[eB 0 0 3,(.t 1,.v (.o vN)),eN 6 (hiF ([]:List Int) l.2),eN 7 v,(.b 1010,.b 43 1 (dR (o.map rIs))),eU 1010,(.b 0,.b 158 3 [[.d (dLs ns),.d (dI (s:Nat)),.own 1010 1 (o.length)]]),eU 0])) [(0,0)] (.inl ⟨loF ([]:List Int) l.1,s0,rfl,(by omega),hs0,(by rw[hRd];rfl),rfl⟩) ⟨kX,kd,kd,kd,kb 0 rfl (.r3 .dt .dt .dt),trivial⟩ ?_
  rintro m σ (⟨v,s,hm0,h1,hs,hE,rfl⟩|⟨v,s,o,hm0,h1,hs,ho,hno,hE,rfl⟩)
  ·skip
   refine .seq<|.r<|.c .m<|.c .m<|.c .ls<|.nn ?_
   refine .cD rfl (fun h49=>?_) (fun h49=>?_)
   ·skip
    refine .skip<|ks_n<|.seq<|.block<|.r<|.c .m<|.c .nB<|.c (.fB 1 0 false)<|.c (.b1 1)<|.c .pl<|.c .nB<|.c (.fB 1 0 false)<|.c (.sT 1 false)<|.nn<|.seq ?_
    by_cases hsp:(walkF ms (([]:List Int)++[v]) (s+1) []).2.2=[]
    ·skip
     have hzz:=hsp
     refine .keep [eB 0 0 3,(.t 1,.v (.o vN)),eN 6 (hiF ([]:List Int) l.2),eN 7 v,(.b 0,.b 158 3 [[.d (dLs ns),.d (dI ((s+1):Nat)),nl]]),eU 0] [(0,0)] ⟨kX,kd,kd,kd,kb 0 rfl (.r3 .dt .dt .dt),trivial⟩ ?_
     refine .region<|.c .m<|.c .nB<|.c (.fB 1 0 false)<|.c (.b1 1)<|.c .pl<|.c .gt<|.c .m ?_
     refine .cD 65 rfl (fun g65=>?_) (fun g65=>?_)
     ·skip
      exact absurd (by rw[←hE,iterW_no h49 (r:=(false,s+1,[])) (if_pos (by omega)) rfl]) hz
     ·skip
      have hstep:stepW ms ([]:List Int) v s []=walkF ms (([]:List Int)++[v]) (s+1) []:=if_neg (by omega)
      have ihv:=ih v (s+1) [] h1 h49 (by omega) (by simp)
      refine .c (.g .m)<|.c (.g .m) ?_
      refine .c (.gT rfl rfl rfl (.cP [.tmp 67] rfl rfl rfl rfl (clone_nilN) rfl)) ?_
      refine .c (.g .m)<|.c (.g (.li 3 0 0 [.tmp 69])) ?_
      refine .c (.gT rfl rfl rfl (St1.appND (e:=3) (sz:=0) (by':=8) rfl rfl rfl rfl rfl (by kernel_rfl) rfl rfl rfl (by simp))) ?_
      refine .c (.gT rfl rfl rfl (.cO [.tmp 66,.tmp 71] [(0,0)] rfl rfl rfl rfl (ihv.nn rfl hzz) rfl ⟨rfl,trivial⟩ (hbN_flat _ _) (hbN_flat _ _) (hbN_HB _ _) outS_one)) ?_
      refine .c (.g .nt)<|.c .pF<|.nn ?_
      refine ACode.condT rfl (fun h74=>?_) (fun h74=>?_)
      ·try simp only[zs]at h74
       exact absurd (by rw[←hE,iterW_no h49 hstep h74];exact hzz) hz
      ·try simp only[zs]at h74
       obtain⟨g,hg,hst⟩:=walkF_stp ms (([]:List Int)++[v]) (s+1) [] (by omega) (by simp)
       obtain⟨q1,q2⟩:=hst.ok.1 h74
       obtain⟨q3,q4⟩:=hst.st h74
       have q5:=congrArg List.length q4
       rw[List.length_append]at q5
       simp only[List.length_nil]at q5 q2
       refine .skip<|kb_n<|ks_n<|.region<|.c .m<|.c .pl<|.c .a<|.nil ?_
       refine kl_k [(0,0)] (.inl ⟨v+1,(walkF ms (([]:List Int)++[v]) (s+1) []).2.1,rfl,by omega,by omega,by rw[←hE,iterW_yes h49 hstep h74,hzz],rfl⟩) ⟨kX,kd,kd,kd,kb 0 rfl (.r3 .dt .dt .dt),trivial⟩
    ·skip
     have hzz:=hsp
     refine .keep [eB 0 0 3,(.t 1,.v (.o vN)),eN 6 (hiF ([]:List Int) l.2),eN 7 v,(.b 0,.b 158 3 [[.d (dLs ns),.d (dI ((s+1):Nat)),nl]]),eU 0] [(0,0)] ⟨kX,kd,kd,kd,kb 0 rfl (.r3 .dt .dt .dt),trivial⟩ ?_
     refine .region<|.c .m<|.c .nB<|.c (.fB 1 0 false)<|.c (.b1 1)<|.c .pl<|.c .gt<|.c .m ?_
     refine .cD 65 rfl (fun g65=>?_) (fun g65=>?_)
     ·skip
      exact absurd (by rw[←hE,iterW_no h49 (r:=(false,s+1,[])) (if_pos (by omega)) rfl]) hz
     ·skip
      have hstep:stepW ms ([]:List Int) v s []=walkF ms (([]:List Int)++[v]) (s+1) []:=if_neg (by omega)
      have ihv:=ih v (s+1) [] h1 h49 (by omega) (by simp)
      refine .c (.g .m)<|.c (.g .m) ?_
      refine .c (.gT rfl rfl rfl (.cP [.tmp 67] rfl rfl rfl rfl (clone_nilN) rfl)) ?_
      refine .c (.g .m)<|.c (.g (.li 3 0 0 [.tmp 69])) ?_
      refine .c (.gT rfl rfl rfl (St1.appND (e:=3) (sz:=0) (by':=8) rfl rfl rfl rfl rfl (by kernel_rfl) rfl rfl rfl (by simp))) ?_
      refine .c (.gT rfl rfl rfl (.cO [.tmp 66,.tmp 71] [(0,0),(1000,1072)] rfl rfl rfl rfl (ihv.no rfl hzz) rfl ⟨rfl,trivial⟩ (hbN_flat _ _) (hbO_flat3 _ _ _) (hbO_HB _ _ _ _) outS_O)) ?_
      refine .c (.g .nt)<|.c .pF<|.nn ?_
      refine ACode.condT rfl (fun h74=>?_) (fun h74=>?_)
      ·try simp only[zs]at h74
       obtain rfl:R=walkF ms (([]:List Int)++[v]) (s+1) []:=by rw[←hE,iterW_no h49 hstep h74]
       refine .r<|.c .a<|.nn<|.ret<|kb_r<|ks_r<|kl_r<|kb_r<|ks_r ?_
       refine kf_wret [eT 4 (walkF ms (([]:List Int)++[v]) (s+1) []).1,(.b 0,.b 158 3 ([[.d (dLs ns),.d (dI ((walkF ms (([]:List Int)++[v]) (s+1) []).2.1:Nat)),.own 1000 1 ((walkF ms (([]:List Int)++[v]) (s+1) []).2.2).length]])),eU 0,(.b 1000,.b 43 1 (dR (((walkF ms (([]:List Int)++[v]) (s+1) []).2.2).map rIs))),eU 1000] (Wk.keep [(0,0),(1000,1072)] rfl rfl ⟨ks rfl (.dt (by first|rfl|exact congrArg (fun b=>V.o (bo1 b)) h74.symm)),kb 0 rfl (.cons (.cons .dt (.cons .dt (.cons .ow .nil))) .nil),kb 1072 rfl (.dt rfl),trivial⟩) rfl ?_ (two_box rfl rfl)
       rfl
      ·try simp only[zs]at h74
       obtain⟨g,hg,hst⟩:=walkF_stp ms (([]:List Int)++[v]) (s+1) [] (by omega) (by simp)
       obtain⟨q1,q2⟩:=hst.ok.1 h74
       obtain⟨q3,q4⟩:=hst.st h74
       have q5:=congrArg List.length q4
       rw[List.length_append]at q5
       simp only[List.length_nil]at q5 q2
       refine .skip<|kb_n<|ks_n<|.region<|.c .m<|.c .pl<|.c .a<|.nil ?_
       refine kl_k [(0,0),(1010,1072)] (.inr ⟨v+1,(walkF ms (([]:List Int)++[v]) (s+1) []).2.1,(walkF ms (([]:List Int)++[v]) (s+1) []).2.2,rfl,by omega,by omega,by omega,hzz,by rw[←hE,iterW_yes h49 hstep h74],rfl⟩) ⟨kX,kd,kd,kd,kb 1072 rfl (.dt rfl),kb 0 rfl (.r3 .dt .dt .ow),trivial⟩
   ·skip
    exact absurd (by rw[←hE,iterW_ge h49]) hz
  ·skip
   refine .seq<|.r<|.c .m<|.c .m<|.c .ls<|.nn ?_
   refine .cD rfl (fun h49=>?_) (fun h49=>?_)
   ·skip
    refine .skip<|ks_n<|.seq<|.block<|.r<|.c .m<|.c .nB<|.c (.fB 1 0 false)<|.c (.b1 1)<|.c .pl<|.c .nB<|.c (.fB 1 0 false)<|.c (.sT 1 false)<|.nn<|.seq ?_
    refine .keep [eB 0 0 3,(.t 1,.v (.o vN)),eN 6 (hiF ([]:List Int) l.2),eN 7 v,(.b 1690,.b 43 1 (dR (o.map rIs))),eU 1690,(.b 0,.b 158 3 [[.d (dLs ns),.d (dI ((s+1):Nat)),.own 1690 1 (o.length)]]),eU 0] [(0,0),(1690,1010)] ⟨kX,kd,kd,kd,kb 1010 rfl (.dt rfl),kb 0 rfl (.r3 .dt .dt .ow),trivial⟩ ?_
    refine .region<|.c .m<|.c .nB<|.c (.fB 1 0 false)<|.c (.b1 1)<|.c .pl<|.c .gt<|.c .m ?_
    refine .cD 65 rfl (fun g65=>?_) (fun g65=>?_)
    ·skip
     have hstep:stepW ms ([]:List Int) v s o=(false,s+1,o):=if_pos (by omega)
     obtain rfl:R=(false,s+1,o):=by rw[←hE,iterW_no h49 hstep rfl]
     refine .c .f<|.c .f<|.c .f<|.c .f<|.c .f<|.c .f<|.c .f<|.c .f<|.c .pT<|.nn ?_
     refine .k1 ?_
     refine .r<|.c .a<|.nn<|.ret<|kb_r<|ks_r<|kl_r<|kb_r<|ks_r ?_
     refine kf_wret [eT 4 ((false,s+1,o):Bool×Nat×Pts).1,(.b 0,.b 158 3 ([[.d (dLs ns),.d (dI (((false,s+1,o):Bool×Nat×Pts).2.1:Nat)),.own 1000 1 (((false,s+1,o):Bool×Nat×Pts).2.2).length]])),eU 0,(.b 1000,.b 43 1 (dR ((((false,s+1,o):Bool×Nat×Pts).2.2).map rIs))),eU 1000] (Wk.keep [(0,0),(1000,1690)] rfl rfl ⟨ks rfl (.dt (by first|rfl|exact congrArg (fun b=>V.o (bo1 b)) h74.symm)),kb 0 rfl (.cons (.cons .dt (.cons .dt (.cons .ow .nil))) .nil),kb 1690 rfl (.dt rfl),trivial⟩) rfl ?_ (two_box rfl rfl)
     rfl
    ·skip
     have hstep:stepW ms ([]:List Int) v s o=walkF ms (([]:List Int)++[v]) (s+1) o:=if_neg (by omega)
     have ihv:=ih v (s+1) o h1 h49 (by omega) (by omega)
     refine .c (.g .m)<|.c (.g .m) ?_
     refine .c (.gT rfl rfl rfl (.cP [.tmp 67] rfl rfl rfl rfl (clone_nilN) rfl)) ?_
     refine .c (.g .m)<|.c (.g (.li 3 0 0 [.tmp 69])) ?_
     refine .c (.gT rfl rfl rfl (St1.appND (e:=3) (sz:=0) (by':=8) rfl rfl rfl rfl rfl (by kernel_rfl) rfl rfl rfl (by simp))) ?_
     refine .c (.gT rfl rfl rfl (.cO [.tmp 66,.tmp 71] [(0,0),(1,1690),(1000,1072)] rfl rfl rfl rfl (ihv.oo hno) rfl (hbIn_O rfl rfl) (hbO_flat1 _ _ _) (hbO_flat3 _ _ _) (hbO_HB _ _ _ _) outS_O)) ?_
     refine .c (.g .nt)<|.c .pF<|.nn ?_
     refine ACode.condT rfl (fun h74=>?_) (fun h74=>?_)
     ·try simp only[zs]at h74
      obtain rfl:R=walkF ms (([]:List Int)++[v]) (s+1) o:=by rw[←hE,iterW_no h49 hstep h74]
      refine .r<|.c .a<|.nn<|.ret<|kb_r<|ks_r<|kl_r<|kb_r<|ks_r ?_
      refine kf_wret [eT 4 (walkF ms (([]:List Int)++[v]) (s+1) o).1,(.b 0,.b 158 3 ([[.d (dLs ns),.d (dI ((walkF ms (([]:List Int)++[v]) (s+1) o).2.1:Nat)),.own 1000 1 ((walkF ms (([]:List Int)++[v]) (s+1) o).2.2).length]])),eU 0,(.b 1000,.b 43 1 (dR (((walkF ms (([]:List Int)++[v]) (s+1) o).2.2).map rIs))),eU 1000] (Wk.keep [(0,0),(1000,1072)] rfl rfl ⟨ks rfl (.dt (by first|rfl|exact congrArg (fun b=>V.o (bo1 b)) h74.symm)),kb 0 rfl (.cons (.cons .dt (.cons .dt (.cons .ow .nil))) .nil),kb 1072 rfl (.dt rfl),trivial⟩) rfl ?_ (two_box rfl rfl)
      rfl
     ·try simp only[zs]at h74
      obtain⟨g,hg,hst⟩:=walkF_stp ms (([]:List Int)++[v]) (s+1) o (by omega) (by omega)
      obtain⟨q1,q2⟩:=hst.ok.1 h74
      obtain⟨q3,q4⟩:=hst.st h74
      have q5:=congrArg List.length q4
      rw[List.length_append]at q5
      skip
      refine .skip<|kb_n<|ks_n<|.region<|.c .m<|.c .pl<|.c .a<|.nil ?_
      refine kl_k [(0,0),(1010,1072)] (.inr ⟨v+1,(walkF ms (([]:List Int)++[v]) (s+1) o).2.1,(walkF ms (([]:List Int)++[v]) (s+1) o).2.2,rfl,by omega,by omega,by omega,by obtain⟨z,hz2⟩:=walkF_grow ms (([]:List Int)++[v]) (s+1) o;rw[hz2];exact fun e=>hno (List.append_eq_nil_iff.1 e).1,by rw[←hE,iterW_yes h49 hstep h74],rfl⟩) ⟨kX,kd,kd,kd,kb 1072 rfl (.dt rfl),kb 0 rfl (.r3 .dt .dt .ow),trivial⟩
   ·skip
    obtain rfl:R=(true,s,o):=by rw[←hE,iterW_ge h49]
    refine .exit<|ks_e<|kl_e<|kb_hit<|ks_n<|.r<|.c .a<|.nn<|.ret ?_
    refine kf_wret [eT 4 ((true,s,o):Bool×Nat×Pts).1,(.b 0,.b 158 3 ([[.d (dLs ns),.d (dI (((true,s,o):Bool×Nat×Pts).2.1:Nat)),.own 1000 1 (((true,s,o):Bool×Nat×Pts).2.2).length]])),eU 0,(.b 1000,.b 43 1 (dR ((((true,s,o):Bool×Nat×Pts).2.2).map rIs))),eU 1000] (Wk.keep [(0,0),(1000,1010)] rfl rfl ⟨ks rfl (.dt (by first|rfl|exact congrArg (fun b=>V.o (bo1 b)) h74.symm)),kb 0 rfl (.cons (.cons .dt (.cons .dt (.cons .ow .nil))) .nil),kb 1010 rfl (.dt rfl),trivial⟩) rfl ?_ (two_box rfl rfl)
    rfl
theorem npR_no {ns:List Lp} (h:okP ns=false):npR ns=[]:=if_neg (by rw[h];simp)
theorem np_no1 {ns:List Lp} (h:1200<workF ns [] 1200):okP ns=false:=by
  have h1:=workF_spec ns [] 1200 (by omega)
  have h2:¬nodesG ns []≤1200:=fun hc=>by rw[h1.1 (by omega)]at h;omega
  rw[okP,decide_eq_false h2,Bool.false_and,Bool.and_false]
theorem np_no2 {ns:List Lp} (h:120<(ptsF ns [] []).length):okP ns=false:=by
  have h1:=(ptsF_spec ns [] [] (by simp)).leq
  have h2:¬(ptsG ns []).length≤120:=fun hc=>by have:=h1.2 (by simpa using hc);omega
  rw[okP,decide_eq_false h2,Bool.and_false,Bool.and_false]
theorem np_yes {ns:List Lp} (hv:nsV ns=true) (hw:¬ 1200<workF ns [] 1200) (hp:¬ 120<(ptsF ns [] []).length):okP ns=true∧npR ns=ptsF ns [] []:=by
  have h1:=workF_spec ns [] 1200 (by omega)
  have h2:=ptsF_spec ns [] [] (by simp)
  have h3:(ptsG ns []).length≤120:=by have:=h2.leq.1 (by omega);simpa using this
  have h4:nodesG ns []≤1200:=by
    by_cases hc:nodesG ns []≤1200
    ·exact hc
    ·exact absurd (by rw[h1.2 (by omega)];omega) hw
  have h5:okP ns=true:=okP_iff.2 ⟨hv,h4,h3⟩
  exact⟨h5,by rw[npR,if_pos h5,h2.all (by simpa using h3)];simp⟩
theorem specNestPts_fn (ns:List Lp) (hs:smN ns):Fn Tryz.prog 93 [] [vD (dLs ns)] (.tup [vD (dPs (npR ns)),bo1 (okP ns)]) []:=by
 refine Fn.code0 Tryz.func93 rfl rfl rfl rfl ?_
 refine .r<|.c .a<|.c .a<|.nn<|.seq<|.r<|.c .m ?_
 refine .c (.cP [.tmp 5] rfl rfl rfl rfl (specNestV_fn ns hs) rfl) ?_
 refine .c .nt<|.c .m ?_
 refine AOps.cases 8 _ rfl (fun g8=>?_) (fun g8=>?_)
 ·try simp only[zs]at g8
  refine .c .f<|.c .f<|.c .f<|.c .pT<|.nn ?_
  refine .k1 ?_
  refine .seq ?_
  have hO:okP ns=false:=by first|(rw[okP,g8];rfl)|exact np_no1 h12
  have hN:=npR_no hO
  refine .region<|.c (St1.lit0 (k':=113) (e:=43) (sz:=1) (b:=true) rfl rfl rfl rfl (by kernel_rfl) rfl rfl) ?_
  refine .c .a<|.c .a<|.nn<|.ret<|ks_r ?_
  refine kf_wret [eD 2 (dPs (npR ns)),eT 3 (okP ns)] (Wk.keep [] rfl rfl ⟨ks rfl (.c (.fz rfl (by first|(rw[hN];done)|(rw[hN];rfl)) (by rw[hN];simp) (by first|(simp;done)|omega))),ks rfl (.dt (by rw[hO])),trivial⟩) rfl ?_ nobox
  rfl
 ·try simp only[zs]at g8
  refine .c (.g .m) ?_
  refine .c (.gT rfl rfl rfl (.cP [.tmp 9,.const (.slice none 0 0),.const (.int .i64 (1200))] rfl rfl rfl rfl (Fn.nilArg (pre:=[vD (dLs ns)]) (post:=[nat1 1200]) (sz:=1) (l2Work_fn g8 ns [] 1200 rfl (by simp) PB.nil (by omega) (by omega))) rfl)) ?_
  refine .c (.g .gt)<|.c .pF<|.nn ?_
  refine ACode.condT rfl (fun h12=>?_) (fun h12=>?_)
  ·try simp only[zs]at h12
   refine .seq ?_
   have hO:okP ns=false:=by first|(rw[okP,g8];rfl)|exact np_no1 h12
   have hN:=npR_no hO
   refine .region<|.c (St1.lit0 (k':=113) (e:=43) (sz:=1) (b:=true) rfl rfl rfl rfl (by kernel_rfl) rfl rfl) ?_
   refine .c .a<|.c .a<|.nn<|.ret<|ks_r ?_
   refine kf_wret [eD 2 (dPs (npR ns)),eT 3 (okP ns)] (Wk.keep [] rfl rfl ⟨ks rfl (.c (.fz rfl (by first|(rw[hN];done)|(rw[hN];rfl)) (by rw[hN];simp) (by first|(simp;done)|omega))),ks rfl (.dt (by rw[hO])),trivial⟩) rfl ?_ nobox
   rfl
  ·try simp only[zs]at h12
   refine .skip<|ks_n<|.r<|.c (St1.lit0 (k':=114) (e:=43) (sz:=1) (b:=true) rfl rfl rfl rfl (by kernel_rfl) rfl rfl) ?_
   refine .c .m ?_
   refine .c (.cO [.tmp 14,.tmp 15,.const (.slice none 0 0)] [(0,114),(1000,116)] rfl rfl rfl rfl (Fn.nilArg (pre:=[.c (.own 0 1 0),vD (dLs ns)]) (post:=[]) (sz:=1) (l2Points_fn g8 ns [] [] rfl (by simp) PB.nil (by simp))) rfl (hbIn_one rfl) (hbPt_flat _ _) (hbPt_flat _ _) (hbPt_HB _ _) outS_one) ?_
   refine .c .a<|.nn<|.seq<|.r<|.c .m<|.c (.lB 43 1 24)<|.c .gt<|.nn ?_
   refine .cD rfl (fun h19=>?_) (fun h19=>?_)
   ·skip
    refine .seq ?_
    have hO:okP ns=false:=np_no2 (by omega)
    have hN:=npR_no hO
    refine .region<|.c (St1.lit0 (k':=120) (e:=43) (sz:=1) (b:=true) rfl rfl rfl rfl (by kernel_rfl) rfl rfl) ?_
    refine .c .a<|.c .a<|.nn<|.ret<|ks_r ?_
    refine kf_wret [eD 2 (dPs (npR ns)),eT 3 (okP ns)] (Wk.keep [] rfl rfl ⟨ks rfl (.c (.fz rfl (by first|(rw[hN];done)|(rw[hN];rfl)) (by rw[hN];simp) (by first|(simp;done)|omega))),ks rfl (.dt (by rw[hO])),trivial⟩) rfl ?_ nobox
    rfl
   ·skip
    refine .skip<|ks_n<|.seq ?_
    obtain⟨hO,hN⟩:=np_yes g8 (by omega) (by omega)
    refine .region<|.c .m<|.c .a<|.c .a<|.nn<|.ret ?_
    refine kf_wret [eD 2 (dPs (npR ns)),eT 3 (okP ns)] (Wk.keep [] rfl rfl ⟨ks rfl (.c (.fz rfl (by first|(rw[hN];done)|(rw[hN];rfl)) (by rw[hN];simp) (by first|(simp;done)|omega))),ks rfl (.dt (by rw[hO])),trivial⟩) rfl ?_ nobox
    rfl
theorem walk_ok {ns:List Lp} (hv:nsV ns=true):∀(ms:List Lp) (p:List Int) (s:Nat) (o:Pts),ns.drop p.length=ms→p.length≤ns.length→PB p→0<p.length→s≤1199→o.length≤120→WOk ns ms p (dIs p) s o
  |[],p,s,o,hd,hle,hp,h0,hs,ho=>by
    have hl:p.length=ns.length:=by have:=congrArg List.length hd;rw[List.length_drop]at this;simp at this;omega
    have h4:=(nsV_at hv).1
    refine⟨fun e h=>absurd h (by simp[walkF]),fun e _=>?_,fun hne=>walk_leaf_oo hl h0 (by omega) ho⟩
    subst e
    exact walk_leaf_no hl h0 (by omega)
  |l::ms,p,s,o,hd,hle,hp,h0,hs,ho=>by
    obtain⟨hl,hd2⟩:=drop_tail hd
    have hlt:=(List.getElem?_eq_some_iff.1 hl).1
    have h4:=(nsV_at hv).1
    obtain⟨hR,hlo,hhi,h10⟩:=node_facts hv hp (by omega) hl
    have ih:∀v s o,loF p l.1≤v→v<hiF p l.2→s≤1199→o.length≤120→WOk ns ms (p++[v]) (dIs (p++[v])) s o:=fun v s o a b c d=>
      walk_ok hv ms (p++[v]) s o (by rw[snoc_len];exact hd2) (by rw[snoc_len];omega) (hp.snoc (by omega)) (by rw[snoc_len];omega) c d
    refine⟨fun e h=>?_,fun e h=>?_,fun hne=>walk_oo h4 hl hR (by omega) (by omega) h0 hs ho hne ih⟩
    ·subst e;exact walk_nn h4 hl hR (by omega) (by omega) h0 hs ih h
    ·subst e;exact walk_no h4 hl hR (by omega) (by omega) h0 hs ih h
theorem walk_root {ns:List Lp} (hv:nsV ns=true):((walkF ns [] 0 []).2.2=[]→Fn Tryz.prog 106 (hbN ns 0) [.c (.box 0 3 0 0),vN] (.o (bo1 (walkF ns [] 0 []).1)) (hbN ns (walkF ns [] 0 []).2.1))∧
    ((walkF ns [] 0 []).2.2≠[]→Fn Tryz.prog 106 (hbN ns 0) [.c (.box 0 3 0 0),vN] (.o (bo1 (walkF ns [] 0 []).1)) (hbO 1000 ns (walkF ns [] 0 []).2.1 (walkF ns [] 0 []).2.2)):=by
  cases ns with
  |nil=>exact⟨fun h=>absurd h (by simp[walkF]),fun _=>walk_leaf_noR rfl⟩
  |cons l ms=>
    have h4:=(nsV_at hv).1
    have hl:(l::ms)[([]:List Int).length]?=some l:=rfl
    obtain⟨hR,hlo,hhi,h10⟩:=node_facts hv PB.nil (by simp) hl
    have ih:∀v s o,loF [] l.1≤v→v<hiF [] l.2→s≤1199→o.length≤120→WOk (l::ms) ms ([]++[v]) (dIs ([]++[v])) s o:=fun v s o a b c d=>
      walk_ok hv ms ([]++[v]) s o rfl (by simp) (PB.nil.snoc (by simp at hlo hhi ⊢;omega)) (by simp) c d
    simp only[List.length_nil,Int.pow_zero,Int.mul_one]at hlo hhi
    exact⟨fun h=>walk_nnR h4 hl hR (by omega) (by omega) (by omega) ih h,fun h=>walk_noR h4 hl hR (by omega) (by omega) (by omega) ih h⟩
theorem np_walk {ns:List Lp} (hv:nsV ns=true):okP ns=(walkF ns [] 0 []).1∧((walkF ns [] 0 []).1=true→npR ns=(walkF ns [] 0 []).2.2∧npR ns=ptsG ns []∧(npR ns).length≤120):=by
  obtain⟨g,hg,h⟩:=walkF_stp ns [] 0 [] (by omega) (by simp)
  have hok:okP ns=(walkF ns [] 0 []).1:=by
    rw[Bool.eq_iff_iff,okP_iff,h.ok]
    simp only[hv,true_and,List.length_nil,Nat.zero_add]
    omega
  refine⟨hok,fun e=>?_⟩
  have h1:=(h.st e).2
  have h2:npR ns=ptsG ns []:=if_pos (by rw[hok];exact e)
  exact⟨by rw[h1,h2];simp,h2,by rw[h2];exact(okP_iff.1 (hok.trans e)).2.2⟩
theorem implNestPts_nn (ns:List Lp) (hs:smN ns) (hW:nsV ns=true→Fn Tryz.prog 106 (hbN ns 0) [.c (.box 0 3 0 0),vN] (.o (bo1 (walkF ns [] 0 []).1)) (hbN ns (walkF ns [] 0 []).2.1)) (hz:(walkF ns [] 0 []).2.2=[]):Fn Tryz.prog 60 [] [vD (dLs ns)] (.tup [vD (dPs (npR ns)),bo1 (okP ns)]) []:=by
 refine Fn.code0 Tryz.func60 rfl rfl rfl rfl ?_
 refine .r<|.c .a<|.c .a<|.nn<|.seq<|.r<|.c .m ?_
 refine .c (.cP [.tmp 5] rfl rfl rfl rfl (implNestV_fn ns hs) rfl) ?_
 refine .c .nt<|.nn ?_
 refine ACode.condT rfl (fun h7=>?_) (fun h7=>?_)
 ·try simp only[zs]at h7
  refine .seq ?_
  have hO:okP ns=false:=by rw[okP,h7];rfl
  have hN:=npR_no hO
  refine .region<|.c .a<|.c .a<|.nn<|.ret<|ks_r ?_
  refine kf_wret [eD 2 (dPs (npR ns)),eT 3 (okP ns)] (Wk.keep [] rfl rfl ⟨ks rfl (.c (Cto.nilE 1 (by rw[hN];rfl))),ks rfl (.dt (by rw[hO])),trivial⟩) rfl ?_ nobox
  rfl
 ·try simp only[zs]at h7
  refine .skip<|ks_n<|.r<|.c .m<|.c (.bu [(0,.tmp 8)] [(0,1),(1,1),(2,1)] [.slice none 0 0,.int .i64 0,.slice none 0 0]) ?_
  refine .c (St1.boxB (k':=110) rfl rfl rfl rfl rfl rfl rfl)<|.c .a<|.nn<|.seq<|.r<|.c .m ?_
  refine .c (.cO [.tmp 11,.const (.slice none 0 0)] [(0,110)] rfl rfl rfl rfl (hW h7) rfl ⟨rfl,trivial⟩ (hbN_flat _ _) (hbN_flat _ _) (hbN_HB _ _) outS_one) ?_
  refine .c .nt<|.nn ?_
  refine ACode.condT rfl (fun h13=>?_) (fun h13=>?_)
  ·try simp only[zs]at h13
   refine .seq ?_
   have hO:okP ns=false:=(np_walk h7).1.trans h13
   have hN:=npR_no hO
   refine .region<|.c .a<|.c .a<|.nn<|.ret<|ks_r ?_
   refine kf_wret [eD 2 (dPs (npR ns)),eT 3 (okP ns)] (Wk.keep [] rfl rfl ⟨ks rfl (.c (Cto.nilE 1 (by rw[hN];rfl))),ks rfl (.dt (by rw[hO])),trivial⟩) rfl ?_ nobox
   rfl
  ·try simp only[zs]at h13
   refine .skip<|ks_n<|.seq ?_
   have hO:okP ns=true:=(np_walk h7).1.trans h13
   obtain⟨hN,_,hN3⟩:=(np_walk h7).2 h13
   rw[hz]at hN
   refine .region<|.c .m<|.c .nB<|.c (.fB 2 0 false)<|.c (.b1 1)<|.c .a<|.c .a<|.nn<|.ret ?_
   refine kf_wret [eD 2 (dPs (npR ns)),eT 3 (okP ns)] (Wk.keep [] rfl rfl ⟨ks rfl (.c (Cto.nilE 1 (by rw[hN];rfl))),ks rfl (.dt (by rw[hO])),trivial⟩) rfl ?_ nobox
   rfl
theorem implNestPts_no (ns:List Lp) (hs:smN ns) (hW:nsV ns=true→Fn Tryz.prog 106 (hbN ns 0) [.c (.box 0 3 0 0),vN] (.o (bo1 (walkF ns [] 0 []).1)) (hbO 1000 ns (walkF ns [] 0 []).2.1 (walkF ns [] 0 []).2.2)):Fn Tryz.prog 60 [] [vD (dLs ns)] (.tup [vD (dPs (npR ns)),bo1 (okP ns)]) []:=by
 refine Fn.code0 Tryz.func60 rfl rfl rfl rfl ?_
 refine .r<|.c .a<|.c .a<|.nn<|.seq<|.r<|.c .m ?_
 refine .c (.cP [.tmp 5] rfl rfl rfl rfl (implNestV_fn ns hs) rfl) ?_
 refine .c .nt<|.nn ?_
 refine ACode.condT rfl (fun h7=>?_) (fun h7=>?_)
 ·try simp only[zs]at h7
  refine .seq ?_
  have hO:okP ns=false:=by rw[okP,h7];rfl
  have hN:=npR_no hO
  refine .region<|.c .a<|.c .a<|.nn<|.ret<|ks_r ?_
  refine kf_wret [eD 2 (dPs (npR ns)),eT 3 (okP ns)] (Wk.keep [] rfl rfl ⟨ks rfl (.c (Cto.nilE 1 (by rw[hN];rfl))),ks rfl (.dt (by rw[hO])),trivial⟩) rfl ?_ nobox
  rfl
 ·try simp only[zs]at h7
  refine .skip<|ks_n<|.r<|.c .m<|.c (.bu [(0,.tmp 8)] [(0,1),(1,1),(2,1)] [.slice none 0 0,.int .i64 0,.slice none 0 0]) ?_
  refine .c (St1.boxB (k':=110) rfl rfl rfl rfl rfl rfl rfl)<|.c .a<|.nn<|.seq<|.r<|.c .m ?_
  refine .c (.cO [.tmp 11,.const (.slice none 0 0)] [(0,110),(1000,112)] rfl rfl rfl rfl (hW h7) rfl ⟨rfl,trivial⟩ (hbN_flat _ _) (hbO_flat3 _ _ _) (hbO_HB _ _ _ _) outS_O) ?_
  refine .c .nt<|.nn ?_
  refine ACode.condT rfl (fun h13=>?_) (fun h13=>?_)
  ·try simp only[zs]at h13
   refine .seq ?_
   have hO:okP ns=false:=(np_walk h7).1.trans h13
   have hN:=npR_no hO
   refine .region<|.c .a<|.c .a<|.nn<|.ret<|ks_r ?_
   refine kf_wret [eD 2 (dPs (npR ns)),eT 3 (okP ns)] (Wk.keep [] rfl rfl ⟨ks rfl (.c (Cto.nilE 1 (by rw[hN];rfl))),ks rfl (.dt (by rw[hO])),trivial⟩) rfl ?_ nobox
   rfl
  ·try simp only[zs]at h13
   refine .skip<|ks_n<|.seq ?_
   have hO:okP ns=true:=(np_walk h7).1.trans h13
   obtain⟨hN,_,hN3⟩:=(np_walk h7).2 h13
   have hN4:(walkF ns [] 0 []).2.2.length≤120:=by rw[←hN];exact hN3
   refine .region<|.c .m<|.c .nB<|.c (.fB 2 0 false)<|.c (.b1 1)<|.c .a<|.c .a<|.nn<|.ret ?_
   refine kf_wret [eD 2 (dPs (npR ns)),eT 3 (okP ns)] (Wk.keep [] rfl rfl ⟨ks rfl (.c (.fz rfl (by rw[hN]) (by rw[hN];simp) (by omega))),ks rfl (.dt (by rw[hO])),trivial⟩) rfl ?_ nobox
   rfl
theorem implNestPts_fn (ns:List Lp) (hs:smN ns):Fn Tryz.prog 60 [] [vD (dLs ns)] (.tup [vD (dPs (npR ns)),bo1 (okP ns)]) []:=by
  by_cases h:(walkF ns [] 0 []).2.2=[]
  ·exact implNestPts_nn ns hs (fun hv=>(walk_root hv).1 h) h
  ·exact implNestPts_no ns hs (fun hv=>(walk_root hv).2 h)
theorem okN.mono {k m:Nat} {ns:List Lp} (h:okN k ns) (hm:k≤m):okN m ns:=⟨Nat.le_trans h.1 hm,fun l hl=>(h.2 l hl).mono hm⟩
theorem npR_len (ns:List Lp):(npR ns).length≤120:=by
  rw[npR]
  split
  ·rename_i h;exact(okP_iff.1 h).2.2
  ·simp
theorem npR_mem {ns:List Lp} {x:List Int} (h:x∈npR ns):okP ns=true∧x∈ptsG ns []∧x.length=ns.length:=by
  rw[npR]at h
  split at h
  ·rename_i h1;exact⟨h1,h,(mem_pts.1 h).1⟩
  ·cases h
abbrev Truth (P:Program) (f:FuncId) (vs:Array Value) (w:World):Prop:=Calls P f vs w fun e w'=>e= .returned (.bool true)∧Below w.heap.size w w'
section
variable {P : Program} {n : Nat} {ops : Array Oper} {o : Oper} {σ : St} {d : Nat}
theorem run_appE {t ty e:TypeId} {sz by':Nat} (ht:tyA P t=some (e,sz+1,by',sz+1)) (w:World) (ad:Option Addr) (c:Nat):(Builtin.append_ #[t,t] ty #[.slice none 0 0,.slice ad 0 c]).run P w= .ok (.slice none 0 0) w:=by
  obtain⟨hu,i,z,hi,hz,hs1,hs2,hs3⟩:=tyA_out ht
  cases ad with
  |none=>simp[Builtin.append_,run_underlying hu,sizeOf,typeInfo,hi,Builtin.lenOf,Builtin.firstCells]
  |some a=>
    have:=run_firstCells_some (P:=P) (w:=w) i.size 0 a 0 c [] (by simp) (fun j v h=>by simp at h)
    simp[Builtin.append_,run_underlying hu,sizeOf,typeInfo,hi,Builtin.lenOf,this]
theorem St1.appNE {t e:TypeId} {s x:Operand} {ts:Array TypeId} {sz by':Nat} (ho:o.op= .call {callee:=.builtin .append,args:=#[s,x],argTypes:=ts}) (hg:o.guard=none) (hd:o.dst=some d) (hn:Nat.blt d n=true) (hts:ts=#[t,t])
    (ht:tyA P t=some (e,sz+1,by',sz+1)) (hs':ev σ s=some (.o (.c (.d (.val (.slice none 0 0)))))) (hx:ev σ x=some (.o (.c (.d (.list (sz+1) []))))):
    St1 P n ops o σ (rd s++rd x) [.t d] ((.t d,.v (.o (.c (.d (.val (.slice none 0 0))))))::σ):=
  St1.value hg hd hn fun E bx τ a w hR hs=>by
    subst hts
    obtain⟨ad,c,e1,q1,q2,q3,q4⟩:=(ev_list hx (rd_r hR) hs).slice
    refine⟨⟨.slice none 0 0,exec_app ho w w _ ?_,.val _ rfl⟩,fun k hk=>by cases hk⟩
    rw[ev_val hs' (rd_l hR) hs,e1]
    exact run_appE ht w ad c
inductive ZR:List Value→List D→Prop
  |nil:ZR [] []
  |val {z:Value} {zs:List Value} {ds:List D} (h:z.oneCell'=true) (hs:ZR zs ds):ZR (z::zs) (.val z::ds)
  |list {zs:List Value} {ds:List D} (sz:Nat) (hs:ZR zs ds):ZR (.slice none 0 0::zs) (.list sz []::ds)
theorem dr_empty {B:Nat→Prop} {w:World} (sz:Nat):Dr B w (.list sz []) (.slice none 0 0):=
  Dr.list sz [] none 0 0 0 0 (fun _ _=>undef) rfl (Nat.le_refl _) (by omega) (fun _=>rfl) (fun h=>by simp at h) (fun i r h=>by simp at h) (fun i r j x h=>by simp at h) (fun i r j x h=>by simp at h)
theorem ZR.cells {bx:Nat→Nat×Nat} {al B:Nat→Prop} {w:World} {zs:List Value} {ds:List D} (h:ZR zs ds):zs.length=ds.length∧∀(i:Nat) c u,(ds.map C.d)[i]?=some c→zs[i]?=some u→Cr bx al B w c u:=by
  induction h with
  |nil=>exact⟨rfl,fun i c u h=>by simp at h⟩
  |val h hs ih=>
    refine⟨by simp[ih.1],fun i c u hc hu=>?_⟩
    cases i with
    |zero=>cases hc;cases hu;exact Dr.val _ h
    |succ i=>exact ih.2 i c u hc hu
  |list sz hs ih=>
    refine⟨by simp[ih.1],fun i c u hc hu=>?_⟩
    cases i with
    |zero=>cases hc;cases hu;exact dr_empty sz
    |succ i=>exact ih.2 i c u hc hu
end
inductive DrN (lo:Nat) (w:World):D→Value→Prop
  |val (v:Value) (h:nsl v=true):DrN lo w (.val v) v
  | list (sz : Nat) (rows : List (List D)) (a : Option Addr) (n cap b off : Nat) (f : Nat → Nat → Value) (hn : n = rows.length) (h1 : n ≤ cap) (h2 : n ≤ 17592186044416) (h3 : a = none → cap = 0)
      (h4:0<n→a=some ⟨b,off,none⟩) (h5:∀(i:Nat) r,rows[i]?=some r→r.length=sz)
      (h6:∀(i:Nat) r (j:Nat) x,rows[i]?=some r→r[j]?=some x→lo≤b∧w.cell? ⟨b,off+(i *sz+j),none⟩=some (f i j)∧w.frozen? ⟨b,off+(i *sz+j),none⟩=false)
      (h7:∀(i:Nat) r (j:Nat) x,rows[i]?=some r→r[j]?=some x→DrN lo w x (f i j)):DrN lo w (.list sz rows) (.slice a n cap)
section
variable {lo lo' : Nat} {w w' : World} {x : D} {v : Value}
theorem DrN.dr (h:DrN lo w x v):Dr (fun b=>lo≤b) w x v:=by
  induction h with
  |val v h=>exact .val v (nsl_one h)
  |list sz rows a n cap b off f hn h1 h2 h3 h4 h5 h6 h7 ih=>
    exact .list sz rows a n cap b off f hn h1 h2 h3 h4 h5 (fun i r j x hr hx=>⟨(h6 i r j x hr hx).1,(h6 i r j x hr hx).2.1⟩) ih
theorem DrN.one (h:DrN lo w x v):v.oneCell'=true:=h.dr.one
theorem DrN.frame (hs:Same (fun b=>lo≤b) w w') (h:DrN lo w x v):DrN lo w' x v:=by
  induction h with
  |val v h=>exact .val v h
  |list sz rows a n cap b off f hn h1 h2 h3 h4 h5 h6 h7 ih=>
    refine .list sz rows a n cap b off f hn h1 h2 h3 h4 h5 (fun i r j x hr hx=>?_) ih
    obtain⟨g1,g2,g3⟩:=h6 i r j x hr hx
    exact⟨g1,hs.cell g1 g2,(World.frozen?_of_block (a:=⟨b,off+(i *sz+j),none⟩) (hs b g1 (World.block_lt_of_cell? _ _ g2))).trans g3⟩
theorem DrN.mono (hl:lo'≤lo) (h:DrN lo w x v):DrN lo' w x v:=by
  induction h with
  |val v h=>exact .val v h
  |list sz rows a n cap b off f hn h1 h2 h3 h4 h5 h6 h7 ih=>
    exact .list sz rows a n cap b off f hn h1 h2 h3 h4 h5 (fun i r j x hr hx=>⟨Nat.le_trans hl (h6 i r j x hr hx).1,(h6 i r j x hr hx).2⟩) ih
theorem DrN.fwd (h:DrN lo w x v) (hb:Below w.heap.size w w'):DrN lo w' x v:=h.frame (below_sameAll hb _)
end
def DrNs (lo:Nat) (w:World) (ds:List D) (vs:List Value):Prop:=vs.length=ds.length∧∀(i:Nat) d u,ds[i]?=some d→vs[i]?=some u→DrN lo w d u
def Grid (w:World) (g:Nat) (e:TypeId) (sz n k:Nat) (rows:List (List D)):Prop:=
  ∃cur:Array Value,w.heap[g]?=some (.cells cur e (0,0))∧cur.size=n *sz∧∀(i:Nat) r (j:Nat) x,i<k→rows[i]?=some r→r[j]?=some x→∃u,cur[i *sz+j]?=some u∧DrN (g+1) w x u
section
variable {w w' : World} {g : Nat} {e : TypeId} {sz n k : Nat} {rows : List (List D)}
theorem Grid.lt (h:Grid w g e sz n k rows):g<w.heap.size:=by
  obtain⟨cur,h1,_⟩:=h
  exact(Array.getElem?_eq_some_iff.1 h1).1
theorem Grid.new (w:World) (e:TypeId) (sz n:Nat) (zs:Array Value) (rows:List (List D)):Grid (w.alloc (.cells (madeCells zs (n *sz)) e)) w.heap.size e sz n 0 rows:=
  ⟨_,heap_alloc_new w _,size_madeCells _ _,fun i r j x hi=>absurd hi (by omega)⟩
theorem Grid.fwd (h:Grid w g e sz n k rows) (hb:Below w.heap.size w w'):Grid w' g e sz n k rows:=by
  have hl:=h.lt
  obtain⟨cur,h1,h2,h3⟩:=h
  refine⟨cur,(hb.block g hl).trans h1,h2,fun i r j x hi hr hx=>?_⟩
  obtain⟨u,h4,h5⟩:=h3 i r j x hi hr hx
  exact⟨u,h4,h5.fwd hb⟩
theorem Grid.cell (h:Grid w g e sz n k rows) {o:Nat} (ho:o<n *sz):∃u,w.cell? ⟨g,o,none⟩=some u:=by
  obtain⟨cur,h1,h2,_⟩:=h
  exact⟨cur[o]'(by omega),by rw[cell_of_row w _ _ _ _ _ h1];exact Array.getElem?_eq_getElem _⟩
theorem Grid.frozen (h:Grid w g e sz n k rows) (o:Nat):w.frozen? ⟨g,o,none⟩=false:=by
  obtain⟨cur,h1,_,_⟩:=h
  simp[World.frozen?,h1]
theorem Grid.done (h:Grid w g e sz n rows.length rows) (hn:n=rows.length) (hb:n≤17592186044416) (hl:∀r∈rows,r.length=sz):DrN g w (.list sz rows) (.slice (some ⟨g,0,none⟩) n n):=by
  have hfr:=h.frozen
  obtain⟨cur,h1,h2,h3⟩:=h
  have hlt:∀ {i:Nat} {r},rows[i]?=some r→i<rows.length:=fun h=>(List.getElem?_eq_some_iff.1 h).1
  refine .list sz rows _ _ _ g 0 (fun i j=>cur.getD (i *sz+j) undef) hn (Nat.le_refl _) hb (fun h=>by cases h) (fun _=>rfl) (fun i r hr=>hl r (List.mem_of_getElem? hr)) (fun i r j x hr hx=>?_) (fun i r j x hr hx=>?_)
  · obtain⟨u,h4,h5⟩:=h3 i r j x (hlt hr) hr hx
    refine⟨Nat.le_refl _,?_,hfr _⟩
    rw[cell_of_row w _ _ _ _ _ h1,Nat.zero_add,h4,Array.getD_eq_getD_getElem?,h4];rfl
  · obtain⟨u,h4,h5⟩:=h3 i r j x (hlt hr) hr hx
    rw[Array.getD_eq_getD_getElem?,h4]
    exact h5.mono (Nat.le_succ _)
end
inductive DrK (S:Nat→Prop) (w:World):D→Value→Prop
  |val (v u:Value) (h:nsl u=true):DrK S w (.val v) u
  | list (sz : Nat) (rows : List (List D)) (a : Option Addr) (n cap b off : Nat) (f : Nat → Nat → Value) (hn : n = rows.length) (h1 : n ≤ cap) (h2 : n ≤ 17592186044416)
      (h4:0<n→a=some ⟨b,off,none⟩) (h5:∀(i:Nat) r,rows[i]?=some r→r.length=sz)
      (h6:∀(i:Nat) r (j:Nat) x,rows[i]?=some r→r[j]?=some x→S b∧w.cell? ⟨b,off+(i *sz+j),none⟩=some (f i j)∧w.frozen? ⟨b,off+(i *sz+j),none⟩=false)
      (h7:∀(i:Nat) r (j:Nat) x,rows[i]?=some r→r[j]?=some x→DrK S w x (f i j)):DrK S w (.list sz rows) (.slice a n cap)
structure Marked (S:Nat→Prop) (w w':World):Prop where
  os:w'.os=w.os
  tape:w'.tape=w.tape
  output:w'.output=w.output
  size:w.heap.size≤w'.heap.size
  old:∀b,b<w.heap.size→¬S b→w'.heap[b]?=w.heap[b]?
  cell:∀b o u,w.cell? ⟨b,o,none⟩=some u→∃u',w'.cell? ⟨b,o,none⟩=some u'∧(u'=u∨(nsl u=true∧nsl u'=true))
  frz:∀b o,b<w.heap.size→w'.frozen? ⟨b,o,none⟩=w.frozen? ⟨b,o,none⟩
section
variable {S S' : Nat → Prop} {w w' w'' : World} {x : D} {v : Value}
theorem DrN.k {lo:Nat} (h:DrN lo w x v) (hS:∀b,lo≤b→b<w.heap.size→S b):DrK S w x v:=by
  induction h with
  |val v h=>exact .val v v h
  |list sz rows a n cap b off f hn h1 h2 h3 h4 h5 h6 h7 ih=>
    exact .list sz rows a n cap b off f hn h1 h2 h4 h5 (fun i r j x hr hx=>⟨hS b (h6 i r j x hr hx).1 (World.block_lt_of_cell? _ _ (h6 i r j x hr hx).2.1),(h6 i r j x hr hx).2⟩) ih
theorem DrK.mark (hm:Marked S' w w') (h:DrK S w x v):DrK S w' x v:=by
  induction h with
  |val v u h=>exact .val v u h
  |list sz rows a n cap b off f hn h1 h2 h4 h5 h6 h7 ih=>
    refine .list sz rows a n cap b off (fun i j=>(w'.cell? ⟨b,off+(i *sz+j),none⟩).getD undef) hn h1 h2 h4 h5 (fun i r j x hr hx=>?_) (fun i r j x hr hx=>?_)
    · obtain⟨g1,g2,g3⟩:=h6 i r j x hr hx
      obtain⟨u,g4,_⟩:=hm.cell _ _ _ g2
      exact⟨g1,by rw[g4];rfl,(hm.frz _ _ (World.block_lt_of_cell? _ _ g2)).trans g3⟩
    · obtain⟨g1,g2,g3⟩:=h6 i r j x hr hx
      obtain⟨u,g4,g5⟩:=hm.cell _ _ _ g2
      rw[g4,Option.getD_some]
      rcases g5 with rfl|⟨g5,g6⟩
      ·exact ih i r j x hr hx
      · have h8:=ih i r j x hr hx
        generalize f i j=u0 at h8 g5
        cases h8 with
        |val v u h=>exact .val v _ g6
        |list=>cases g5
theorem Marked.refl (S:Nat→Prop) (w:World):Marked S w w:=⟨rfl,rfl,rfl,Nat.le_refl _,fun _ _ _=>rfl,fun _ _ u h=>⟨u,h,.inl rfl⟩,fun _ _ _=>rfl⟩
theorem Marked.trans (h:Marked S w w') (h':Marked S w' w''):Marked S w w'':=by
  refine⟨h'.os.trans h.os,h'.tape.trans h.tape,h'.output.trans h.output,Nat.le_trans h.size h'.size,fun b hb hS=>(h'.old b (Nat.lt_of_lt_of_le hb h.size) hS).trans (h.old b hb hS),fun b o u hu=>?_,fun b o hb=>(h'.frz b o (Nat.lt_of_lt_of_le hb h.size)).trans (h.frz b o hb)⟩
  obtain⟨u1,h1,h2⟩:=h.cell b o u hu
  obtain⟨u2,h3,h4⟩:=h'.cell b o u1 h1
  refine⟨u2,h3,?_⟩
  rcases h2 with rfl|⟨h2,h5⟩
  ·exact h4
  · rcases h4 with rfl|⟨h4,h6⟩
    ·exact .inr ⟨h2,h5⟩
    ·exact .inr ⟨h2,h6⟩
theorem marked_of (h:Below w.heap.size w w') (S:Nat→Prop):Marked S w w':=
  ⟨h.os,h.tape,h.output,h.size,fun b hb _=>h.block b hb,fun b o u hu=>⟨u,(h.cell (p:=⟨b,o,none⟩) (World.block_lt_of_cell? _ _ hu)).trans hu,.inl rfl⟩,fun b o hb=>World.frozen?_of_block (a:=⟨b,o,none⟩) (h.block b hb)⟩
theorem Marked.set {b o:Nat} {u t:Value} (hS:S b) (hc:w.cell? ⟨b,o,none⟩=some u) (hu:nsl u=true) (ht:nsl t=true):Marked S w (w.setCell ⟨b,o,none⟩ t):=by
  refine⟨rfl,rfl,rfl,by simp[World.setCell],fun c hc hn=>Below.heap_setCell _ _ _ _ (fun e=>hn (by rw[e];exact hS)),fun c p v hv=>?_,fun _ _ _=>World.frozen?_setCell _ _ _ _⟩
  by_cases e:(⟨b,o,none⟩:Addr)=⟨c,p,none⟩
  · cases e
    rw[hc]at hv;cases hv
    exact⟨t,World.cell?_setCell_same _ _ _ hc,.inr ⟨hu,ht⟩⟩
  ·exact⟨v,by rw[World.cell?_setCell_other _ _ _ _ e];exact hv,.inl rfl⟩
theorem Marked.same {B:Nat→Prop} (h:Marked S w w') (hB:∀b,B b→b<w.heap.size→¬S b):Same B w w':=fun b hb hl=>h.old b hl (hB b hb hl)
theorem DrK.slice {sz:Nat} {rows:List (List D)} (h:DrK S w (.list sz rows) v):∃ad cap,v= .slice ad rows.length cap∧rows.length≤17592186044416:=by
  cases h with
  |list _ _ a n cap b off f hn h1 h2 h4 h5 h6 h7=>subst hn;exact⟨a,cap,rfl,h2⟩
theorem DrK.at {sz:Nat} {rows:List (List D)} {ad:Option Addr} {n cap:Nat} (h:DrK S w (.list sz rows) (.slice ad n cap)) {i:Nat} {r:List D} (hi:rows[i]?=some r) (hr:0<r.length):
    ∃b off,ad=some ⟨b,off,none⟩∧S b∧r.length=sz∧∀(j:Nat) x,r[j]?=some x→∃u,w.cell? ⟨b,off+(i *sz+j),none⟩=some u∧w.frozen? ⟨b,off+(i *sz+j),none⟩=false∧DrK S w x u:=by
  cases h with
  |list _ _ a n cap b off f hn h1 h2 h4 h5 h6 h7=>
    have hl:=(List.getElem?_eq_some_iff.1 hi).1
    exact⟨b,off,h4 (by omega),(h6 i r 0 _ hi (List.getElem?_eq_getElem hr)).1,h5 i r hi,fun j x hx=>⟨f i j,(h6 i r j x hi hx).2.1,(h6 i r j x hi hx).2.2,h7 i r j x hi hx⟩⟩
theorem DrK.row {sz n cap b off:Nat} {rows:List (List D)} (h:DrK S w (.list sz rows) (.slice (some ⟨b,off,none⟩) n cap)) {i:Nat} {r:List D} (hi:rows[i]?=some r) (j:Nat) {x:D} (hx:r[j]?=some x) {o:Nat} (ho:off+(i *sz+j)=o):
    ∃u,w.cell? ⟨b,o,none⟩=some u∧w.frozen? ⟨b,o,none⟩=false∧DrK S w x u:=by
  obtain⟨b',off',e,_,_,h1⟩:=h.at hi (by have:=(List.getElem?_eq_some_iff.1 hx).1;omega)
  cases e
  obtain⟨u,h2⟩:=h1 j x hx
  rw[ho]at h2
  exact⟨u,h2⟩
theorem DrK.leaf {u v:Value} (h:DrK S w (.val u) v):nsl v=true:=by cases h;assumption
end
mutual
def wgt:D→Nat
  | .val _=>1
  | .list _ rows=>wgtR rows
  | .tree _ _=>0
def wgtR:List (List D)→Nat
  |[]=>0
  |r::rs=>wgtL r+wgtR rs
def wgtL:List D→Nat
  |[]=>0
  |d::ds=>wgt d+wgtL ds
end
theorem wgtR_append (a b:List (List D)):wgtR (a++b)=wgtR a+wgtR b:=by
  induction a with
  |nil=>simp[wgtR]
  |cons r a ih=>rw[List.cons_append,wgtR,wgtR,ih];omega
theorem wgtR_take {rows:List (List D)} {i:Nat} {r:List D} (h:rows[i]?=some r):wgtR (rows.take (i+1))=wgtR (rows.take i)+wgtL r:=by
  obtain⟨hl,h⟩:=List.getElem?_eq_some_iff.1 h
  rw[List.take_succ_eq_append_getElem hl,wgtR_append,h];simp[wgtR]
theorem wgtR_le (rows:List (List D)) (i:Nat):wgtR (rows.take i)≤wgtR rows:=by
  have:=wgtR_append (rows.take i) (rows.drop i)
  rw[List.take_append_drop]at this
  omega
def MarkN (P:Program) (f:FuncId) (x:D) (c:Nat):Prop:=∀(S:Nat→Prop) (w:World) (v:Value) (k:Int),DrK S w x v→0≤k→k+c≤4611686018427387904→
  Calls P f #[v,.int .i64 k] w fun e w'=>e= .returned (.int .i64 (k+c))∧Marked S w w'
def MarkC (P:Program) (f:FuncId) (x:D):Prop:=MarkN P f x (wgt x)
def CopyC (P:Program) (f:FuncId) (x:D):Prop:=∀(B:Nat→Prop) (w:World) (v:Value),Dr B w x v→
  Calls P f #[v] w fun e w'=>∃v',e= .returned v'∧Below w.heap.size w w'∧DrN w.heap.size w' x v'
def CopyS (P:Program) (f:FuncId) (ds:List D):Prop:=∀(B:Nat→Prop) (w:World) (vs:List Value),vs.length=ds.length→(∀(i:Nat) d u,ds[i]?=some d→vs[i]?=some u→Dr B w d u)→
  Calls P f #[.agg vs.toArray] w fun e w'=>∃vs':List Value,e= .returned (.agg vs'.toArray)∧Below w.heap.size w w'∧DrNs w.heap.size w' ds vs'
theorem wrap64_inM {n:Int} (h: -9223372036854775808≤n) (h2:n≤9223372036854775807):wrap64 n=n:=by unfold wrap64;omega
structure TextOk (j:Int) (t:ByteArray):Prop where
  size:t.size≤64
  le:j≤4611686018427387904
  pow:0<j→j.toNat *2^t.size≤4611686018427387904
theorem TextOk.start {k:Int} (h0:0≤k) (h1:k≤4611686018427387904):TextOk k ⟨#[]⟩:=⟨by decide,h1,fun _=>by
  show k.toNat *2^0≤_
  omega⟩
theorem TextOk.next {j:Int} {t t':ByteArray} (h:TextOk j t) (hj:0<j) (ht:t'.size=t.size+1):TextOk (j / 10) t':=by
  have h1:=h.pow hj
  have h2:1 *2^t.size≤j.toNat *2^t.size:=Nat.mul_le_mul_right _ (by omega)
  have h3:t.size≤62:=by
    rcases Nat.lt_or_ge 62 t.size with h|h
    · have:=Nat.pow_le_pow_right (n:=2) (by omega) (show 63≤t.size from h)
      have e:(2:Nat)^63=9223372036854775808:=by decide
      omega
    ·exact h
  have h5:=h.le
  refine⟨by omega,by omega,fun _=>?_⟩
  rw[ht,Nat.pow_succ]
  have h4:(j / 10).toNat *2≤j.toNat:=by omega
  calc (j / 10).toNat *(2^t.size *2)=((j / 10).toNat *2) *2^t.size:=by rw[Nat.mul_comm (2^t.size) 2,Nat.mul_assoc]
    _≤j.toNat *2^t.size:=Nat.mul_le_mul_right _ h4
    _≤_:=h1
theorem markText_k (k:Int) (w:World) (h0:0≤k) (h1:k≤4611686018427387904):Calls Tryz.prog 71 #[.int .i64 k] w fun e w'=>∃s,e= .returned (.string s)∧Below w.heap.size w w':=by
  by_cases hk:k=0
  · subst hk
    go_enter Tryz.func71,Tryz.ntmps71
    go_wp2
    go_ret
    exact⟨_,rfl,Below.refl _ _⟩
  · have hk1:decide (k≤0)=false:=by simp;omega
    go_enter Tryz.func71,Tryz.ntmps71
    go_wp2
    go_loopw [0,3] (fun i s wr=>∃(j:Int) (t:ByteArray),0≤j∧i= .int .i64 j∧s= .string t∧Hid (TextOk j t)∧Below w.heap.size w wr) (fun i _ _=>(intOf i).toNat)
    case atStart=>exact⟨k,_,h0,rfl,rfl,hid (TextOk.start h0 h1),Below.refl _ _⟩
    case round=>
      obtain⟨j,t,hj,rfl,rfl,ht,hb⟩:=hrel
      have hsz:=ht.out.size
      by_cases hlt:0<j
      · have hd:decide (0<j)=true:=by simpa using hlt
        have hcv:(convert 168 9 (.slice (some ⟨wr.heap.size,0,none⟩) 1 1)).run Tryz.prog (wr.alloc (.cells #[.int .u8 (48+j % 10)] 5))= .ok (.string (strOfNums [48+j % 10])) (wr.alloc (.cells #[.int .u8 (48+j % 10)] 5)):=
          run_convert_bytes_arg _ 168 5 Tryz.underlying168 Tryz.underlying5 wr.heap.size 0 1 1 [48+j % 10] rfl (fun i hi=>by
            obtain rfl:i=0:=by omega
            exact cell_of_row _ _ 0 _ _ _ (heap_alloc_new wr _)) 9 Tryz.underlying9
        have hs3:(strOfNums [48+j % 10]).size=1:=rfl
        have hs2:(strOfNums [48+j % 10]++t).size=t.size+1:=by rw[ByteArray.size_append,hs3];omega
        have hq:wrap64 (j.tdiv 10)=j / 10:=by
          have:=ht.out.le
          rw[Int.tdiv_eq_ediv_of_nonneg hj,wrap64_inM (by omega) (by omega)]
        have Hn:=hid (ht.out.next hlt hs2)
        go_wp2
        rw[hq]
        exact⟨⟨j / 10,_,by omega,rfl,rfl,Hn,hb.alloc hb.size _⟩,by simp[intOf];omega⟩
      · have hd:decide (0<j)=false:=by simpa using hlt
        go_wp2
        go_ret
        exact⟨⟨_,rfl⟩,hb⟩
theorem wgtR_leafs {rows:List (List D)} (h:∀r∈rows,∃u,r=[.val u]):wgtR rows=rows.length:=by
  induction rows with
  |nil=>rfl
  |cons r rows ih=>
    obtain⟨u,rfl⟩:=h r (by simp)
    rw[wgtR,ih (fun r hr=>h r (by simp[hr]))]
    simp[wgtL,wgt];omega
theorem markIntS_k {rows:List (List D)} (h:∀r∈rows,∃u,r=[.val u]):MarkC Tryz.prog 72 (.list 1 rows):=by
  intro S w v k hx hk0 hk1
  obtain⟨ad,cap,rfl,hle⟩:=hx.slice
  obtain⟨n,hn⟩:∃n,n=rows.length:=⟨_,rfl⟩
  rw[←hn]at hx hle ⊢
  have Hn:=hid hn;clear hn
  rw[wgt]at hk1 ⊢
  have Hx:=hid hx;clear hx
  have Hk:=hid hk1;clear hk1
  go_enter Tryz.func72,Tryz.ntmps72
  go_wp2
  go_loopw [1,5] (fun q i wr=>∃(j:Nat) (K:Int),j≤n∧i= .int .i64 j∧q= .int .i64 K∧Hid (K=k+wgtR (rows.take j))∧Marked S w wr) (fun _ i _=>n -(intOf i).toNat)
  case atStart=>exact⟨0,k,Nat.zero_le _,rfl,rfl,hid (by simp[wgtR]),Marked.refl _ _⟩
  case round=>
    obtain⟨j,K,hj,rfl,rfl,HK,hm⟩:=hrel
    by_cases hlt:j<n
    · obtain⟨r,hr⟩:∃r,rows[j]?=some r:=⟨_,List.getElem?_eq_getElem (by rw[←Hn.out];exact hlt)⟩
      have hs:=wgtR_take hr
      obtain⟨u,rfl⟩:=h r (List.mem_of_getElem? hr)
      obtain⟨b,off,rfl,hS,_,hcell⟩:=(Hx.out.mark hm).at hr (by simp)
      obtain⟨u0,c0,f0,d0⟩:=hcell 0 _ rfl
      have d0:=d0.leaf
      have Hs:=hid hs;clear hs hr hcell
      simp only[Nat.mul_one,Nat.add_zero]at c0 f0
      have hb1:=Hk.out;have hb2:=HK.out
      have hK0:0≤K:=by omega
      have hK1:K+1≤4611686018427387904:=by have:=Hs.out;have:=wgtR_le rows (j+1);simp[wgtL,wgt]at *;omega
      clear hb1 hb2
      have m1:=hm.trans (Marked.set (t:=.int .i64 K) hS c0 d0 rfl)
      go_wp2
      exact⟨⟨j+1,K+1,by omega,rfl,rfl,hid (by rw[HK.out,Hs.out];simp[wgtL,wgt];omega),m1⟩,by simp[intOf];omega⟩
    · have:j=n:=by omega
      subst this
      go_wp2
      go_ret
      exact⟨ret_int (by rw[HK.out,Hn.out,List.take_length]),hm⟩
section
variable {B : Nat → Prop} {w w' : World} {x : D} {v : Value}
theorem Dr.ba {sz:Nat} {rows:List (List D)} {ad:Option Addr} {n cap:Nat} (h:Dr B w (.list sz rows) (.slice ad n cap)) {i:Nat} {r:List D} (hi:rows[i]?=some r):∃b off,ad=some ⟨b,off,none⟩:=by
  cases h with
  |list _ _ a n cap b off f hn h1 h2 h3 h4 h5 h6 h7=>
    have hl:=(List.getElem?_eq_some_iff.1 hi).1
    exact⟨b,off,h4 (by omega)⟩
theorem Dr.row {sz n cap b off:Nat} {rows:List (List D)} (h:Dr B w (.list sz rows) (.slice (some ⟨b,off,none⟩) n cap)) {i:Nat} {r:List D} (hi:rows[i]?=some r) (j:Nat) {x:D} (hx:r[j]?=some x) {o:Nat} (ho:off+(i *sz+j)=o):
    ∃u,w.cell? ⟨b,o,none⟩=some u∧Dr B w x u:=by
  cases h with
  |list _ _ a n cap b' off' f hn h1 h2 h3 h4 h5 h6 h7=>
    have hl:=(List.getElem?_eq_some_iff.1 hi).1
    cases h4 (by omega)
    exact⟨f i j,by rw[←ho];exact(h6 i r j x hi hx).2,h7 i r j x hi hx⟩
def setRow (w:World) (g o:Nat):List Value→World
  |[]=>w
  |v::vs=>setRow (w.setCell ⟨g,o,none⟩ v) g (o+1) vs
theorem setRow_same {g:Nat}:∀(vs:List Value) (o:Nat) (w:World) (cur:Array Value) (e:TypeId),w.heap[g]?=some (.cells cur e (0,0))→o+vs.length≤cur.size→
    ∃cur',(setRow w g o vs).heap[g]?=some (.cells cur' e (0,0))∧cur'.size=cur.size∧(∀i,i<o∨o+vs.length≤i→cur'[i]?=cur[i]?)∧∀j v,vs[j]?=some v→cur'[o+j]?=some v
  |[],o,w,cur,e,h,_=>⟨cur,h,rfl,fun i _=>rfl,fun j v hv=>by cases hv⟩
  |v::vs,o,w,cur,e,h,hl=>by
    rw[List.length_cons]at hl
    obtain⟨cur',h1,h2,h3,h4⟩:=setRow_same vs (o+1) (w.setCell ⟨g,o,none⟩ v) (cur.setIfInBounds o v) e (heap_setCell_same w g o cur e _ h) (by simp;omega)
    refine⟨cur',h1,by rw[h2];simp,fun i hi=>?_,fun j u hu=>?_⟩
    ·rw[h3 i (by rw[List.length_cons]at hi;omega),Array.getElem?_setIfInBounds_ne (by rw[List.length_cons]at hi;omega)]
    · cases j with
      |zero=>
        simp at hu;subst hu
        rw[Nat.add_zero,h3 o (by omega),Array.getElem?_setIfInBounds_self_of_lt (by omega)]
      |succ j=>
        have:=h4 j u (by simpa using hu)
        rwa[show o+(j+1)=o+1+j by omega]
theorem setRow_below {n g:Nat} {w0:World}:∀(vs:List Value) (o:Nat) (w:World),Below n w0 w→n≤g→Below n w0 (setRow w g o vs)
  |[],_,_,h,_=>h
  |v::vs,o,w,h,hg=>setRow_below vs (o+1) _ (h.setCell (p:=⟨g,o,none⟩) hg v) hg
theorem setRow_other {g k:Nat} (hk:k≠g):∀(vs:List Value) (o:Nat) (w:World),(setRow w g o vs).heap[k]?=w.heap[k]?
  |[],_,_=>rfl
  |v::vs,o,w=>(setRow_other hk vs (o+1) _).trans (Below.heap_setCell _ _ _ _ hk)
theorem Grid.store {g:Nat} {e:TypeId} {sz n k:Nat} {rows:List (List D)} {r:List D} {vs:List Value} (h:Grid w g e sz n k rows) (hr:rows[k]?=some r) (hk:k<n) (hs:vs.length=sz) (hl:∀r∈rows,r.length=sz) (hv:DrNs (g+1) w r vs):
    Grid (setRow w g (k *sz) vs) g e sz n (k+1) rows:=by
  obtain⟨cur,h1,h2,h3⟩:=h
  have hle:k *sz+vs.length≤cur.size:=by
    rw[h2,hs,←Nat.succ_mul];exact Nat.mul_le_mul_right _ hk
  obtain⟨cur',q1,q2,q3,q4⟩:=setRow_same vs (k *sz) w cur e h1 hle
  have hf:∀ {x u},DrN (g+1) w x u→DrN (g+1) (setRow w g (k *sz) vs) x u:=fun h=>h.frame fun b hb _=>setRow_other (by omega) _ _ _
  refine⟨cur',q1,q2.trans h2,fun i r' j x hi hr' hx=>?_⟩
  by_cases e1:i=k
  · subst e1
    rw[hr]at hr';cases hr'
    have hj:j<vs.length:=by rw[hv.1];exact(List.getElem?_eq_some_iff.1 hx).1
    exact⟨vs[j],q4 j _ (List.getElem?_eq_getElem hj),hf (hv.2 j x _ hx (List.getElem?_eq_getElem hj))⟩
  · obtain⟨u,h4,h5⟩:=h3 i r' j x (by omega) hr' hx
    by_cases hj:i *sz+j<k *sz∨k *sz+vs.length≤i *sz+j
    ·exact⟨u,(q3 _ hj).trans h4,hf h5⟩
    · -- a cell of the row k: then it holds what was stored; rows are disjoint
      exfalso
      have hj':j<sz:=by rw[←hl r' (List.mem_of_getElem? hr')];exact(List.getElem?_eq_some_iff.1 hx).1
      have:(i+1) *sz≤k *sz:=Nat.mul_le_mul_right _ (by omega)
      rw[Nat.succ_mul]at this
      omega
end
theorem DrNs.mono {lo lo':Nat} {w:World} {ds:List D} {vs:List Value} (hl:lo'≤lo) (h:DrNs lo w ds vs):DrNs lo' w ds vs:=⟨h.1,fun i d u hd hu=>(h.2 i d u hd hu).mono hl⟩
theorem len_cons {α:Type} {l:List α} {n:Nat} (h:l.length=n+1):∃x l',l=x::l'∧l'.length=n:=by
  cases l with
  |nil=>cases h
  |cons x l=>exact⟨x,l,rfl,by simpa using h⟩
theorem len_zero {α:Type} {l:List α} (h:l.length=0):l=[]:=List.eq_nil_of_length_eq_zero h
structure R3 (w:World) (g:Nat) (A B C:List Value) (e1 e2:TypeId):Prop where
  a:w.heap[g]?=some (.cells A.toArray e1 (0,0))
  b:w.heap[g+1]?=some (.cells B.toArray e2 (0,0))
  c:w.heap[g+1+1]?=some (.cells C.toArray e2 (0,0))
theorem R3.start (w:World) (A B C:List Value) (e1 e2:TypeId):R3 (((w.alloc (.cells A.toArray e1)).alloc (.cells B.toArray e2)).alloc (.cells C.toArray e2)) w.heap.size A B C e1 e2:=by
  have h1:=heap_alloc_new w (.cells A.toArray e1)
  have h2:=heap_alloc_new (w.alloc (.cells A.toArray e1)) (.cells B.toArray e2)
  have h3:=heap_alloc_new ((w.alloc (.cells A.toArray e1)).alloc (.cells B.toArray e2)) (.cells C.toArray e2)
  have z1:(w.alloc (.cells A.toArray e1)).heap.size=w.heap.size+1:=by simp
  have z2:((w.alloc (.cells A.toArray e1)).alloc (.cells B.toArray e2)).heap.size=w.heap.size+1+1:=by simp
  rw[z1]at h2
  rw[z2]at h3
  exact⟨by rw[Below.heap_alloc _ _ _ (by omega),Below.heap_alloc _ _ _ (by omega)];exact h1,by rw[Below.heap_alloc _ _ _ (by omega)];exact h2,h3⟩
section
variable {w w' : World} {g : Nat} {A B C : List Value} {e1 e2 : TypeId}
theorem blk_lt {b:Nat} {o:Obj} (h:w.heap[b]?=some o):b<w.heap.size:=(Array.getElem?_eq_some_iff.1 h).1
theorem R3.fwd (h:R3 w g A B C e1 e2) (hb:Below w.heap.size w w'):R3 w' g A B C e1 e2:=
  ⟨(hb.block _ (blk_lt h.a)).trans h.a,(hb.block _ (blk_lt h.b)).trans h.b,(hb.block _ (blk_lt h.c)).trans h.c⟩
theorem R3.set (h:R3 w g A B C e1 e2) (j:Nat) (v:Value):R3 (w.setCell ⟨g+1+1,j,none⟩ v) g A B (C.set j v) e1 e2:=
  ⟨by rw[Below.heap_setCell _ _ _ _ (by show g≠g+1+1;omega)];exact h.a,by rw[Below.heap_setCell _ _ _ _ (by show g+1≠g+1+1;omega)];exact h.b,by
    have:=heap_setCell_same w (g+1+1) j C.toArray e2 v h.c
    rwa[List.setIfInBounds_toArray]at this⟩
theorem R3.setb (h:R3 w g A B C e1 e2) (j:Nat) (v:Value):R3 (w.setCell ⟨g+1,j,none⟩ v) g A (B.set j v) C e1 e2:=
  ⟨by rw[Below.heap_setCell _ _ _ _ (by show g≠g+1;omega)];exact h.a,by
    have:=heap_setCell_same w (g+1) j B.toArray e2 v h.b
    rwa[List.setIfInBounds_toArray]at this,by rw[Below.heap_setCell _ _ _ _ (by show g+1+1≠g+1;omega)];exact h.c⟩
theorem R3.c1 (h:R3 w g A B C e1 e2) (j:Nat) {v:Value} (hv:A[j]?=some v):w.cell? ⟨g,j,none⟩=some v:=by
  rw[cell_of_row w _ _ _ _ _ h.a,List.getElem?_toArray];exact hv
theorem R3.c2 (h:R3 w g A B C e1 e2) (j:Nat) {v:Value} (hv:B[j]?=some v):w.cell? ⟨g+1,j,none⟩=some v:=by
  rw[cell_of_row w _ _ _ _ _ h.b,List.getElem?_toArray];exact hv
theorem R3.c3 (h:R3 w g A B C e1 e2) (j:Nat) {v:Value} (hv:C[j]?=some v):w.cell? ⟨g+1+1,j,none⟩=some v:=by
  rw[cell_of_row w _ _ _ _ _ h.c,List.getElem?_toArray];exact hv
theorem R3.f2 (h:R3 w g A B C e1 e2) (j:Nat):w.frozen? ⟨g+1,j,none⟩=false:=by simp[World.frozen?,h.b]
theorem R3.f3 (h:R3 w g A B C e1 e2) (j:Nat):w.frozen? ⟨g+1+1,j,none⟩=false:=by simp[World.frozen?,h.c]
structure Past (m:Nat) (w w':World):Prop where
  size:w.heap.size≤w'.heap.size
  same:∀b,m≤b→b<w.heap.size→w'.heap[b]?=w.heap[b]?
theorem Past.refl (m:Nat) (w:World):Past m w w:=⟨Nat.le_refl _,fun _ _ _=>rfl⟩
theorem Past.fwd {m:Nat} {w0:World} (h:Past m w0 w) (hb:Below w.heap.size w w'):Past m w0 w':=⟨Nat.le_trans h.size hb.size,fun b h1 h2=>(hb.block b (Nat.lt_of_lt_of_le h2 h.size)).trans (h.same b h1 h2)⟩
theorem Past.set {m:Nat} {w0:World} (h:Past m w0 w) {b:Nat} (hb:b<m) (j:Nat) (v:Value):Past m w0 (w.setCell ⟨b,j,none⟩ v):=
  ⟨Nat.le_trans h.size (by simp[World.setCell]),fun c h1 h2=>(Below.heap_setCell _ _ _ _ (by show c≠b;omega)).trans (h.same c h1 h2)⟩
theorem DrN.past {lo m:Nat} {x:D} {v:Value} (h:DrN lo w x v) (hm:m≤lo) (hp:Past m w w'):DrN lo w' x v:=h.frame fun b h1 h2=>hp.same b (Nat.le_trans hm h1) h2
end
theorem info_make {t e:TypeId} {z:Value} {sz bytes:Nat} (ht:Tryz.prog.underlying t=some (.slice e)) (h:(Tryz.prog.info? e).map (fun i=>(i.zero,i.size,i.bytes))=some (some z,sz,bytes)) (n:Nat) (hn:bytes *n≤281474976710656) (hn2:n≤1048576) (w:World):
    (Instr.makeSlice t (.int .i64 (n:Int)) (.int .i64 (n:Int))).run Tryz.prog w= .ok (.slice (some ⟨w.heap.size,0,none⟩) n n) (w.alloc (.cells (madeCells z.cells (n *sz)) e)):=by
  obtain⟨i,hi,hz0,hz1,hz2⟩:=info_parts h
  have:=run_make (P:=Tryz.prog) w t e i _ ht hi hz0 .i64 .i64 n n (by omega) (by omega) (by rw[hz2,←Int.natCast_mul];exact Int.ofNat_le.2 hn) (by omega)
  simpa [hz1]using this
section
variable {S S' : Nat → Prop} {w w' w'' : World} {x y : D} {v : Value}
theorem DrK.sub (hs:∀b,S b→S' b) (h:DrK S w x v):DrK S' w x v:=by
  induction h with
  |val v u h=>exact .val v u h
  |list sz rows a n cap b off f hn h1 h2 h4 h5 h6 h7 ih=>
    exact .list sz rows a n cap b off f hn h1 h2 h4 h5 (fun i r j x hr hx=>⟨hs _ (h6 i r j x hr hx).1,(h6 i r j x hr hx).2⟩) ih
theorem DrU.k (h:DrU w S x v):DrK S w x v:=by
  induction h with
  |val S v h=>exact .val v v h
  |list S sz rows a n cap b off f T hn h1 h2 h3 h4 h5 h6 hT hD h7 ih=>
    refine .list sz rows a n cap b off f hn h1 h2 h4 h5 h6 fun i r j x hr hx=>?_
    exact(ih i r j x hr hx).sub fun c hc=>(hT i j c hc).1
theorem DrU.sub (hs:∀b,S b→S' b) (h:DrU w S x v):DrU w S' x v:=by
  cases h with
  |val S v h=>exact .val S' v h
  |list S sz rows a n cap b off f T hn h1 h2 h3 h4 h5 h6 hT hD h7=>
    exact .list S' sz rows a n cap b off f T hn h1 h2 h3 h4 h5 (fun i r j x hr hx=>⟨hs _ (h6 i r j x hr hx).1,(h6 i r j x hr hx).2⟩) (fun i j c hc=>⟨hs _ (hT i j c hc).1,(hT i j c hc).2⟩) hD h7
theorem DrU.fwd (h:DrU w S x v) (hb:Below w.heap.size w w'):DrU w' S x v:=h.frame fun b _ hl=>hb.block b hl
theorem DrU.leaf {u v:Value} (h:DrU w S (.val u) v):v=u∧nsl v=true:=by cases h;exact⟨rfl,by assumption⟩
theorem DrU.slice {sz:Nat} {rows:List (List D)} (h:DrU w S (.list sz rows) v):∃ad cap,v= .slice ad rows.length cap∧rows.length≤cap∧rows.length≤17592186044416∧(ad=none→cap=0):=by
  cases h with
  |list _ sz rows a n cap b off f T hn h1 h2 h3 h4 h5 h6 hT hD h7=>subst hn;exact⟨a,cap,rfl,h1,h2,h3⟩
theorem DrU.at {sz n cap:Nat} {rows:List (List D)} {ad:Option Addr} (h:DrU w S (.list sz rows) (.slice ad n cap)) {i:Nat} {r:List D} (hi:rows[i]?=some r) (hr:0<r.length):
    ∃b off,ad=some ⟨b,off,none⟩∧S b∧b<w.heap.size∧r.length=sz:=by
  cases h with
  |list _ sz rows a n cap b off f T hn h1 h2 h3 h4 h5 h6 hT hD h7=>
    have hl:=(List.getElem?_eq_some_iff.1 hi).1
    obtain⟨g1,g2,_⟩:=h6 i r 0 r[0] hi (List.getElem?_eq_getElem hr)
    exact⟨b,off,h4 (by omega),g1,World.block_lt_of_cell? _ _ g2,h5 i r hi⟩
theorem DrU.row {sz n cap b off:Nat} {rows:List (List D)} (h:DrU w S (.list sz rows) (.slice (some ⟨b,off,none⟩) n cap)) {i:Nat} {r:List D} (hi:rows[i]?=some r) {j:Nat} {x:D} (hx:r[j]?=some x) {o:Nat} (ho:off+(i *sz+j)=o):
    ∃u T,w.cell? ⟨b,o,none⟩=some u∧w.frozen? ⟨b,o,none⟩=false∧DrU w T x u∧(∀c,T c→S c∧c≠b)∧
      (∀w' y,Marked T w w'→DrU w' T y u→DrU w' S (.list sz (rows.set i (r.set j y))) (.slice (some ⟨b,off,none⟩) n cap))∧
      (∀t,nsl t=true→nsl u=true→DrU (w.setCell ⟨b,o,none⟩ t) S (.list sz (rows.set i (r.set j (.val t)))) (.slice (some ⟨b,off,none⟩) n cap)):=by
  subst ho
  cases h with
  |list _ sz rows a n cap b' off' f T hn h1 h2 h3 h4 h5 h6 hT hD h7=>
    have hl:=(List.getElem?_eq_some_iff.1 hi).1
    have hjl:=(List.getElem?_eq_some_iff.1 hx).1
    cases h4 (by omega)
    have hrl:=h5 i r hi
    obtain⟨g1,g2,g3⟩:=h6 i r j x hi hx
    have hbl:=World.block_lt_of_cell? _ _ g2
    have hset:∀y (i':Nat) r' (j':Nat) x',(rows.set i (r.set j y))[i']?=some r'→r'[j']?=some x'→(i'=i∧j'=j∧x'=y)∨(¬(i'=i∧j'=j)∧∃r0,rows[i']?=some r0∧r0[j']?=some x'):=by
      intro y i' r' j' x' hi' hx'
      rw[List.getElem?_set]at hi'
      by_cases e:i=i'
      · subst e
        rw[if_pos rfl,if_pos hl]at hi';cases hi'
        rw[List.getElem?_set]at hx'
        by_cases e2:j=j'
        ·subst e2;rw[if_pos rfl,if_pos hjl]at hx';cases hx';exact .inl ⟨rfl,rfl,rfl⟩
        ·rw[if_neg e2]at hx';exact .inr ⟨fun h=>e2 h.2.symm,r,hi,hx'⟩
      ·rw[if_neg e]at hi';exact .inr ⟨fun h=>e h.1.symm,r',hi',hx'⟩
    have hlen:∀y (i':Nat) r',(rows.set i (r.set j y))[i']?=some r'→r'.length=sz:=by
      intro y i' r' hi'
      rw[List.getElem?_set]at hi'
      by_cases e:i=i'
      ·subst e;rw[if_pos rfl,if_pos hl]at hi';cases hi';rw[List.length_set];exact hrl
      ·rw[if_neg e]at hi';exact h5 i' r' hi'
    refine⟨f i j,T i j,g2,g3,h7 i r j x hi hx,hT i j,fun w' y hm hy=>?_,fun t ht hu=>?_⟩
    · refine .list S sz _ _ n cap b off f T (by rw[List.length_set];exact hn) h1 h2 h3 (fun _=>rfl) (hlen y) (fun i' r' j' x' hi' hx'=>?_) hT hD fun i' r' j' x' hi' hx'=>?_
      · have key : ∀ r0 x0, rows[i']? = some r0 → r0[j']? = some x0 → S b ∧ w'.cell? ⟨b, off + (i' * sz + j'), none⟩ = some (f i' j') ∧ w'.frozen? ⟨b, off + (i' * sz + j'), none⟩ = false := fun r0 x0 q1 q2 => by
          obtain⟨g4,g5,g6⟩:=h6 i' r0 j' x0 q1 q2
          have hold:=hm.old b hbl fun hb=>(hT i j b hb).2 rfl
          exact⟨g4,(World.cell?_of_block (a:=⟨b,off+(i' *sz+j'),none⟩) hold).trans g5,(hm.frz _ _ hbl).trans g6⟩
        rcases hset y i' r' j' x' hi' hx' with⟨rfl,rfl,_⟩|⟨_,r0,q1,q2⟩
        ·exact key r x hi hx
        ·exact key r0 x' q1 q2
      · rcases hset y i' r' j' x' hi' hx' with⟨rfl,rfl,rfl⟩|⟨hne,r0,q1,q2⟩
        ·exact hy
        · refine(h7 i' r0 j' x' q1 q2).frame fun c hc hcl=>hm.old c hcl fun hc'=>hne ?_
          obtain⟨e1,e2⟩:=hD i' j' i j c hc hc'
          exact⟨e1,e2⟩
    · have hlt:∀ {i' j':Nat} {r0:List D} {x0:D},rows[i']?=some r0→r0[j']?=some x0→j'<sz:=fun q1 q2=>by rw[←h5 _ _ q1];exact(List.getElem?_eq_some_iff.1 q2).1
      have hidx:∀ {i' j':Nat},j'<sz→j<sz→i' *sz+j'=i *sz+j→i'=i∧j'=j:=fun {i' j'} q1 q2 e=>by
        have e1:(i' *sz+j') / sz=(i *sz+j) / sz:=by rw[e]
        rw[Nat.mul_comm,Nat.mul_add_div (by omega),Nat.div_eq_of_lt q1,Nat.mul_comm,Nat.mul_add_div (by omega),Nat.div_eq_of_lt q2]at e1
        have:i'=i:=by omega
        subst this
        exact⟨rfl,by omega⟩
      refine .list S sz _ _ n cap b off (fun i' j'=>if i'=i∧j'=j then t else f i' j') (fun i' j' c=>¬(i'=i∧j'=j)∧T i' j' c) (by rw[List.length_set];exact hn) h1 h2 h3 (fun _=>rfl) (hlen _) (fun i' r' j' x' hi' hx'=>?_) (fun i' j' c hc=>hT i' j' c hc.2) (fun i1 j1 i2 j2 c q1 q2=>hD i1 j1 i2 j2 c q1.2 q2.2) fun i' r' j' x' hi' hx'=>?_
      · rcases hset _ i' r' j' x' hi' hx' with⟨rfl,rfl,_⟩|⟨hne,r0,q1,q2⟩
        ·exact⟨g1,by rw[if_pos ⟨rfl,rfl⟩];exact World.cell?_setCell_same _ _ _ g2,(World.frozen?_setCell _ _ _ _).trans g3⟩
        · obtain⟨g4,g5,g6⟩:=h6 i' r0 j' x' q1 q2
          refine⟨g4,?_,(World.frozen?_setCell _ _ _ _).trans g6⟩
          rw[if_neg hne]
          exact(World.cell?_setCell_other _ _ _ _ (by intro e;simp only[Addr.mk.injEq]at e;exact hne (hidx (hlt q1 q2) (hlt hi hx) (by omega)))).trans g5
      · rcases hset _ i' r' j' x' hi' hx' with⟨rfl,rfl,rfl⟩|⟨hne,r0,q1,q2⟩
        ·simp only[and_self,if_true];exact .val _ _ ht
        · simp only[if_neg hne]
          refine((h7 i' r0 j' x' q1 q2).frame fun c hc _=>?_).sub fun c hc=>⟨hne,hc⟩
          exact Below.heap_setCell _ _ _ _ (by show c≠b;exact(hT i' j' c hc).2)
end
mutual
def mkD (tx:Int→ByteArray):Int→D→D
  |k,.val (.string _)=>.val (.string (tx k))
  |k,.val _=>.val (.int .i64 k)
  |k,.list sz rows=>.list sz (mkR tx k rows)
  |_,.tree S x=>.tree S x
def mkR (tx:Int→ByteArray):Int→List (List D)→List (List D)
  |_,[]=>[]
  |k,r::rs=>mkL tx k r::mkR tx (k+wgtL r) rs
def mkL (tx:Int→ByteArray):Int→List D→List D
  |_,[]=>[]
  |k,d::ds=>mkD tx k d::mkL tx (k+wgt d) ds
end
theorem mkR_len (tx:Int→ByteArray):∀(rows:List (List D)) (k:Int),(mkR tx k rows).length=rows.length
  |[],_=>rfl
  |r::rs,k=>by rw[mkR,List.length_cons,mkR_len tx rs,List.length_cons]
theorem mkR_at (tx:Int→ByteArray):∀(rows:List (List D)) (k:Int) (i:Nat) (r:List D),rows[i]?=some r→(mkR tx k rows)[i]?=some (mkL tx (k+wgtR (rows.take i)) r)
  |[],_,i,r,h=>by simp at h
  |q::rs,k,0,r,h=>by simp at h;subst h;rw[mkR];simp[wgtR]
  |q::rs,k,i+1,r,h=>by
    rw[mkR,List.getElem?_cons_succ,mkR_at tx rs _ i r (by simpa using h),List.take_succ_cons,wgtR]
    congr 2;omega
def mkT (tx:Int→ByteArray) (k:Int) (rows:List (List D)) (j:Nat):List (List D):=(mkR tx k rows).take j++rows.drop j
theorem mkT_zero {tx:Int→ByteArray} {k:Int} {rows:List (List D)}:mkT tx k rows 0=rows:=by simp[mkT]
theorem mkT_end {tx:Int→ByteArray} {k:Int} {rows:List (List D)} {n:Nat} (h:n=rows.length):mkT tx k rows n=mkR tx k rows:=by
  rw[mkT,List.take_of_length_le (by rw[mkR_len];omega),List.drop_of_length_le (by omega),List.append_nil]
theorem mkT_at {tx:Int→ByteArray} {k:Int} {rows:List (List D)} {j:Nat} {r:List D} (h:rows[j]?=some r):(mkT tx k rows j)[j]?=some r:=by
  have hl:=(List.getElem?_eq_some_iff.1 h).1
  rw[mkT,List.getElem?_append_right (by rw[List.length_take,mkR_len];omega),List.length_take,mkR_len,Nat.min_eq_left (by omega),Nat.sub_self,List.getElem?_drop,Nat.add_zero];exact h
theorem mkT_next {tx:Int→ByteArray} {k K:Int} {rows:List (List D)} {j:Nat} {r r':List D} (h:rows[j]?=some r) (hK:K=k+wgtR (rows.take j)) (hr:r'=mkL tx K r):(mkT tx k rows j).set j r'=mkT tx k rows (j+1):=by
  have hl:=(List.getElem?_eq_some_iff.1 h).1
  have h1:=mkR_at tx rows k j r h
  rw[←hK,←hr]at h1
  have hd:rows.drop j=r::rows.drop (j+1):=by rw[List.drop_eq_getElem_cons hl,(List.getElem?_eq_some_iff.1 h).2]
  rw[mkT,mkT,List.set_append,if_neg (by rw[List.length_take,mkR_len];omega),List.length_take,mkR_len,Nat.min_eq_left (by omega),Nat.sub_self,hd,List.set_cons_zero,List.take_add_one,h1,List.append_assoc]
  rfl
def MarkU (P:Program) (tx:Int→ByteArray) (f:FuncId) (x:D) (c:Nat):Prop:=∀(S:Nat→Prop) (w:World) (v:Value) (k:Int),DrU w S x v→0≤k→k+c≤4611686018427387904→
  Calls P f #[v,.int .i64 k] w fun e w'=>e= .returned (.int .i64 (k+c))∧Marked S w w'∧DrU w' S (mkD tx k x) v
def dgI (j:Int) (t:ByteArray):ByteArray:=if 0<j then dgI (j / 10) (strOfNums [48+j % 10]++t)else t
termination_by j.toNat
decreasing_by omega
def mTx (k:Int):ByteArray:=if k=0 then⟨#[109,48]⟩else⟨#[109]⟩++dgI k ⟨#[]⟩
theorem markText_u (k:Int) (w:World) (h0:0≤k) (h1:k≤4611686018427387904):Calls Tryz.prog 71 #[.int .i64 k] w fun e w'=>e= .returned (.string (mTx k))∧Below w.heap.size w w':=by
  by_cases hk:k=0
  · subst hk
    go_enter Tryz.func71,Tryz.ntmps71
    go_wp2
    go_ret
    exact⟨by rw[mTx,if_pos rfl];rfl,Below.refl _ _⟩
  · have hk1:decide (k≤0)=false:=by simp;omega
    go_enter Tryz.func71,Tryz.ntmps71
    go_wp2
    go_loopw [0,3] (fun i s wr=>∃(j:Int) (t:ByteArray),0≤j∧i= .int .i64 j∧s= .string t∧Hid (TextOk j t)∧Below w.heap.size w wr∧Hid (dgI j t=dgI k ⟨#[]⟩)) (fun i _ _=>(intOf i).toNat)
    case atStart=>exact⟨k,_,h0,rfl,rfl,hid (TextOk.start h0 h1),Below.refl _ _,hid rfl⟩
    case round=>
      obtain⟨j,t,hj,rfl,rfl,ht,hb,hdg⟩:=hrel
      have hsz:=ht.out.size
      by_cases hlt:0<j
      · have hd:decide (0<j)=true:=by simpa using hlt
        have hcv:(convert 168 9 (.slice (some ⟨wr.heap.size,0,none⟩) 1 1)).run Tryz.prog (wr.alloc (.cells #[.int .u8 (48+j % 10)] 5))= .ok (.string (strOfNums [48+j % 10])) (wr.alloc (.cells #[.int .u8 (48+j % 10)] 5)):=
          run_convert_bytes_arg _ 168 5 Tryz.underlying168 Tryz.underlying5 wr.heap.size 0 1 1 [48+j % 10] rfl (fun i hi=>by
            obtain rfl:i=0:=by omega
            exact cell_of_row _ _ 0 _ _ _ (heap_alloc_new wr _)) 9 Tryz.underlying9
        have hs3:(strOfNums [48+j % 10]).size=1:=rfl
        have hs2:(strOfNums [48+j % 10]++t).size=t.size+1:=by rw[ByteArray.size_append,hs3];omega
        have hq:wrap64 (j.tdiv 10)=j / 10:=by
          have:=ht.out.le
          rw[Int.tdiv_eq_ediv_of_nonneg hj,wrap64_inM (by omega) (by omega)]
        have Hn:=hid (ht.out.next hlt hs2)
        have Hg:=hid (show dgI (j / 10) (strOfNums [48+j % 10]++t)=dgI k ⟨#[]⟩by rw[←hdg.out];conv=>rhs;rw[dgI,if_pos hlt])
        go_wp2
        rw[hq]
        exact⟨⟨j / 10,_,by omega,rfl,rfl,Hn,hb.alloc hb.size _,Hg⟩,by simp[intOf];omega⟩
      · have hd:decide (0<j)=false:=by simpa using hlt
        have hg:dgI k ⟨#[]⟩=t:=by rw[←hdg.out,dgI,if_neg hlt]
        go_wp2
        go_ret
        exact⟨by rw[mTx,if_neg hk,hg];rfl,hb⟩
theorem Marked.sub {S S':Nat→Prop} {w w':World} (h:Marked S w w') (hs:∀b,S b→S' b):Marked S' w w':=⟨h.os,h.tape,h.output,h.size,fun b hb hn=>h.old b hb fun hS=>hn (hs b hS),h.cell,h.frz⟩
theorem DrU.rowS {S:Nat→Prop} {w:World} {sz n cap b off i:Nat} {R:List (List D)} {q:List D} (h:DrU w S (.list sz (R.set i q)) (.slice (some ⟨b,off,none⟩) n cap)) (hi:i<R.length) {j:Nat} {x:D} (hx:q[j]?=some x) {o:Nat} (ho:off+(i *sz+j)=o):
    ∃u T,w.cell? ⟨b,o,none⟩=some u∧w.frozen? ⟨b,o,none⟩=false∧DrU w T x u∧(∀c,T c→S c∧c≠b)∧
      (∀w' y,Marked T w w'→DrU w' T y u→DrU w' S (.list sz (R.set i (q.set j y))) (.slice (some ⟨b,off,none⟩) n cap))∧
      (∀t,nsl t=true→nsl u=true→DrU (w.setCell ⟨b,o,none⟩ t) S (.list sz (R.set i (q.set j (.val t)))) (.slice (some ⟨b,off,none⟩) n cap)):=by
  have hq:(R.set i q)[i]?=some q:=by rw[List.getElem?_set,if_pos rfl,if_pos hi]
  obtain⟨u,T,h1,h2,h3,h4,h5,h6⟩:=h.row hq hx ho
  simp only[List.set_set]at h5 h6
  exact⟨u,T,h1,h2,h3,h4,h5,h6⟩
theorem set_same {α:Type} {l:List α} {i:Nat} {x:α} (h:l[i]?=some x):l.set i x=l:=by
  apply List.ext_getElem?
  intro j
  rw[List.getElem?_set]
  by_cases e:i=j
  ·subst e;rw[if_pos rfl,h,if_pos (List.getElem?_eq_some_iff.1 h).1]
  ·rw[if_neg e]
theorem mkT_len {tx:Int→ByteArray} {k:Int} {rows:List (List D)} {j:Nat} (h:j≤rows.length):(mkT tx k rows j).length=rows.length:=by
  rw[mkT,List.length_append,List.length_take,List.length_drop,mkR_len];omega
theorem markIntS_u {rows:List (List D)} (h:∀r∈rows,∃z,r=[.val (.int .i64 z)]):MarkU Tryz.prog mTx 72 (.list 1 rows) (wgtR rows):=by
  intro S w v k hx hk0 hk1
  obtain⟨ad,cap,rfl,_,hle,_⟩:=hx.slice
  obtain⟨n,hn⟩:∃n,n=rows.length:=⟨_,rfl⟩
  rw[←hn]at hx hle ⊢
  have Hn:=hid hn;clear hn
  have Hx:=hid hx;clear hx
  have Hk:=hid hk1;clear hk1
  go_enter Tryz.func72,Tryz.ntmps72
  go_wp2
  go_loopw [1,5] (fun q i wr=>∃(j:Nat) (K:Int),j≤n∧i= .int .i64 j∧q= .int .i64 K∧Hid (K=k+wgtR (rows.take j))∧Marked S w wr∧DrU wr S (.list 1 (mkT mTx k rows j)) (.slice ad n cap)) (fun _ i _=>n -(intOf i).toNat)
  case atStart=>exact⟨0,k,Nat.zero_le _,rfl,rfl,hid (by simp[wgtR]),Marked.refl _ _,by rw[mkT_zero];exact Hx.out⟩
  case round=>
    obtain⟨j,K,hj,rfl,rfl,HK,hm,hdu⟩:=hrel
    by_cases hlt:j<n
    · obtain⟨r,hr⟩:∃r,rows[j]?=some r:=⟨_,List.getElem?_eq_getElem (by rw[←Hn.out];exact hlt)⟩
      have hs:=wgtR_take hr
      obtain⟨z,rfl⟩:=h r (List.mem_of_getElem? hr)
      obtain⟨b,off,rfl,hS,_,_⟩:=hdu.at (mkT_at hr) (by simp)
      rw[←set_same (mkT_at (tx:=mTx) (k:=k) hr)]at hdu
      obtain⟨u0,T0,c0,f0,d0,s0,_,l0⟩:=hdu.rowS (by rw[mkT_len (by have:=Hn.out;omega)];have:=Hn.out;omega) (j:=0) rfl (o:=off+j) (by omega)
      have e0:=d0.leaf.2
      have hd1:=l0 (.int .i64 K) rfl e0
      rw[mkT_next (tx:=mTx) (k:=k) (K:=K) (r':=[D.val (.int .i64 z)].set 0 (.val (.int .i64 K))) hr HK.out rfl]at hd1
      have hd1:=hid hd1
      have Hs:=hid hs;clear hs hr l0 hdu
      have hb1:=Hk.out;have hb2:=HK.out
      have hK0:0≤K:=by omega
      have hK1:K+1≤4611686018427387904:=by have:=Hs.out;have:=wgtR_le rows (j+1);simp[wgtL,wgt]at *;omega
      clear hb1 hb2
      have m1:=hm.trans (Marked.set (t:=.int .i64 K) hS c0 e0 rfl)
      go_wp2
      exact⟨⟨j+1,K+1,by omega,rfl,rfl,hid (by rw[HK.out,Hs.out];simp[wgtL,wgt];omega),m1,hd1.out⟩,by simp[intOf];omega⟩
    · have:j=n:=by omega
      subst this
      go_wp2
      go_ret
      exact⟨ret_int (by rw[HK.out,Hn.out,List.take_length]),hm,by rw[mkD,←mkT_end Hn.out];exact hdu⟩
set_option maxHeartbeats 3200000 in
theorem markArrayS_u {rows:List (List D)} (h:∀r∈rows,∃(e0:ByteArray),∃(x1:D),r=[.val (.string e0),x1]∧MarkU Tryz.prog mTx 72 x1 (wgt x1)):MarkU Tryz.prog mTx 34 (.list 2 rows) (wgtR rows):=by
  intro S w v k hx hk0 hk1
  obtain⟨ad,cap,rfl,_,hle,_⟩:=hx.slice
  obtain⟨n,hn⟩:∃n,n=rows.length:=⟨_,rfl⟩
  rw[←hn]at hx hle ⊢
  have Hn:=hid hn;clear hn
  have Hx:=hid hx;clear hx
  have Hk:=hid hk1;clear hk1
  go_enter Tryz.func34,Tryz.ntmps34
  go_wp2
  go_loopw [1,5] (fun q i wr=>∃(j:Nat) (K:Int),j≤n∧i= .int .i64 j∧q= .int .i64 K∧Hid (K=k+wgtR (rows.take j))∧Marked S w wr∧DrU wr S (.list 2 (mkT mTx k rows j)) (.slice ad n cap)) (fun _ i _=>n -(intOf i).toNat)
  case atStart=>exact⟨0,k,Nat.zero_le _,rfl,rfl,hid (by simp[wgtR]),Marked.refl _ _,by rw[mkT_zero];exact Hx.out⟩
  case round=>
    obtain⟨j,K,hj,rfl,rfl,HK,hm,hdu⟩:=hrel
    by_cases hlt:j<n
    · obtain⟨r,hr⟩:∃r,rows[j]?=some r:=⟨_,List.getElem?_eq_getElem (by rw[←Hn.out];exact hlt)⟩
      have hs:=wgtR_take hr
      obtain⟨e0,x1,rfl,q1⟩:=h r (List.mem_of_getElem? hr)
      obtain⟨g1,hg1,q1⟩:∃g,wgt x1=g∧MarkU Tryz.prog mTx 72 x1 g:=⟨_,rfl,q1⟩
      have hs:wgtR (rows.take (j+1))=wgtR (rows.take j)+(1+g1):=by rw[hs];simp only[wgtL,wgt,hg1];try omega
      have hK0:0≤K:=by have:=HK.out;omega
      have hK1:K+(1+g1:Nat)≤4611686018427387904:=by have:=Hk.out;have:=HK.out;have:=wgtR_le rows (j+1);omega
      obtain⟨b,off,rfl,hS,_,_⟩:=hdu.at (mkT_at hr) (by simp)
      have hjl:j<(mkT mTx k rows j).length:=by rw[mkT_len (by have:=Hn.out;omega)];have:=Hn.out;omega
      rw[←set_same (mkT_at (tx:=mTx) (k:=k) hr)]at hdu
      have HD:=hid hdu;clear hdu
      have hend:=hid (mkT_next (tx:=mTx) (k:=k) (K:=K) (r':=[.val (.string (mTx (K))),mkD mTx (K+1) x1]) hr HK.out (by simp[mkL,mkD,wgt,hg1]))
      have Hs:=hid hs;clear hs hr hg1
      have Hq:=hid hK1;have Hj:=hid hjl;clear hK1 hjl
      have hw:=Hq.out
      go_wp2_with fail
      clear hw
      refine(markText_u _ _ (by omega) (by have:=Hq.out;omega)).mono ?_
      rintro e w1 ⟨rfl,b1⟩
      have M1:=hm.trans (marked_of b1 S);have F1:=hid (HD.out.fwd b1)
      obtain⟨u1,T1,c1,f1,d1,s1,p1,l1⟩:=F1.out.rowS Hj.out (j:=0) rfl (o:=off+j *2) (by omega)
      have d1:=d1.leaf.2
      have m1:=M1.trans (Marked.set (t:=.string (mTx (K))) hS c1 d1 rfl)
      have D1:=hid (l1 (.string (mTx (K))) rfl d1);clear p1 l1 s1
      obtain⟨u2,T2,c2,f2,d2,s2,p2,l2⟩:=D1.out.rowS Hj.out (j:=1) rfl (o:=off+j *2+1) (by omega)
      have P2:=hid p2;have E2:=hid d2
      clear p2 l2 d2
      have hw:=Hq.out
      go_wp2_with fail
      clear hw
      refine(q1 T2 _ _ _ E2.out (by omega) (by have:=Hq.out;omega)).mono ?_
      rintro e w2 ⟨rfl,b2,y2⟩
      have M2:=m1.trans (b2.sub fun c hc=>(s2 c hc).1);have F2:=hid (P2.out _ _ b2 y2)
      clear b2 y2 s2
      have hw:=Hq.out
      go_wp2_with fail
      clear hw
      exact⟨⟨j+1,K+1+(g1:Nat),by omega,rfl,rfl,hid (by have:=HK.out;have:=Hs.out;omega),M2,by rw[←hend.out];exact F2.out⟩,by simp[intOf];omega⟩
    · have:j=n:=by omega
      subst this
      go_wp2
      go_ret
      exact⟨ret_int (by rw[HK.out,Hn.out,List.take_length]),hm,by rw[mkD,←mkT_end Hn.out];exact hdu⟩
set_option maxHeartbeats 3200000 in
theorem markAffineS_u {rows:List (List D)} (h:∀r∈rows,∃(x0:D),∃(e1:Int),r=[x0,.val (.int .i64 e1)]∧MarkU Tryz.prog mTx 72 x0 (wgt x0)):MarkU Tryz.prog mTx 119 (.list 2 rows) (wgtR rows):=by
  intro S w v k hx hk0 hk1
  obtain⟨ad,cap,rfl,_,hle,_⟩:=hx.slice
  obtain⟨n,hn⟩:∃n,n=rows.length:=⟨_,rfl⟩
  rw[←hn]at hx hle ⊢
  have Hn:=hid hn;clear hn
  have Hx:=hid hx;clear hx
  have Hk:=hid hk1;clear hk1
  go_enter Tryz.func119,Tryz.ntmps119
  go_wp2
  go_loopw [1,5] (fun q i wr=>∃(j:Nat) (K:Int),j≤n∧i= .int .i64 j∧q= .int .i64 K∧Hid (K=k+wgtR (rows.take j))∧Marked S w wr∧DrU wr S (.list 2 (mkT mTx k rows j)) (.slice ad n cap)) (fun _ i _=>n -(intOf i).toNat)
  case atStart=>exact⟨0,k,Nat.zero_le _,rfl,rfl,hid (by simp[wgtR]),Marked.refl _ _,by rw[mkT_zero];exact Hx.out⟩
  case round=>
    obtain⟨j,K,hj,rfl,rfl,HK,hm,hdu⟩:=hrel
    by_cases hlt:j<n
    · obtain⟨r,hr⟩:∃r,rows[j]?=some r:=⟨_,List.getElem?_eq_getElem (by rw[←Hn.out];exact hlt)⟩
      have hs:=wgtR_take hr
      obtain⟨x0,e1,rfl,q0⟩:=h r (List.mem_of_getElem? hr)
      obtain⟨g0,hg0,q0⟩:∃g,wgt x0=g∧MarkU Tryz.prog mTx 72 x0 g:=⟨_,rfl,q0⟩
      have hs:wgtR (rows.take (j+1))=wgtR (rows.take j)+(g0+1):=by rw[hs];simp only[wgtL,wgt,hg0];try omega
      have hK0:0≤K:=by have:=HK.out;omega
      have hK1:K+(g0+1:Nat)≤4611686018427387904:=by have:=Hk.out;have:=HK.out;have:=wgtR_le rows (j+1);omega
      obtain⟨b,off,rfl,hS,_,_⟩:=hdu.at (mkT_at hr) (by simp)
      have hjl:j<(mkT mTx k rows j).length:=by rw[mkT_len (by have:=Hn.out;omega)];have:=Hn.out;omega
      rw[←set_same (mkT_at (tx:=mTx) (k:=k) hr)]at hdu
      have HD:=hid hdu;clear hdu
      have hend:=hid (mkT_next (tx:=mTx) (k:=k) (K:=K) (r':=[mkD mTx (K) x0,.val (.int .i64 (K+(g0:Nat)))]) hr HK.out (by simp[mkL,mkD,wgt,hg0]))
      have Hs:=hid hs;clear hs hr hg0
      have Hq:=hid hK1;have Hj:=hid hjl;clear hK1 hjl
      obtain⟨u1,T1,c1,f1,d1,s1,p1,l1⟩:=HD.out.rowS Hj.out (j:=0) rfl (o:=off+j *2) (by omega)
      have P1:=hid p1;have E1:=hid d1
      clear p1 l1 d1
      have hw:=Hq.out
      go_wp2_with fail
      clear hw
      refine(q0 T1 _ _ _ E1.out (by omega) (by have:=Hq.out;omega)).mono ?_
      rintro e w1 ⟨rfl,b1,y1⟩
      have M1:=hm.trans (b1.sub fun c hc=>(s1 c hc).1);have F1:=hid (P1.out _ _ b1 y1)
      clear b1 y1 s1
      obtain⟨u2,T2,c2,f2,d2,s2,p2,l2⟩:=F1.out.rowS Hj.out (j:=1) rfl (o:=off+j *2+1) (by omega)
      have d2:=d2.leaf.2
      have m2:=M1.trans (Marked.set (t:=.int .i64 (K+(g0:Nat))) hS c2 d2 rfl)
      have D2:=hid (l2 (.int .i64 (K+(g0:Nat))) rfl d2);clear p2 l2 s2
      have hw:=Hq.out
      go_wp2_with fail
      clear hw
      exact⟨⟨j+1,K+(g0:Nat)+1,by omega,rfl,rfl,hid (by have:=HK.out;have:=Hs.out;omega),m2,by rw[←hend.out];exact D2.out⟩,by simp[intOf];omega⟩
    · have:j=n:=by omega
      subst this
      go_wp2
      go_ret
      exact⟨ret_int (by rw[HK.out,Hn.out,List.take_length]),hm,by rw[mkD,←mkT_end Hn.out];exact hdu⟩
set_option maxHeartbeats 3200000 in
theorem markLoopS_u {rows:List (List D)} (h:∀r∈rows,∃(x0:D),∃(x1:D),r=[x0,x1]∧MarkU Tryz.prog mTx 119 x0 (wgt x0)∧MarkU Tryz.prog mTx 119 x1 (wgt x1)):MarkU Tryz.prog mTx 73 (.list 2 rows) (wgtR rows):=by
  intro S w v k hx hk0 hk1
  obtain⟨ad,cap,rfl,_,hle,_⟩:=hx.slice
  obtain⟨n,hn⟩:∃n,n=rows.length:=⟨_,rfl⟩
  rw[←hn]at hx hle ⊢
  have Hn:=hid hn;clear hn
  have Hx:=hid hx;clear hx
  have Hk:=hid hk1;clear hk1
  go_enter Tryz.func73,Tryz.ntmps73
  go_wp2
  go_loopw [1,5] (fun q i wr=>∃(j:Nat) (K:Int),j≤n∧i= .int .i64 j∧q= .int .i64 K∧Hid (K=k+wgtR (rows.take j))∧Marked S w wr∧DrU wr S (.list 2 (mkT mTx k rows j)) (.slice ad n cap)) (fun _ i _=>n -(intOf i).toNat)
  case atStart=>exact⟨0,k,Nat.zero_le _,rfl,rfl,hid (by simp[wgtR]),Marked.refl _ _,by rw[mkT_zero];exact Hx.out⟩
  case round=>
    obtain⟨j,K,hj,rfl,rfl,HK,hm,hdu⟩:=hrel
    by_cases hlt:j<n
    · obtain⟨r,hr⟩:∃r,rows[j]?=some r:=⟨_,List.getElem?_eq_getElem (by rw[←Hn.out];exact hlt)⟩
      have hs:=wgtR_take hr
      obtain⟨x0,x1,rfl,q0,q1⟩:=h r (List.mem_of_getElem? hr)
      obtain⟨g0,hg0,q0⟩:∃g,wgt x0=g∧MarkU Tryz.prog mTx 119 x0 g:=⟨_,rfl,q0⟩
      obtain⟨g1,hg1,q1⟩:∃g,wgt x1=g∧MarkU Tryz.prog mTx 119 x1 g:=⟨_,rfl,q1⟩
      have hs:wgtR (rows.take (j+1))=wgtR (rows.take j)+(g0+g1):=by rw[hs];simp only[wgtL,wgt,hg0,hg1];try omega
      have hK0:0≤K:=by have:=HK.out;omega
      have hK1:K+(g0+g1:Nat)≤4611686018427387904:=by have:=Hk.out;have:=HK.out;have:=wgtR_le rows (j+1);omega
      obtain⟨b,off,rfl,hS,_,_⟩:=hdu.at (mkT_at hr) (by simp)
      have hjl:j<(mkT mTx k rows j).length:=by rw[mkT_len (by have:=Hn.out;omega)];have:=Hn.out;omega
      rw[←set_same (mkT_at (tx:=mTx) (k:=k) hr)]at hdu
      have HD:=hid hdu;clear hdu
      have hend:=hid (mkT_next (tx:=mTx) (k:=k) (K:=K) (r':=[mkD mTx (K) x0,mkD mTx (K+(g0:Nat)) x1]) hr HK.out (by simp[mkL,mkD,wgt,hg0,hg1]))
      have Hs:=hid hs;clear hs hr hg0 hg1
      have Hq:=hid hK1;have Hj:=hid hjl;clear hK1 hjl
      obtain⟨u1,T1,c1,f1,d1,s1,p1,l1⟩:=HD.out.rowS Hj.out (j:=0) rfl (o:=off+j *2) (by omega)
      have P1:=hid p1;have E1:=hid d1
      clear p1 l1 d1
      have hw:=Hq.out
      go_wp2_with fail
      clear hw
      refine(q0 T1 _ _ _ E1.out (by omega) (by have:=Hq.out;omega)).mono ?_
      rintro e w1 ⟨rfl,b1,y1⟩
      have M1:=hm.trans (b1.sub fun c hc=>(s1 c hc).1);have F1:=hid (P1.out _ _ b1 y1)
      clear b1 y1 s1
      obtain⟨u2,T2,c2,f2,d2,s2,p2,l2⟩:=F1.out.rowS Hj.out (j:=1) rfl (o:=off+j *2+1) (by omega)
      have P2:=hid p2;have E2:=hid d2
      clear p2 l2 d2
      have hw:=Hq.out
      go_wp2_with fail
      clear hw
      refine(q1 T2 _ _ _ E2.out (by omega) (by have:=Hq.out;omega)).mono ?_
      rintro e w2 ⟨rfl,b2,y2⟩
      have M2:=M1.trans (b2.sub fun c hc=>(s2 c hc).1);have F2:=hid (P2.out _ _ b2 y2)
      clear b2 y2 s2
      have hw:=Hq.out
      go_wp2_with fail
      clear hw
      exact⟨⟨j+1,K+(g0:Nat)+(g1:Nat),by omega,rfl,rfl,hid (by have:=HK.out;have:=Hs.out;omega),M2,by rw[←hend.out];exact F2.out⟩,by simp[intOf];omega⟩
    · have:j=n:=by omega
      subst this
      go_wp2
      go_ret
      exact⟨ret_int (by rw[HK.out,Hn.out,List.take_length]),hm,by rw[mkD,←mkT_end Hn.out];exact hdu⟩
set_option maxHeartbeats 3200000 in
theorem markExprS_u {rows:List (List D)} (h:∀r∈rows,∃(e0:Int),∃(e1:Int),∃(x2:D),∃(e3:Int),∃(e4:ByteArray),∃(x5:D),∃(x6:D),r=[.val (.int .i64 e0),.val (.int .i64 e1),x2,.val (.int .i64 e3),.val (.string e4),x5,x6]∧MarkU Tryz.prog mTx 72 x2 (wgt x2)∧MarkU Tryz.prog mTx 119 x5 (wgt x5)∧MarkU Tryz.prog mTx 120 x6 (wgt x6)):MarkU Tryz.prog mTx 120 (.list 7 rows) (wgtR rows):=by
  intro S w v k hx hk0 hk1
  obtain⟨ad,cap,rfl,_,hle,_⟩:=hx.slice
  obtain⟨n,hn⟩:∃n,n=rows.length:=⟨_,rfl⟩
  rw[←hn]at hx hle ⊢
  have Hn:=hid hn;clear hn
  have Hx:=hid hx;clear hx
  have Hk:=hid hk1;clear hk1
  go_enter Tryz.func120,Tryz.ntmps120
  go_wp2
  go_loopw [1,5] (fun q i wr=>∃(j:Nat) (K:Int),j≤n∧i= .int .i64 j∧q= .int .i64 K∧Hid (K=k+wgtR (rows.take j))∧Marked S w wr∧DrU wr S (.list 7 (mkT mTx k rows j)) (.slice ad n cap)) (fun _ i _=>n -(intOf i).toNat)
  case atStart=>exact⟨0,k,Nat.zero_le _,rfl,rfl,hid (by simp[wgtR]),Marked.refl _ _,by rw[mkT_zero];exact Hx.out⟩
  case round=>
    obtain⟨j,K,hj,rfl,rfl,HK,hm,hdu⟩:=hrel
    by_cases hlt:j<n
    · obtain⟨r,hr⟩:∃r,rows[j]?=some r:=⟨_,List.getElem?_eq_getElem (by rw[←Hn.out];exact hlt)⟩
      have hs:=wgtR_take hr
      obtain⟨e0,e1,x2,e3,e4,x5,x6,rfl,q2,q5,q6⟩:=h r (List.mem_of_getElem? hr)
      obtain⟨g2,hg2,q2⟩:∃g,wgt x2=g∧MarkU Tryz.prog mTx 72 x2 g:=⟨_,rfl,q2⟩
      obtain⟨g5,hg5,q5⟩:∃g,wgt x5=g∧MarkU Tryz.prog mTx 119 x5 g:=⟨_,rfl,q5⟩
      obtain⟨g6,hg6,q6⟩:∃g,wgt x6=g∧MarkU Tryz.prog mTx 120 x6 g:=⟨_,rfl,q6⟩
      have hs:wgtR (rows.take (j+1))=wgtR (rows.take j)+(1+1+g2+1+1+g5+g6):=by rw[hs];simp only[wgtL,wgt,hg2,hg5,hg6];try omega
      have hK0:0≤K:=by have:=HK.out;omega
      have hK1:K+(1+1+g2+1+1+g5+g6:Nat)≤4611686018427387904:=by have:=Hk.out;have:=HK.out;have:=wgtR_le rows (j+1);omega
      obtain⟨b,off,rfl,hS,_,_⟩:=hdu.at (mkT_at hr) (by simp)
      have hjl:j<(mkT mTx k rows j).length:=by rw[mkT_len (by have:=Hn.out;omega)];have:=Hn.out;omega
      rw[←set_same (mkT_at (tx:=mTx) (k:=k) hr)]at hdu
      have HD:=hid hdu;clear hdu
      have hend:=hid (mkT_next (tx:=mTx) (k:=k) (K:=K) (r':=[.val (.int .i64 (K)),.val (.int .i64 (K+1)),mkD mTx (K+1+1) x2,.val (.int .i64 (K+1+1+(g2:Nat))),.val (.string (mTx (K+1+1+(g2:Nat)+1))),mkD mTx (K+1+1+(g2:Nat)+1+1) x5,mkD mTx (K+1+1+(g2:Nat)+1+1+(g5:Nat)) x6]) hr HK.out (by simp[mkL,mkD,wgt,hg2,hg5,hg6]))
      have Hs:=hid hs;clear hs hr hg2 hg5 hg6
      have Hq:=hid hK1;have Hj:=hid hjl;clear hK1 hjl
      obtain⟨u1,T1,c1,f1,d1,s1,p1,l1⟩:=HD.out.rowS Hj.out (j:=0) rfl (o:=off+j *7) (by omega)
      have d1:=d1.leaf.2
      have m1:=hm.trans (Marked.set (t:=.int .i64 (K)) hS c1 d1 rfl)
      have D1:=hid (l1 (.int .i64 (K)) rfl d1);clear p1 l1 s1
      obtain⟨u2,T2,c2,f2,d2,s2,p2,l2⟩:=D1.out.rowS Hj.out (j:=1) rfl (o:=off+j *7+1) (by omega)
      have d2:=d2.leaf.2
      have m2:=m1.trans (Marked.set (t:=.int .i64 (K+1)) hS c2 d2 rfl)
      have D2:=hid (l2 (.int .i64 (K+1)) rfl d2);clear p2 l2 s2
      obtain⟨u3,T3,c3,f3,d3,s3,p3,l3⟩:=D2.out.rowS Hj.out (j:=2) rfl (o:=off+j *7+2) (by omega)
      have P3:=hid p3;have E3:=hid d3
      clear p3 l3 d3
      have hw:=Hq.out
      go_wp2_with fail
      clear hw
      refine(q2 T3 _ _ _ E3.out (by omega) (by have:=Hq.out;omega)).mono ?_
      rintro e w1 ⟨rfl,b1,y1⟩
      have M1:=m2.trans (b1.sub fun c hc=>(s3 c hc).1);have F1:=hid (P3.out _ _ b1 y1)
      clear b1 y1 s3
      obtain⟨u4,T4,c4,f4,d4,s4,p4,l4⟩:=F1.out.rowS Hj.out (j:=3) rfl (o:=off+j *7+2+1) (by omega)
      have d4:=d4.leaf.2
      have m4:=M1.trans (Marked.set (t:=.int .i64 (K+1+1+(g2:Nat))) hS c4 d4 rfl)
      have D4:=hid (l4 (.int .i64 (K+1+1+(g2:Nat))) rfl d4);clear p4 l4 s4
      have hw:=Hq.out
      go_wp2_with fail
      clear hw
      refine(markText_u _ _ (by omega) (by have:=Hq.out;omega)).mono ?_
      rintro e w2 ⟨rfl,b2⟩
      have M2:=m4.trans (marked_of b2 S);have F2:=hid (D4.out.fwd b2)
      obtain⟨u5,T5,c5,f5,d5,s5,p5,l5⟩:=F2.out.rowS Hj.out (j:=4) rfl (o:=off+j *7+4) (by omega)
      have d5:=d5.leaf.2
      have m5:=M2.trans (Marked.set (t:=.string (mTx (K+1+1+(g2:Nat)+1))) hS c5 d5 rfl)
      have D5:=hid (l5 (.string (mTx (K+1+1+(g2:Nat)+1))) rfl d5);clear p5 l5 s5
      obtain⟨u6,T6,c6,f6,d6,s6,p6,l6⟩:=D5.out.rowS Hj.out (j:=5) rfl (o:=off+j *7+4+1) (by omega)
      have P6:=hid p6;have E6:=hid d6
      clear p6 l6 d6
      have hw:=Hq.out
      go_wp2_with fail
      clear hw
      refine(q5 T6 _ _ _ E6.out (by omega) (by have:=Hq.out;omega)).mono ?_
      rintro e w3 ⟨rfl,b3,y3⟩
      have M3:=m5.trans (b3.sub fun c hc=>(s6 c hc).1);have F3:=hid (P6.out _ _ b3 y3)
      clear b3 y3 s6
      obtain⟨u7,T7,c7,f7,d7,s7,p7,l7⟩:=F3.out.rowS Hj.out (j:=6) rfl (o:=off+j *7+6) (by omega)
      have P7:=hid p7;have E7:=hid d7
      clear p7 l7 d7
      have hw:=Hq.out
      go_wp2_with fail
      clear hw
      refine(q6 T7 _ _ _ E7.out (by omega) (by have:=Hq.out;omega)).mono ?_
      rintro e w4 ⟨rfl,b4,y4⟩
      have M4:=M3.trans (b4.sub fun c hc=>(s7 c hc).1);have F4:=hid (P7.out _ _ b4 y4)
      clear b4 y4 s7
      have hw:=Hq.out
      go_wp2_with fail
      clear hw
      exact⟨⟨j+1,K+1+1+(g2:Nat)+1+1+(g5:Nat)+(g6:Nat),by omega,rfl,rfl,hid (by have:=HK.out;have:=Hs.out;omega),M4,by rw[←hend.out];exact F4.out⟩,by simp[intOf];omega⟩
    · have:j=n:=by omega
      subst this
      go_wp2
      go_ret
      exact⟨ret_int (by rw[HK.out,Hn.out,List.take_length]),hm,by rw[mkD,←mkT_end Hn.out];exact hdu⟩
set_option maxHeartbeats 3200000 in
theorem markStmtS_u {rows:List (List D)} (h:∀r∈rows,∃(e0:ByteArray),∃(x1:D),∃(e2:Int),∃(e3:Int),∃(x4:D),∃(e5:Int),∃(e6:ByteArray),∃(x7:D),∃(x8:D),r=[.val (.string e0),x1,.val (.int .i64 e2),.val (.int .i64 e3),x4,.val (.int .i64 e5),.val (.string e6),x7,x8]∧MarkU Tryz.prog mTx 119 x1 (wgt x1)∧MarkU Tryz.prog mTx 72 x4 (wgt x4)∧MarkU Tryz.prog mTx 119 x7 (wgt x7)∧MarkU Tryz.prog mTx 120 x8 (wgt x8)):MarkU Tryz.prog mTx 74 (.list 9 rows) (wgtR rows):=by
  intro S w v k hx hk0 hk1
  obtain⟨ad,cap,rfl,_,hle,_⟩:=hx.slice
  obtain⟨n,hn⟩:∃n,n=rows.length:=⟨_,rfl⟩
  rw[←hn]at hx hle ⊢
  have Hn:=hid hn;clear hn
  have Hx:=hid hx;clear hx
  have Hk:=hid hk1;clear hk1
  go_enter Tryz.func74,Tryz.ntmps74
  go_wp2
  go_loopw [1,5] (fun q i wr=>∃(j:Nat) (K:Int),j≤n∧i= .int .i64 j∧q= .int .i64 K∧Hid (K=k+wgtR (rows.take j))∧Marked S w wr∧DrU wr S (.list 9 (mkT mTx k rows j)) (.slice ad n cap)) (fun _ i _=>n -(intOf i).toNat)
  case atStart=>exact⟨0,k,Nat.zero_le _,rfl,rfl,hid (by simp[wgtR]),Marked.refl _ _,by rw[mkT_zero];exact Hx.out⟩
  case round=>
    obtain⟨j,K,hj,rfl,rfl,HK,hm,hdu⟩:=hrel
    by_cases hlt:j<n
    · obtain⟨r,hr⟩:∃r,rows[j]?=some r:=⟨_,List.getElem?_eq_getElem (by rw[←Hn.out];exact hlt)⟩
      have hs:=wgtR_take hr
      obtain⟨e0,x1,e2,e3,x4,e5,e6,x7,x8,rfl,q1,q4,q7,q8⟩:=h r (List.mem_of_getElem? hr)
      obtain⟨g1,hg1,q1⟩:∃g,wgt x1=g∧MarkU Tryz.prog mTx 119 x1 g:=⟨_,rfl,q1⟩
      obtain⟨g4,hg4,q4⟩:∃g,wgt x4=g∧MarkU Tryz.prog mTx 72 x4 g:=⟨_,rfl,q4⟩
      obtain⟨g7,hg7,q7⟩:∃g,wgt x7=g∧MarkU Tryz.prog mTx 119 x7 g:=⟨_,rfl,q7⟩
      obtain⟨g8,hg8,q8⟩:∃g,wgt x8=g∧MarkU Tryz.prog mTx 120 x8 g:=⟨_,rfl,q8⟩
      have hs:wgtR (rows.take (j+1))=wgtR (rows.take j)+(1+g1+1+1+g4+1+1+g7+g8):=by rw[hs];simp only[wgtL,wgt,hg1,hg4,hg7,hg8];try omega
      have hK0:0≤K:=by have:=HK.out;omega
      have hK1:K+(1+g1+1+1+g4+1+1+g7+g8:Nat)≤4611686018427387904:=by have:=Hk.out;have:=HK.out;have:=wgtR_le rows (j+1);omega
      obtain⟨b,off,rfl,hS,_,_⟩:=hdu.at (mkT_at hr) (by simp)
      have hjl:j<(mkT mTx k rows j).length:=by rw[mkT_len (by have:=Hn.out;omega)];have:=Hn.out;omega
      rw[←set_same (mkT_at (tx:=mTx) (k:=k) hr)]at hdu
      have HD:=hid hdu;clear hdu
      have hend:=hid (mkT_next (tx:=mTx) (k:=k) (K:=K) (r':=[.val (.string (mTx (K))),mkD mTx (K+1) x1,.val (.int .i64 (K+1+(g1:Nat))),.val (.int .i64 (K+1+(g1:Nat)+1)),mkD mTx (K+1+(g1:Nat)+1+1) x4,.val (.int .i64 (K+1+(g1:Nat)+1+1+(g4:Nat))),.val (.string (mTx (K+1+(g1:Nat)+1+1+(g4:Nat)+1))),mkD mTx (K+1+(g1:Nat)+1+1+(g4:Nat)+1+1) x7,mkD mTx (K+1+(g1:Nat)+1+1+(g4:Nat)+1+1+(g7:Nat)) x8]) hr HK.out (by simp[mkL,mkD,wgt,hg1,hg4,hg7,hg8]))
      have Hs:=hid hs;clear hs hr hg1 hg4 hg7 hg8
      have Hq:=hid hK1;have Hj:=hid hjl;clear hK1 hjl
      have hw:=Hq.out
      go_wp2_with fail
      clear hw
      refine(markText_u _ _ (by omega) (by have:=Hq.out;omega)).mono ?_
      rintro e w1 ⟨rfl,b1⟩
      have M1:=hm.trans (marked_of b1 S);have F1:=hid (HD.out.fwd b1)
      obtain⟨u1,T1,c1,f1,d1,s1,p1,l1⟩:=F1.out.rowS Hj.out (j:=0) rfl (o:=off+j *9) (by omega)
      have d1:=d1.leaf.2
      have m1:=M1.trans (Marked.set (t:=.string (mTx (K))) hS c1 d1 rfl)
      have D1:=hid (l1 (.string (mTx (K))) rfl d1);clear p1 l1 s1
      obtain⟨u2,T2,c2,f2,d2,s2,p2,l2⟩:=D1.out.rowS Hj.out (j:=1) rfl (o:=off+j *9+1) (by omega)
      have P2:=hid p2;have E2:=hid d2
      clear p2 l2 d2
      have hw:=Hq.out
      go_wp2_with fail
      clear hw
      refine(q1 T2 _ _ _ E2.out (by omega) (by have:=Hq.out;omega)).mono ?_
      rintro e w2 ⟨rfl,b2,y2⟩
      have M2:=m1.trans (b2.sub fun c hc=>(s2 c hc).1);have F2:=hid (P2.out _ _ b2 y2)
      clear b2 y2 s2
      obtain⟨u3,T3,c3,f3,d3,s3,p3,l3⟩:=F2.out.rowS Hj.out (j:=2) rfl (o:=off+j *9+2) (by omega)
      have d3:=d3.leaf.2
      have m3:=M2.trans (Marked.set (t:=.int .i64 (K+1+(g1:Nat))) hS c3 d3 rfl)
      have D3:=hid (l3 (.int .i64 (K+1+(g1:Nat))) rfl d3);clear p3 l3 s3
      obtain⟨u4,T4,c4,f4,d4,s4,p4,l4⟩:=D3.out.rowS Hj.out (j:=3) rfl (o:=off+j *9+2+1) (by omega)
      have d4:=d4.leaf.2
      have m4:=m3.trans (Marked.set (t:=.int .i64 (K+1+(g1:Nat)+1)) hS c4 d4 rfl)
      have D4:=hid (l4 (.int .i64 (K+1+(g1:Nat)+1)) rfl d4);clear p4 l4 s4
      obtain⟨u5,T5,c5,f5,d5,s5,p5,l5⟩:=D4.out.rowS Hj.out (j:=4) rfl (o:=off+j *9+2+2) (by omega)
      have P5:=hid p5;have E5:=hid d5
      clear p5 l5 d5
      have hw:=Hq.out
      go_wp2_with fail
      clear hw
      refine(q4 T5 _ _ _ E5.out (by omega) (by have:=Hq.out;omega)).mono ?_
      rintro e w3 ⟨rfl,b3,y3⟩
      have M3:=m4.trans (b3.sub fun c hc=>(s5 c hc).1);have F3:=hid (P5.out _ _ b3 y3)
      clear b3 y3 s5
      obtain⟨u6,T6,c6,f6,d6,s6,p6,l6⟩:=F3.out.rowS Hj.out (j:=5) rfl (o:=off+j *9+2+2+1) (by omega)
      have d6:=d6.leaf.2
      have m6:=M3.trans (Marked.set (t:=.int .i64 (K+1+(g1:Nat)+1+1+(g4:Nat))) hS c6 d6 rfl)
      have D6:=hid (l6 (.int .i64 (K+1+(g1:Nat)+1+1+(g4:Nat))) rfl d6);clear p6 l6 s6
      have hw:=Hq.out
      go_wp2_with fail
      clear hw
      refine(markText_u _ _ (by omega) (by have:=Hq.out;omega)).mono ?_
      rintro e w4 ⟨rfl,b4⟩
      have M4:=m6.trans (marked_of b4 S);have F4:=hid (D6.out.fwd b4)
      obtain⟨u7,T7,c7,f7,d7,s7,p7,l7⟩:=F4.out.rowS Hj.out (j:=6) rfl (o:=off+j *9+2+4) (by omega)
      have d7:=d7.leaf.2
      have m7:=M4.trans (Marked.set (t:=.string (mTx (K+1+(g1:Nat)+1+1+(g4:Nat)+1))) hS c7 d7 rfl)
      have D7:=hid (l7 (.string (mTx (K+1+(g1:Nat)+1+1+(g4:Nat)+1))) rfl d7);clear p7 l7 s7
      obtain⟨u8,T8,c8,f8,d8,s8,p8,l8⟩:=D7.out.rowS Hj.out (j:=7) rfl (o:=off+j *9+2+4+1) (by omega)
      have P8:=hid p8;have E8:=hid d8
      clear p8 l8 d8
      have hw:=Hq.out
      go_wp2_with fail
      clear hw
      refine(q7 T8 _ _ _ E8.out (by omega) (by have:=Hq.out;omega)).mono ?_
      rintro e w5 ⟨rfl,b5,y5⟩
      have M5:=m7.trans (b5.sub fun c hc=>(s8 c hc).1);have F5:=hid (P8.out _ _ b5 y5)
      clear b5 y5 s8
      obtain⟨u9,T9,c9,f9,d9,s9,p9,l9⟩:=F5.out.rowS Hj.out (j:=8) rfl (o:=off+j *9+2+6) (by omega)
      have P9:=hid p9;have E9:=hid d9
      clear p9 l9 d9
      have hw:=Hq.out
      go_wp2_with fail
      clear hw
      refine(q8 T9 _ _ _ E9.out (by omega) (by have:=Hq.out;omega)).mono ?_
      rintro e w6 ⟨rfl,b6,y6⟩
      have M6:=M5.trans (b6.sub fun c hc=>(s9 c hc).1);have F6:=hid (P9.out _ _ b6 y6)
      clear b6 y6 s9
      have hw:=Hq.out
      go_wp2_with fail
      clear hw
      exact⟨⟨j+1,K+1+(g1:Nat)+1+1+(g4:Nat)+1+1+(g7:Nat)+(g8:Nat),by omega,rfl,rfl,hid (by have:=HK.out;have:=Hs.out;omega),M6,by rw[←hend.out];exact F6.out⟩,by simp[intOf];omega⟩
    · have:j=n:=by omega
      subst this
      go_wp2
      go_ret
      exact⟨ret_int (by rw[HK.out,Hn.out,List.take_length]),hm,by rw[mkD,←mkT_end Hn.out];exact hdu⟩
set_option maxHeartbeats 3200000 in
theorem markPartS_u {rows:List (List D)} (h:∀r∈rows,∃(x0:D),∃(x1:D),r=[x0,x1]∧MarkU Tryz.prog mTx 73 x0 (wgt x0)∧MarkU Tryz.prog mTx 74 x1 (wgt x1)):MarkU Tryz.prog mTx 35 (.list 2 rows) (wgtR rows):=by
  intro S w v k hx hk0 hk1
  obtain⟨ad,cap,rfl,_,hle,_⟩:=hx.slice
  obtain⟨n,hn⟩:∃n,n=rows.length:=⟨_,rfl⟩
  rw[←hn]at hx hle ⊢
  have Hn:=hid hn;clear hn
  have Hx:=hid hx;clear hx
  have Hk:=hid hk1;clear hk1
  go_enter Tryz.func35,Tryz.ntmps35
  go_wp2
  go_loopw [1,5] (fun q i wr=>∃(j:Nat) (K:Int),j≤n∧i= .int .i64 j∧q= .int .i64 K∧Hid (K=k+wgtR (rows.take j))∧Marked S w wr∧DrU wr S (.list 2 (mkT mTx k rows j)) (.slice ad n cap)) (fun _ i _=>n -(intOf i).toNat)
  case atStart=>exact⟨0,k,Nat.zero_le _,rfl,rfl,hid (by simp[wgtR]),Marked.refl _ _,by rw[mkT_zero];exact Hx.out⟩
  case round=>
    obtain⟨j,K,hj,rfl,rfl,HK,hm,hdu⟩:=hrel
    by_cases hlt:j<n
    · obtain⟨r,hr⟩:∃r,rows[j]?=some r:=⟨_,List.getElem?_eq_getElem (by rw[←Hn.out];exact hlt)⟩
      have hs:=wgtR_take hr
      obtain⟨x0,x1,rfl,q0,q1⟩:=h r (List.mem_of_getElem? hr)
      obtain⟨g0,hg0,q0⟩:∃g,wgt x0=g∧MarkU Tryz.prog mTx 73 x0 g:=⟨_,rfl,q0⟩
      obtain⟨g1,hg1,q1⟩:∃g,wgt x1=g∧MarkU Tryz.prog mTx 74 x1 g:=⟨_,rfl,q1⟩
      have hs:wgtR (rows.take (j+1))=wgtR (rows.take j)+(g0+g1):=by rw[hs];simp only[wgtL,wgt,hg0,hg1];try omega
      have hK0:0≤K:=by have:=HK.out;omega
      have hK1:K+(g0+g1:Nat)≤4611686018427387904:=by have:=Hk.out;have:=HK.out;have:=wgtR_le rows (j+1);omega
      obtain⟨b,off,rfl,hS,_,_⟩:=hdu.at (mkT_at hr) (by simp)
      have hjl:j<(mkT mTx k rows j).length:=by rw[mkT_len (by have:=Hn.out;omega)];have:=Hn.out;omega
      rw[←set_same (mkT_at (tx:=mTx) (k:=k) hr)]at hdu
      have HD:=hid hdu;clear hdu
      have hend:=hid (mkT_next (tx:=mTx) (k:=k) (K:=K) (r':=[mkD mTx (K) x0,mkD mTx (K+(g0:Nat)) x1]) hr HK.out (by simp[mkL,mkD,wgt,hg0,hg1]))
      have Hs:=hid hs;clear hs hr hg0 hg1
      have Hq:=hid hK1;have Hj:=hid hjl;clear hK1 hjl
      obtain⟨u1,T1,c1,f1,d1,s1,p1,l1⟩:=HD.out.rowS Hj.out (j:=0) rfl (o:=off+j *2) (by omega)
      have P1:=hid p1;have E1:=hid d1
      clear p1 l1 d1
      have hw:=Hq.out
      go_wp2_with fail
      clear hw
      refine(q0 T1 _ _ _ E1.out (by omega) (by have:=Hq.out;omega)).mono ?_
      rintro e w1 ⟨rfl,b1,y1⟩
      have M1:=hm.trans (b1.sub fun c hc=>(s1 c hc).1);have F1:=hid (P1.out _ _ b1 y1)
      clear b1 y1 s1
      obtain⟨u2,T2,c2,f2,d2,s2,p2,l2⟩:=F1.out.rowS Hj.out (j:=1) rfl (o:=off+j *2+1) (by omega)
      have P2:=hid p2;have E2:=hid d2
      clear p2 l2 d2
      have hw:=Hq.out
      go_wp2_with fail
      clear hw
      refine(q1 T2 _ _ _ E2.out (by omega) (by have:=Hq.out;omega)).mono ?_
      rintro e w2 ⟨rfl,b2,y2⟩
      have M2:=M1.trans (b2.sub fun c hc=>(s2 c hc).1);have F2:=hid (P2.out _ _ b2 y2)
      clear b2 y2 s2
      have hw:=Hq.out
      go_wp2_with fail
      clear hw
      exact⟨⟨j+1,K+(g0:Nat)+(g1:Nat),by omega,rfl,rfl,hid (by have:=HK.out;have:=Hs.out;omega),M2,by rw[←hend.out];exact F2.out⟩,by simp[intOf];omega⟩
    · have:j=n:=by omega
      subst this
      go_wp2
      go_ret
      exact⟨ret_int (by rw[HK.out,Hn.out,List.take_length]),hm,by rw[mkD,←mkT_end Hn.out];exact hdu⟩
theorem all1 {R:D→Value→Prop} {x0:D} {u0:Value} (h0:R x0 u0):∀(i:Nat) d u,[x0][i]?=some d→[u0][i]?=some u→R d u:=fun i d u hd hu=>by
  match i with
  |0=>cases hd;cases hu;exact h0
theorem all2 {R:D→Value→Prop} {x0 x1:D} {u0 u1:Value} (h0:R x0 u0) (h1:R x1 u1):∀(i:Nat) d u,[x0,x1][i]?=some d→[u0,u1][i]?=some u→R d u:=fun i d u hd hu=>by
  match i with
  |0=>cases hd;cases hu;exact h0
  |1=>cases hd;cases hu;exact h1
theorem all7 {R:D→Value→Prop} {x0 x1 x2 x3 x4 x5 x6:D} {u0 u1 u2 u3 u4 u5 u6:Value} (h0:R x0 u0) (h1:R x1 u1) (h2:R x2 u2) (h3:R x3 u3) (h4:R x4 u4) (h5:R x5 u5) (h6:R x6 u6):∀(i:Nat) d u,[x0,x1,x2,x3,x4,x5,x6][i]?=some d→[u0,u1,u2,u3,u4,u5,u6][i]?=some u→R d u:=fun i d u hd hu=>by
  match i with
  |0=>cases hd;cases hu;exact h0
  |1=>cases hd;cases hu;exact h1
  |2=>cases hd;cases hu;exact h2
  |3=>cases hd;cases hu;exact h3
  |4=>cases hd;cases hu;exact h4
  |5=>cases hd;cases hu;exact h5
  |6=>cases hd;cases hu;exact h6
theorem all9 {R:D→Value→Prop} {x0 x1 x2 x3 x4 x5 x6 x7 x8:D} {u0 u1 u2 u3 u4 u5 u6 u7 u8:Value} (h0:R x0 u0) (h1:R x1 u1) (h2:R x2 u2) (h3:R x3 u3) (h4:R x4 u4) (h5:R x5 u5) (h6:R x6 u6) (h7:R x7 u7) (h8:R x8 u8):∀(i:Nat) d u,[x0,x1,x2,x3,x4,x5,x6,x7,x8][i]?=some d→[u0,u1,u2,u3,u4,u5,u6,u7,u8][i]?=some u→R d u:=fun i d u hd hu=>by
  match i with
  |0=>cases hd;cases hu;exact h0
  |1=>cases hd;cases hu;exact h1
  |2=>cases hd;cases hu;exact h2
  |3=>cases hd;cases hu;exact h3
  |4=>cases hd;cases hu;exact h4
  |5=>cases hd;cases hu;exact h5
  |6=>cases hd;cases hu;exact h6
  |7=>cases hd;cases hu;exact h7
  |8=>cases hd;cases hu;exact h8
theorem Tryz.infoCint:(Tryz.prog.info? 3).map (fun i=>(i.zero,i.size,i.bytes))=some (some (.int .i64 0),1,8):=by kernel_rfl
theorem Tryz.infoCArray:(Tryz.prog.info? 45).map (fun i=>(i.zero,i.size,i.bytes))=some (some (.agg #[.string ⟨#[]⟩,.slice none 0 0]),2,40):=by kernel_rfl
theorem Tryz.infoCAffine:(Tryz.prog.info? 61).map (fun i=>(i.zero,i.size,i.bytes))=some (some (.agg #[.slice none 0 0,.int .i64 0]),2,32):=by kernel_rfl
theorem Tryz.infoCLoop:(Tryz.prog.info? 148).map (fun i=>(i.zero,i.size,i.bytes))=some (some (.agg #[.slice none 0 0,.slice none 0 0]),2,48):=by kernel_rfl
theorem Tryz.infoCExpr:(Tryz.prog.info? 64).map (fun i=>(i.zero,i.size,i.bytes))=some (some (.agg #[.int .i64 0,.int .i64 0,.slice none 0 0,.int .i64 0,.string ⟨#[]⟩,.slice none 0 0,.slice none 0 0]),7,112):=by kernel_rfl
theorem Tryz.infoCStmt:(Tryz.prog.info? 66).map (fun i=>(i.zero,i.size,i.bytes))=some (some (.agg #[.string ⟨#[]⟩,.slice none 0 0,.int .i64 0,.int .i64 0,.slice none 0 0,.int .i64 0,.string ⟨#[]⟩,.slice none 0 0,.slice none 0 0]),9,152):=by kernel_rfl
theorem Tryz.infoCPart:(Tryz.prog.info? 80).map (fun i=>(i.zero,i.size,i.bytes))=some (some (.agg #[.slice none 0 0,.slice none 0 0]),2,48):=by kernel_rfl
set_option maxHeartbeats 3200000 in
theorem toIntS_c {rows:List (List D)} (h:∀r∈rows,∃z,r=[.val (.int .i64 z)]) (hl:rows.length≤1048576):CopyC Tryz.prog 99 (.list 1 rows):=by
  intro B w v hx
  obtain⟨ad,cap,rfl,_⟩:=hx.slice
  obtain⟨n,hn⟩:∃n,n=rows.length:=⟨_,rfl⟩
  rw[←hn]at hl hx ⊢
  have Hn:=hid hn;clear hn
  have Hx:=hid hx;clear hx
  have hmk:=info_make Tryz.underlying43 Tryz.infoCint n (by omega) hl
  go_enter Tryz.func99,Tryz.ntmps99
  go_wp2
  go_loopw [4] (fun i wr=>∃k:Nat,k≤n∧i= .int .i64 k∧Grid wr w.heap.size 3 1 n k rows∧Below w.heap.size w wr) (fun i _=>n -(intOf i).toNat)
  case atStart=>exact⟨0,Nat.zero_le _,rfl,by have:=Grid.new w 3 1 n #[.int .i64 0] rows;rw[Nat.mul_one]at this;exact this,(Below.refl _ _).alloc (Nat.le_refl _) _⟩
  case round=>
    obtain⟨k,hk,rfl,ho,hb⟩:=hrel
    clear hmk
    by_cases hlt:k<n
    · obtain⟨r,hr⟩:∃r,rows[k]?=some r:=⟨_,List.getElem?_eq_getElem (by rw[←Hn.out];exact hlt)⟩
      obtain⟨z,rfl⟩:=h r (List.mem_of_getElem? hr)
      have hX:=Hx.out.frame (below_sameAll hb _)
      obtain⟨ba,oa,rfl⟩:=hX.ba hr
      obtain⟨u0,c0,d0⟩:=hX.row hr 0 rfl (o:=oa+k) (by omega)
      have Hr:=hid hr;clear hr hX
      obtain rfl:u0= .int .i64 z:=by cases d0;rfl
      have f0:=ho.frozen k
      obtain⟨z0,e0⟩:=ho.cell (o:=k) (by omega)
      clear d0
      go_wp2_with fail
      exact⟨⟨k+1,by omega,rfl,by have:=ho.store (vs:=[.int .i64 z]) Hr.out hlt rfl (fun r hr=>by obtain⟨_,rfl⟩:=h r hr;rfl) ⟨rfl,all1 (DrN.val (.int .i64 z) rfl)⟩;rw[Nat.mul_one]at this;exact this,setRow_below [.int .i64 z] _ _ hb (Nat.le_refl _)⟩,by simp[intOf];omega⟩
    · have:k=n:=by omega
      subst this
      go_wp2
      go_ret
      exact⟨_,rfl,hb,by have:=ho;rw[Hn.out]at this ⊢;exact this.done rfl (by have:=Hn.out;omega) (fun r hr=>by obtain⟨_,rfl⟩:=h r hr;rfl)⟩
set_option maxHeartbeats 3200000 in
theorem toArrayS_c {rows:List (List D)} (h:∀r∈rows,∃x0 x1,r=[x0,x1]∧CopyS Tryz.prog 57 [x0,x1]) (hl:rows.length≤1048576):CopyC Tryz.prog 23 (.list 2 rows):=by
  intro B w v hx
  obtain⟨ad,cap,rfl,_⟩:=hx.slice
  obtain⟨n,hn⟩:∃n,n=rows.length:=⟨_,rfl⟩
  rw[←hn]at hl hx ⊢
  have Hn:=hid hn;clear hn
  have Hx:=hid hx;clear hx
  have hmk:=info_make Tryz.underlying27 Tryz.infoCArray n (by omega) hl
  go_enter Tryz.func23,Tryz.ntmps23
  go_wp2
  go_loopw [4] (fun i wr=>∃k:Nat,k≤n∧i= .int .i64 k∧Grid wr w.heap.size 45 2 n k rows∧Below w.heap.size w wr) (fun i _=>n -(intOf i).toNat)
  case atStart=>exact⟨0,Nat.zero_le _,rfl,Grid.new w 45 2 n _ rows,(Below.refl _ _).alloc (Nat.le_refl _) _⟩
  case round=>
    obtain⟨k,hk,rfl,ho,hb⟩:=hrel
    clear hmk
    by_cases hlt:k<n
    · obtain⟨r,hr⟩:∃r,rows[k]?=some r:=⟨_,List.getElem?_eq_getElem (by rw[←Hn.out];exact hlt)⟩
      obtain⟨x0,x1,rfl,q⟩:=h r (List.mem_of_getElem? hr)
      have hX:=Hx.out.frame (below_sameAll hb _)
      obtain⟨ba,oa,rfl⟩:=hX.ba hr
      obtain⟨u0,c0,d0⟩:=hX.row hr 0 rfl (o:=oa+k *2) (by omega)
      obtain⟨u1,c1,d1⟩:=hX.row hr 1 rfl (o:=oa+k *2+1) (by omega)
      have Hr:=hid hr;clear hr hX
      go_wp2_with fail
      refine(q B _ [u0,u1] rfl (all2 d0 d1)).mono ?_
      rintro e w1 ⟨vs,rfl,b1,hv⟩
      have Hv:=hid hv
      have hv0:=hv.1
      obtain⟨y0,l0,rfl,hv1⟩:=len_cons hv0
      obtain⟨y1,l1,rfl,hv2⟩:=len_cons hv1
      obtain rfl:=len_zero hv2
      have o1:=ho.fwd b1
      have f0:=o1.frozen (k *2)
      obtain⟨z0,e0⟩:=o1.cell (o:=k *2) (by omega)
      have f1:=o1.frozen (k *2+1)
      obtain⟨z1,e1⟩:=o1.cell (o:=k *2+1) (by omega)
      have p0:=fun a m w=>run_store Tryz.prog w a y0 m (hv.2 0 _ _ rfl rfl).one
      have p1:=fun a m w=>run_store Tryz.prog w a y1 m (hv.2 1 _ _ rfl rfl).one
      clear hv hv0 hv1 hv2
      go_wp2_with fail
      exact⟨⟨k+1,by omega,rfl,o1.store (vs:=[y0,y1]) Hr.out hlt rfl (fun r hr=>by obtain⟨_,_,rfl,_⟩:=h r hr;rfl) (Hv.out.mono ho.lt),setRow_below [y0,y1] _ _ (hb.trans (b1.mono hb.size)) (Nat.le_refl _)⟩,by simp[intOf];omega⟩
    · have:k=n:=by omega
      subst this
      go_wp2
      go_ret
      exact⟨_,rfl,hb,by have:=ho;rw[Hn.out]at this ⊢;exact this.done rfl (by have:=Hn.out;omega) (fun r hr=>by obtain⟨_,_,rfl,_⟩:=h r hr;rfl)⟩
set_option maxHeartbeats 3200000 in
theorem toAffineS_c {rows:List (List D)} (h:∀r∈rows,∃x0 x1,r=[x0,x1]∧CopyS Tryz.prog 191 [x0,x1]) (hl:rows.length≤1048576):CopyC Tryz.prog 171 (.list 2 rows):=by
  intro B w v hx
  obtain⟨ad,cap,rfl,_⟩:=hx.slice
  obtain⟨n,hn⟩:∃n,n=rows.length:=⟨_,rfl⟩
  rw[←hn]at hl hx ⊢
  have Hn:=hid hn;clear hn
  have Hx:=hid hx;clear hx
  have hmk:=info_make Tryz.underlying57 Tryz.infoCAffine n (by omega) hl
  go_enter Tryz.func171,Tryz.ntmps171
  go_wp2
  go_loopw [4] (fun i wr=>∃k:Nat,k≤n∧i= .int .i64 k∧Grid wr w.heap.size 61 2 n k rows∧Below w.heap.size w wr) (fun i _=>n -(intOf i).toNat)
  case atStart=>exact⟨0,Nat.zero_le _,rfl,Grid.new w 61 2 n _ rows,(Below.refl _ _).alloc (Nat.le_refl _) _⟩
  case round=>
    obtain⟨k,hk,rfl,ho,hb⟩:=hrel
    clear hmk
    by_cases hlt:k<n
    · obtain⟨r,hr⟩:∃r,rows[k]?=some r:=⟨_,List.getElem?_eq_getElem (by rw[←Hn.out];exact hlt)⟩
      obtain⟨x0,x1,rfl,q⟩:=h r (List.mem_of_getElem? hr)
      have hX:=Hx.out.frame (below_sameAll hb _)
      obtain⟨ba,oa,rfl⟩:=hX.ba hr
      obtain⟨u0,c0,d0⟩:=hX.row hr 0 rfl (o:=oa+k *2) (by omega)
      obtain⟨u1,c1,d1⟩:=hX.row hr 1 rfl (o:=oa+k *2+1) (by omega)
      have Hr:=hid hr;clear hr hX
      go_wp2_with fail
      refine(q B _ [u0,u1] rfl (all2 d0 d1)).mono ?_
      rintro e w1 ⟨vs,rfl,b1,hv⟩
      have Hv:=hid hv
      have hv0:=hv.1
      obtain⟨y0,l0,rfl,hv1⟩:=len_cons hv0
      obtain⟨y1,l1,rfl,hv2⟩:=len_cons hv1
      obtain rfl:=len_zero hv2
      have o1:=ho.fwd b1
      have f0:=o1.frozen (k *2)
      obtain⟨z0,e0⟩:=o1.cell (o:=k *2) (by omega)
      have f1:=o1.frozen (k *2+1)
      obtain⟨z1,e1⟩:=o1.cell (o:=k *2+1) (by omega)
      have p0:=fun a m w=>run_store Tryz.prog w a y0 m (hv.2 0 _ _ rfl rfl).one
      have p1:=fun a m w=>run_store Tryz.prog w a y1 m (hv.2 1 _ _ rfl rfl).one
      clear hv hv0 hv1 hv2
      go_wp2_with fail
      exact⟨⟨k+1,by omega,rfl,o1.store (vs:=[y0,y1]) Hr.out hlt rfl (fun r hr=>by obtain⟨_,_,rfl,_⟩:=h r hr;rfl) (Hv.out.mono ho.lt),setRow_below [y0,y1] _ _ (hb.trans (b1.mono hb.size)) (Nat.le_refl _)⟩,by simp[intOf];omega⟩
    · have:k=n:=by omega
      subst this
      go_wp2
      go_ret
      exact⟨_,rfl,hb,by have:=ho;rw[Hn.out]at this ⊢;exact this.done rfl (by have:=Hn.out;omega) (fun r hr=>by obtain⟨_,_,rfl,_⟩:=h r hr;rfl)⟩
set_option maxHeartbeats 3200000 in
theorem toLoopS_c {rows:List (List D)} (h:∀r∈rows,∃x0 x1,r=[x0,x1]∧CopyS Tryz.prog 140 [x0,x1]) (hl:rows.length≤1048576):CopyC Tryz.prog 100 (.list 2 rows):=by
  intro B w v hx
  obtain⟨ad,cap,rfl,_⟩:=hx.slice
  obtain⟨n,hn⟩:∃n,n=rows.length:=⟨_,rfl⟩
  rw[←hn]at hl hx ⊢
  have Hn:=hid hn;clear hn
  have Hx:=hid hx;clear hx
  have hmk:=info_make Tryz.underlying77 Tryz.infoCLoop n (by omega) hl
  go_enter Tryz.func100,Tryz.ntmps100
  go_wp2
  go_loopw [4] (fun i wr=>∃k:Nat,k≤n∧i= .int .i64 k∧Grid wr w.heap.size 148 2 n k rows∧Below w.heap.size w wr) (fun i _=>n -(intOf i).toNat)
  case atStart=>exact⟨0,Nat.zero_le _,rfl,Grid.new w 148 2 n _ rows,(Below.refl _ _).alloc (Nat.le_refl _) _⟩
  case round=>
    obtain⟨k,hk,rfl,ho,hb⟩:=hrel
    clear hmk
    by_cases hlt:k<n
    · obtain⟨r,hr⟩:∃r,rows[k]?=some r:=⟨_,List.getElem?_eq_getElem (by rw[←Hn.out];exact hlt)⟩
      obtain⟨x0,x1,rfl,q⟩:=h r (List.mem_of_getElem? hr)
      have hX:=Hx.out.frame (below_sameAll hb _)
      obtain⟨ba,oa,rfl⟩:=hX.ba hr
      obtain⟨u0,c0,d0⟩:=hX.row hr 0 rfl (o:=oa+k *2) (by omega)
      obtain⟨u1,c1,d1⟩:=hX.row hr 1 rfl (o:=oa+k *2+1) (by omega)
      have Hr:=hid hr;clear hr hX
      go_wp2_with fail
      refine(q B _ [u0,u1] rfl (all2 d0 d1)).mono ?_
      rintro e w1 ⟨vs,rfl,b1,hv⟩
      have Hv:=hid hv
      have hv0:=hv.1
      obtain⟨y0,l0,rfl,hv1⟩:=len_cons hv0
      obtain⟨y1,l1,rfl,hv2⟩:=len_cons hv1
      obtain rfl:=len_zero hv2
      have o1:=ho.fwd b1
      have f0:=o1.frozen (k *2)
      obtain⟨z0,e0⟩:=o1.cell (o:=k *2) (by omega)
      have f1:=o1.frozen (k *2+1)
      obtain⟨z1,e1⟩:=o1.cell (o:=k *2+1) (by omega)
      have p0:=fun a m w=>run_store Tryz.prog w a y0 m (hv.2 0 _ _ rfl rfl).one
      have p1:=fun a m w=>run_store Tryz.prog w a y1 m (hv.2 1 _ _ rfl rfl).one
      clear hv hv0 hv1 hv2
      go_wp2_with fail
      exact⟨⟨k+1,by omega,rfl,o1.store (vs:=[y0,y1]) Hr.out hlt rfl (fun r hr=>by obtain⟨_,_,rfl,_⟩:=h r hr;rfl) (Hv.out.mono ho.lt),setRow_below [y0,y1] _ _ (hb.trans (b1.mono hb.size)) (Nat.le_refl _)⟩,by simp[intOf];omega⟩
    · have:k=n:=by omega
      subst this
      go_wp2
      go_ret
      exact⟨_,rfl,hb,by have:=ho;rw[Hn.out]at this ⊢;exact this.done rfl (by have:=Hn.out;omega) (fun r hr=>by obtain⟨_,_,rfl,_⟩:=h r hr;rfl)⟩
set_option maxHeartbeats 3200000 in
theorem toExprS_c {rows:List (List D)} (h:∀r∈rows,∃x0 x1 x2 x3 x4 x5 x6,r=[x0,x1,x2,x3,x4,x5,x6]∧CopyS Tryz.prog 173 [x0,x1,x2,x3,x4,x5,x6]) (hl:rows.length≤1048576):CopyC Tryz.prog 192 (.list 7 rows):=by
  intro B w v hx
  obtain⟨ad,cap,rfl,_⟩:=hx.slice
  obtain⟨n,hn⟩:∃n,n=rows.length:=⟨_,rfl⟩
  rw[←hn]at hl hx ⊢
  have Hn:=hid hn;clear hn
  have Hx:=hid hx;clear hx
  have hmk:=info_make Tryz.underlying62 Tryz.infoCExpr n (by omega) hl
  go_enter Tryz.func192,Tryz.ntmps192
  go_wp2
  go_loopw [4] (fun i wr=>∃k:Nat,k≤n∧i= .int .i64 k∧Grid wr w.heap.size 64 7 n k rows∧Below w.heap.size w wr) (fun i _=>n -(intOf i).toNat)
  case atStart=>exact⟨0,Nat.zero_le _,rfl,Grid.new w 64 7 n _ rows,(Below.refl _ _).alloc (Nat.le_refl _) _⟩
  case round=>
    obtain⟨k,hk,rfl,ho,hb⟩:=hrel
    clear hmk
    by_cases hlt:k<n
    · obtain⟨r,hr⟩:∃r,rows[k]?=some r:=⟨_,List.getElem?_eq_getElem (by rw[←Hn.out];exact hlt)⟩
      obtain⟨x0,x1,x2,x3,x4,x5,x6,rfl,q⟩:=h r (List.mem_of_getElem? hr)
      have hX:=Hx.out.frame (below_sameAll hb _)
      obtain⟨ba,oa,rfl⟩:=hX.ba hr
      obtain⟨u0,c0,d0⟩:=hX.row hr 0 rfl (o:=oa+k *7) (by omega)
      obtain⟨u1,c1,d1⟩:=hX.row hr 1 rfl (o:=oa+k *7+1) (by omega)
      obtain⟨u2,c2,d2⟩:=hX.row hr 2 rfl (o:=oa+k *7+2) (by omega)
      obtain⟨u3,c3,d3⟩:=hX.row hr 3 rfl (o:=oa+k *7+3) (by omega)
      obtain⟨u4,c4,d4⟩:=hX.row hr 4 rfl (o:=oa+k *7+4) (by omega)
      obtain⟨u5,c5,d5⟩:=hX.row hr 5 rfl (o:=oa+k *7+5) (by omega)
      obtain⟨u6,c6,d6⟩:=hX.row hr 6 rfl (o:=oa+k *7+6) (by omega)
      have Hr:=hid hr;clear hr hX
      go_wp2_with fail
      refine(q B _ [u0,u1,u2,u3,u4,u5,u6] rfl (all7 d0 d1 d2 d3 d4 d5 d6)).mono ?_
      rintro e w1 ⟨vs,rfl,b1,hv⟩
      have Hv:=hid hv
      have hv0:=hv.1
      obtain⟨y0,l0,rfl,hv1⟩:=len_cons hv0
      obtain⟨y1,l1,rfl,hv2⟩:=len_cons hv1
      obtain⟨y2,l2,rfl,hv3⟩:=len_cons hv2
      obtain⟨y3,l3,rfl,hv4⟩:=len_cons hv3
      obtain⟨y4,l4,rfl,hv5⟩:=len_cons hv4
      obtain⟨y5,l5,rfl,hv6⟩:=len_cons hv5
      obtain⟨y6,l6,rfl,hv7⟩:=len_cons hv6
      obtain rfl:=len_zero hv7
      have o1:=ho.fwd b1
      have f0:=o1.frozen (k *7)
      obtain⟨z0,e0⟩:=o1.cell (o:=k *7) (by omega)
      have f1:=o1.frozen (k *7+1)
      obtain⟨z1,e1⟩:=o1.cell (o:=k *7+1) (by omega)
      have f2:=o1.frozen (k *7+2)
      obtain⟨z2,e2⟩:=o1.cell (o:=k *7+2) (by omega)
      have f3:=o1.frozen (k *7+3)
      obtain⟨z3,e3⟩:=o1.cell (o:=k *7+3) (by omega)
      have f4:=o1.frozen (k *7+4)
      obtain⟨z4,e4⟩:=o1.cell (o:=k *7+4) (by omega)
      have f5:=o1.frozen (k *7+5)
      obtain⟨z5,e5⟩:=o1.cell (o:=k *7+5) (by omega)
      have f6:=o1.frozen (k *7+6)
      obtain⟨z6,e6⟩:=o1.cell (o:=k *7+6) (by omega)
      have p0:=fun a m w=>run_store Tryz.prog w a y0 m (hv.2 0 _ _ rfl rfl).one
      have p1:=fun a m w=>run_store Tryz.prog w a y1 m (hv.2 1 _ _ rfl rfl).one
      have p2:=fun a m w=>run_store Tryz.prog w a y2 m (hv.2 2 _ _ rfl rfl).one
      have p3:=fun a m w=>run_store Tryz.prog w a y3 m (hv.2 3 _ _ rfl rfl).one
      have p4:=fun a m w=>run_store Tryz.prog w a y4 m (hv.2 4 _ _ rfl rfl).one
      have p5:=fun a m w=>run_store Tryz.prog w a y5 m (hv.2 5 _ _ rfl rfl).one
      have p6:=fun a m w=>run_store Tryz.prog w a y6 m (hv.2 6 _ _ rfl rfl).one
      clear hv hv0 hv1 hv2 hv3 hv4 hv5 hv6 hv7
      go_wp2_with fail
      exact⟨⟨k+1,by omega,rfl,o1.store (vs:=[y0,y1,y2,y3,y4,y5,y6]) Hr.out hlt rfl (fun r hr=>by obtain⟨_,_,_,_,_,_,_,rfl,_⟩:=h r hr;rfl) (Hv.out.mono ho.lt),setRow_below [y0,y1,y2,y3,y4,y5,y6] _ _ (hb.trans (b1.mono hb.size)) (Nat.le_refl _)⟩,by simp[intOf];omega⟩
    · have:k=n:=by omega
      subst this
      go_wp2
      go_ret
      exact⟨_,rfl,hb,by have:=ho;rw[Hn.out]at this ⊢;exact this.done rfl (by have:=Hn.out;omega) (fun r hr=>by obtain⟨_,_,_,_,_,_,_,rfl,_⟩:=h r hr;rfl)⟩
set_option maxHeartbeats 3200000 in
theorem toStmtS_c {rows:List (List D)} (h:∀r∈rows,∃x0 x1 x2 x3 x4 x5 x6 x7 x8,r=[x0,x1,x2,x3,x4,x5,x6,x7,x8]∧CopyS Tryz.prog 141 [x0,x1,x2,x3,x4,x5,x6,x7,x8]) (hl:rows.length≤1048576):CopyC Tryz.prog 101 (.list 9 rows):=by
  intro B w v hx
  obtain⟨ad,cap,rfl,_⟩:=hx.slice
  obtain⟨n,hn⟩:∃n,n=rows.length:=⟨_,rfl⟩
  rw[←hn]at hl hx ⊢
  have Hn:=hid hn;clear hn
  have Hx:=hid hx;clear hx
  have hmk:=info_make Tryz.underlying78 Tryz.infoCStmt n (by omega) hl
  go_enter Tryz.func101,Tryz.ntmps101
  go_wp2
  go_loopw [4] (fun i wr=>∃k:Nat,k≤n∧i= .int .i64 k∧Grid wr w.heap.size 66 9 n k rows∧Below w.heap.size w wr) (fun i _=>n -(intOf i).toNat)
  case atStart=>exact⟨0,Nat.zero_le _,rfl,Grid.new w 66 9 n _ rows,(Below.refl _ _).alloc (Nat.le_refl _) _⟩
  case round=>
    obtain⟨k,hk,rfl,ho,hb⟩:=hrel
    clear hmk
    by_cases hlt:k<n
    · obtain⟨r,hr⟩:∃r,rows[k]?=some r:=⟨_,List.getElem?_eq_getElem (by rw[←Hn.out];exact hlt)⟩
      obtain⟨x0,x1,x2,x3,x4,x5,x6,x7,x8,rfl,q⟩:=h r (List.mem_of_getElem? hr)
      have hX:=Hx.out.frame (below_sameAll hb _)
      obtain⟨ba,oa,rfl⟩:=hX.ba hr
      obtain⟨u0,c0,d0⟩:=hX.row hr 0 rfl (o:=oa+k *9) (by omega)
      obtain⟨u1,c1,d1⟩:=hX.row hr 1 rfl (o:=oa+k *9+1) (by omega)
      obtain⟨u2,c2,d2⟩:=hX.row hr 2 rfl (o:=oa+k *9+2) (by omega)
      obtain⟨u3,c3,d3⟩:=hX.row hr 3 rfl (o:=oa+k *9+3) (by omega)
      obtain⟨u4,c4,d4⟩:=hX.row hr 4 rfl (o:=oa+k *9+4) (by omega)
      obtain⟨u5,c5,d5⟩:=hX.row hr 5 rfl (o:=oa+k *9+5) (by omega)
      obtain⟨u6,c6,d6⟩:=hX.row hr 6 rfl (o:=oa+k *9+6) (by omega)
      obtain⟨u7,c7,d7⟩:=hX.row hr 7 rfl (o:=oa+k *9+7) (by omega)
      obtain⟨u8,c8,d8⟩:=hX.row hr 8 rfl (o:=oa+k *9+8) (by omega)
      have Hr:=hid hr;clear hr hX
      go_wp2_with fail
      refine(q B _ [u0,u1,u2,u3,u4,u5,u6,u7,u8] rfl (all9 d0 d1 d2 d3 d4 d5 d6 d7 d8)).mono ?_
      rintro e w1 ⟨vs,rfl,b1,hv⟩
      have Hv:=hid hv
      have hv0:=hv.1
      obtain⟨y0,l0,rfl,hv1⟩:=len_cons hv0
      obtain⟨y1,l1,rfl,hv2⟩:=len_cons hv1
      obtain⟨y2,l2,rfl,hv3⟩:=len_cons hv2
      obtain⟨y3,l3,rfl,hv4⟩:=len_cons hv3
      obtain⟨y4,l4,rfl,hv5⟩:=len_cons hv4
      obtain⟨y5,l5,rfl,hv6⟩:=len_cons hv5
      obtain⟨y6,l6,rfl,hv7⟩:=len_cons hv6
      obtain⟨y7,l7,rfl,hv8⟩:=len_cons hv7
      obtain⟨y8,l8,rfl,hv9⟩:=len_cons hv8
      obtain rfl:=len_zero hv9
      have o1:=ho.fwd b1
      have f0:=o1.frozen (k *9)
      obtain⟨z0,e0⟩:=o1.cell (o:=k *9) (by omega)
      have f1:=o1.frozen (k *9+1)
      obtain⟨z1,e1⟩:=o1.cell (o:=k *9+1) (by omega)
      have f2:=o1.frozen (k *9+2)
      obtain⟨z2,e2⟩:=o1.cell (o:=k *9+2) (by omega)
      have f3:=o1.frozen (k *9+3)
      obtain⟨z3,e3⟩:=o1.cell (o:=k *9+3) (by omega)
      have f4:=o1.frozen (k *9+4)
      obtain⟨z4,e4⟩:=o1.cell (o:=k *9+4) (by omega)
      have f5:=o1.frozen (k *9+5)
      obtain⟨z5,e5⟩:=o1.cell (o:=k *9+5) (by omega)
      have f6:=o1.frozen (k *9+6)
      obtain⟨z6,e6⟩:=o1.cell (o:=k *9+6) (by omega)
      have f7:=o1.frozen (k *9+7)
      obtain⟨z7,e7⟩:=o1.cell (o:=k *9+7) (by omega)
      have f8:=o1.frozen (k *9+8)
      obtain⟨z8,e8⟩:=o1.cell (o:=k *9+8) (by omega)
      have p0:=fun a m w=>run_store Tryz.prog w a y0 m (hv.2 0 _ _ rfl rfl).one
      have p1:=fun a m w=>run_store Tryz.prog w a y1 m (hv.2 1 _ _ rfl rfl).one
      have p2:=fun a m w=>run_store Tryz.prog w a y2 m (hv.2 2 _ _ rfl rfl).one
      have p3:=fun a m w=>run_store Tryz.prog w a y3 m (hv.2 3 _ _ rfl rfl).one
      have p4:=fun a m w=>run_store Tryz.prog w a y4 m (hv.2 4 _ _ rfl rfl).one
      have p5:=fun a m w=>run_store Tryz.prog w a y5 m (hv.2 5 _ _ rfl rfl).one
      have p6:=fun a m w=>run_store Tryz.prog w a y6 m (hv.2 6 _ _ rfl rfl).one
      have p7:=fun a m w=>run_store Tryz.prog w a y7 m (hv.2 7 _ _ rfl rfl).one
      have p8:=fun a m w=>run_store Tryz.prog w a y8 m (hv.2 8 _ _ rfl rfl).one
      clear hv hv0 hv1 hv2 hv3 hv4 hv5 hv6 hv7 hv8 hv9
      go_wp2_with fail
      exact⟨⟨k+1,by omega,rfl,o1.store (vs:=[y0,y1,y2,y3,y4,y5,y6,y7,y8]) Hr.out hlt rfl (fun r hr=>by obtain⟨_,_,_,_,_,_,_,_,_,rfl,_⟩:=h r hr;rfl) (Hv.out.mono ho.lt),setRow_below [y0,y1,y2,y3,y4,y5,y6,y7,y8] _ _ (hb.trans (b1.mono hb.size)) (Nat.le_refl _)⟩,by simp[intOf];omega⟩
    · have:k=n:=by omega
      subst this
      go_wp2
      go_ret
      exact⟨_,rfl,hb,by have:=ho;rw[Hn.out]at this ⊢;exact this.done rfl (by have:=Hn.out;omega) (fun r hr=>by obtain⟨_,_,_,_,_,_,_,_,_,rfl,_⟩:=h r hr;rfl)⟩
set_option maxHeartbeats 3200000 in
theorem toPartS_c {rows:List (List D)} (h:∀r∈rows,∃x0 x1,r=[x0,x1]∧CopyS Tryz.prog 58 [x0,x1]) (hl:rows.length≤1048576):CopyC Tryz.prog 24 (.list 2 rows):=by
  intro B w v hx
  obtain⟨ad,cap,rfl,_⟩:=hx.slice
  obtain⟨n,hn⟩:∃n,n=rows.length:=⟨_,rfl⟩
  rw[←hn]at hl hx ⊢
  have Hn:=hid hn;clear hn
  have Hx:=hid hx;clear hx
  have hmk:=info_make Tryz.underlying28 Tryz.infoCPart n (by omega) hl
  go_enter Tryz.func24,Tryz.ntmps24
  go_wp2
  go_loopw [4] (fun i wr=>∃k:Nat,k≤n∧i= .int .i64 k∧Grid wr w.heap.size 80 2 n k rows∧Below w.heap.size w wr) (fun i _=>n -(intOf i).toNat)
  case atStart=>exact⟨0,Nat.zero_le _,rfl,Grid.new w 80 2 n _ rows,(Below.refl _ _).alloc (Nat.le_refl _) _⟩
  case round=>
    obtain⟨k,hk,rfl,ho,hb⟩:=hrel
    clear hmk
    by_cases hlt:k<n
    · obtain⟨r,hr⟩:∃r,rows[k]?=some r:=⟨_,List.getElem?_eq_getElem (by rw[←Hn.out];exact hlt)⟩
      obtain⟨x0,x1,rfl,q⟩:=h r (List.mem_of_getElem? hr)
      have hX:=Hx.out.frame (below_sameAll hb _)
      obtain⟨ba,oa,rfl⟩:=hX.ba hr
      obtain⟨u0,c0,d0⟩:=hX.row hr 0 rfl (o:=oa+k *2) (by omega)
      obtain⟨u1,c1,d1⟩:=hX.row hr 1 rfl (o:=oa+k *2+1) (by omega)
      have Hr:=hid hr;clear hr hX
      go_wp2_with fail
      refine(q B _ [u0,u1] rfl (all2 d0 d1)).mono ?_
      rintro e w1 ⟨vs,rfl,b1,hv⟩
      have Hv:=hid hv
      have hv0:=hv.1
      obtain⟨y0,l0,rfl,hv1⟩:=len_cons hv0
      obtain⟨y1,l1,rfl,hv2⟩:=len_cons hv1
      obtain rfl:=len_zero hv2
      have o1:=ho.fwd b1
      have f0:=o1.frozen (k *2)
      obtain⟨z0,e0⟩:=o1.cell (o:=k *2) (by omega)
      have f1:=o1.frozen (k *2+1)
      obtain⟨z1,e1⟩:=o1.cell (o:=k *2+1) (by omega)
      have p0:=fun a m w=>run_store Tryz.prog w a y0 m (hv.2 0 _ _ rfl rfl).one
      have p1:=fun a m w=>run_store Tryz.prog w a y1 m (hv.2 1 _ _ rfl rfl).one
      clear hv hv0 hv1 hv2
      go_wp2_with fail
      exact⟨⟨k+1,by omega,rfl,o1.store (vs:=[y0,y1]) Hr.out hlt rfl (fun r hr=>by obtain⟨_,_,rfl,_⟩:=h r hr;rfl) (Hv.out.mono ho.lt),setRow_below [y0,y1] _ _ (hb.trans (b1.mono hb.size)) (Nat.le_refl _)⟩,by simp[intOf];omega⟩
    · have:k=n:=by omega
      subst this
      go_wp2
      go_ret
      exact⟨_,rfl,hb,by have:=ho;rw[Hn.out]at this ⊢;exact this.done rfl (by have:=Hn.out;omega) (fun r hr=>by obtain⟨_,_,rfl,_⟩:=h r hr;rfl)⟩
set_option maxHeartbeats 3200000 in
theorem toArray_c {c0:ByteArray} {sz1:Nat} {x1:List (List D)} (q1:CopyC Tryz.prog 99 (.list sz1 x1)):CopyS Tryz.prog 57 [.val (.string c0),.list sz1 x1]:=by
  intro B w vs hl hx
  obtain⟨u0,l0,rfl,hl0⟩:=len_cons hl
  obtain⟨u1,l1,rfl,hl1⟩:=len_cons hl0
  obtain rfl:=len_zero hl1
  have d0:=hx 0 _ _ rfl rfl
  obtain rfl:u0= .string c0:=by cases d0;rfl
  clear d0
  have D1:=hid (hx 1 _ _ rfl rfl)
  clear hx hl hl0 hl1
  have R:=R3.start w [.string c0,u1] [.string ⟨#[]⟩,.slice none 0 0] [.string c0,.slice none 0 0] 94 45
  have W:=(((Below.refl w.heap.size w).alloc (Nat.le_refl _) (.cells [.string c0,u1].toArray 94)).alloc (by simp) (.cells [.string ⟨#[]⟩,.slice none 0 0].toArray 45)).alloc (by simp;omega) (.cells [.string c0,.slice none 0 0].toArray 45)
  have HR:=hid R;have HW:=hid W;clear R W
  go_enter Tryz.func57,Tryz.ntmps57
  go_wp2_with fail
  refine(q1 B _ _ (D1.out.frame (below_sameAll HW.out _))).mono ?_
  rintro e w1 ⟨y1,rfl,b1,n1⟩
  obtain⟨ad1,cap1,rfl,_⟩:=n1.dr.slice
  obtain⟨ln1,hln1⟩:∃n,n=x1.length:=⟨_,rfl⟩
  rw[←hln1]at n1 ⊢;clear hln1
  have lo1:w.heap.size+1+1+1≤_:=blk_lt HR.out.c
  have n1:=n1.mono lo1
  have N1:=hid n1;clear n1
  have RR1:=(HR.out).fwd b1
  have WW1:=(HW.out).trans (b1.mono (HW.out).size)
  have HRR1:=hid RR1;have HWW1:=hid WW1;clear RR1 WW1 lo1
  have b1_0:=HRR1.out.c3 0 rfl
  have g1_0:=HRR1.out.f3 0
  have e1_0:=HRR1.out.c2 0 rfl
  have h1_0:=HRR1.out.f2 0
  have b1_1:=HRR1.out.c3 1 rfl
  have g1_1:=HRR1.out.f3 1
  have e1_1:=HRR1.out.c2 1 rfl
  have h1_1:=HRR1.out.f2 1
  go_wp2_with fail
  have R1:R3 _ w.heap.size [.string c0,u1] [.string ⟨#[]⟩,.slice none 0 0] [.string c0,.slice ad1 ln1 cap1] 94 45:=(HRR1.out).set 1 (.slice ad1 ln1 cap1)
  have W1:=(HWW1.out).setCell (p:=⟨w.heap.size+1+1,1,none⟩) (by show w.heap.size≤w.heap.size+1+1;omega) (.slice ad1 ln1 cap1)
  have HR1:=hid R1;have HW1:=hid W1;clear R1 W1
  have P1_0:=(Past.refl (w.heap.size+1+1+1) w1).set (b:=w.heap.size+1+1) (by omega) 1 (.slice ad1 ln1 cap1)
  have RB0:R3 _ w.heap.size [.string c0,u1] [.string c0,.slice none 0 0] [.string c0,.slice ad1 ln1 cap1] 94 45:=(HR1.out).setb 0 (.string c0)
  have RB1:R3 _ w.heap.size [.string c0,u1] [.string c0,.slice ad1 ln1 cap1] [.string c0,.slice ad1 ln1 cap1] 94 45:=RB0.setb 1 (.slice ad1 ln1 cap1)
  have pp0:=RB1.c2 0 rfl
  have pp1:=RB1.c2 1 rfl
  refine bodyPost_ret (v:=.agg #[.string c0,.slice ad1 ln1 cap1]) (by simp[results,Tryz.results57,go_sem,pp0,pp1]) rfl ?_
  have Z:=setRow_below (g:=w.heap.size+1) [.string c0,.slice ad1 ln1 cap1] 0 _ (HW1.out) (by omega)
  have Y0:=((P1_0.set (b:=w.heap.size+1) (by omega) 0 (.string c0)).set (b:=w.heap.size+1) (by omega) 1 (.slice ad1 ln1 cap1))
  exact⟨[.string c0,.slice ad1 ln1 cap1],rfl,Z,rfl,all2 (DrN.val (.string c0) rfl) ((N1.out.past (Nat.le_refl _) Y0).mono (by omega))⟩
set_option maxHeartbeats 3200000 in
theorem toAffine_c {sz0:Nat} {x0:List (List D)} (q0:CopyC Tryz.prog 99 (.list sz0 x0)) {c1:Int}:CopyS Tryz.prog 191 [.list sz0 x0,.val (.int .i64 c1)]:=by
  intro B w vs hl hx
  obtain⟨u0,l0,rfl,hl0⟩:=len_cons hl
  obtain⟨u1,l1,rfl,hl1⟩:=len_cons hl0
  obtain rfl:=len_zero hl1
  have D0:=hid (hx 0 _ _ rfl rfl)
  have d1:=hx 1 _ _ rfl rfl
  obtain rfl:u1= .int .i64 c1:=by cases d1;rfl
  clear d1
  clear hx hl hl0 hl1
  have R:=R3.start w [u0,.int .i64 c1] [.slice none 0 0,.int .i64 0] [.slice none 0 0,.int .i64 0] 182 61
  have W:=(((Below.refl w.heap.size w).alloc (Nat.le_refl _) (.cells [u0,.int .i64 c1].toArray 182)).alloc (by simp) (.cells [.slice none 0 0,.int .i64 0].toArray 61)).alloc (by simp;omega) (.cells [.slice none 0 0,.int .i64 0].toArray 61)
  have HR:=hid R;have HW:=hid W;clear R W
  go_enter Tryz.func191,Tryz.ntmps191
  go_wp2_with fail
  refine(q0 B _ _ (D0.out.frame (below_sameAll HW.out _))).mono ?_
  rintro e w1 ⟨y0,rfl,b1,n0⟩
  obtain⟨ad0,cap0,rfl,_⟩:=n0.dr.slice
  obtain⟨ln0,hln0⟩:∃n,n=x0.length:=⟨_,rfl⟩
  rw[←hln0]at n0 ⊢;clear hln0
  have lo1:w.heap.size+1+1+1≤_:=blk_lt HR.out.c
  have n0:=n0.mono lo1
  have N0:=hid n0;clear n0
  have RR1:=(HR.out).fwd b1
  have WW1:=(HW.out).trans (b1.mono (HW.out).size)
  have HRR1:=hid RR1;have HWW1:=hid WW1;clear RR1 WW1 lo1
  have a1_1:=HRR1.out.c1 1 rfl
  have b1_0:=HRR1.out.c3 0 rfl
  have g1_0:=HRR1.out.f3 0
  have e1_0:=HRR1.out.c2 0 rfl
  have h1_0:=HRR1.out.f2 0
  have b1_1:=HRR1.out.c3 1 rfl
  have g1_1:=HRR1.out.f3 1
  have e1_1:=HRR1.out.c2 1 rfl
  have h1_1:=HRR1.out.f2 1
  go_wp2_with fail
  have R1:R3 _ w.heap.size [u0,.int .i64 c1] [.slice none 0 0,.int .i64 0] [.slice ad0 ln0 cap0,.int .i64 0] 182 61:=(HRR1.out).set 0 (.slice ad0 ln0 cap0)
  have W1:=(HWW1.out).setCell (p:=⟨w.heap.size+1+1,0,none⟩) (by show w.heap.size≤w.heap.size+1+1;omega) (.slice ad0 ln0 cap0)
  have HR1:=hid R1;have HW1:=hid W1;clear R1 W1
  have P1_0:=(Past.refl (w.heap.size+1+1+1) w1).set (b:=w.heap.size+1+1) (by omega) 0 (.slice ad0 ln0 cap0)
  have R2:R3 _ w.heap.size [u0,.int .i64 c1] [.slice none 0 0,.int .i64 0] [.slice ad0 ln0 cap0,.int .i64 c1] 182 61:=(HR1.out).set 1 (.int .i64 c1)
  have W2:=(HW1.out).setCell (p:=⟨w.heap.size+1+1,1,none⟩) (by show w.heap.size≤w.heap.size+1+1;omega) (.int .i64 c1)
  have HR2:=hid R2;have HW2:=hid W2;clear R2 W2
  have P2_0:=P1_0.set (b:=w.heap.size+1+1) (by omega) 1 (.int .i64 c1)
  have RB0:R3 _ w.heap.size [u0,.int .i64 c1] [.slice ad0 ln0 cap0,.int .i64 0] [.slice ad0 ln0 cap0,.int .i64 c1] 182 61:=(HR2.out).setb 0 (.slice ad0 ln0 cap0)
  have RB1:R3 _ w.heap.size [u0,.int .i64 c1] [.slice ad0 ln0 cap0,.int .i64 c1] [.slice ad0 ln0 cap0,.int .i64 c1] 182 61:=RB0.setb 1 (.int .i64 c1)
  have pp0:=RB1.c2 0 rfl
  have pp1:=RB1.c2 1 rfl
  refine bodyPost_ret (v:=.agg #[.slice ad0 ln0 cap0,.int .i64 c1]) (by simp[results,Tryz.results191,go_sem,pp0,pp1]) rfl ?_
  have Z:=setRow_below (g:=w.heap.size+1) [.slice ad0 ln0 cap0,.int .i64 c1] 0 _ (HW2.out) (by omega)
  have Y0:=((P2_0.set (b:=w.heap.size+1) (by omega) 0 (.slice ad0 ln0 cap0)).set (b:=w.heap.size+1) (by omega) 1 (.int .i64 c1))
  exact⟨[.slice ad0 ln0 cap0,.int .i64 c1],rfl,Z,rfl,all2 ((N0.out.past (Nat.le_refl _) Y0).mono (by omega)) (DrN.val (.int .i64 c1) rfl)⟩
set_option maxHeartbeats 3200000 in
theorem toLoop_c {sz0:Nat} {x0:List (List D)} (q0:CopyC Tryz.prog 171 (.list sz0 x0)) {sz1:Nat} {x1:List (List D)} (q1:CopyC Tryz.prog 171 (.list sz1 x1)):CopyS Tryz.prog 140 [.list sz0 x0,.list sz1 x1]:=by
  intro B w vs hl hx
  obtain⟨u0,l0,rfl,hl0⟩:=len_cons hl
  obtain⟨u1,l1,rfl,hl1⟩:=len_cons hl0
  obtain rfl:=len_zero hl1
  have D0:=hid (hx 0 _ _ rfl rfl)
  have D1:=hid (hx 1 _ _ rfl rfl)
  clear hx hl hl0 hl1
  have R:=R3.start w [u0,u1] [.slice none 0 0,.slice none 0 0] [.slice none 0 0,.slice none 0 0] 178 148
  have W:=(((Below.refl w.heap.size w).alloc (Nat.le_refl _) (.cells [u0,u1].toArray 178)).alloc (by simp) (.cells [.slice none 0 0,.slice none 0 0].toArray 148)).alloc (by simp;omega) (.cells [.slice none 0 0,.slice none 0 0].toArray 148)
  have HR:=hid R;have HW:=hid W;clear R W
  go_enter Tryz.func140,Tryz.ntmps140
  go_wp2_with fail
  refine(q0 B _ _ (D0.out.frame (below_sameAll HW.out _))).mono ?_
  rintro e w1 ⟨y0,rfl,b1,n0⟩
  obtain⟨ad0,cap0,rfl,_⟩:=n0.dr.slice
  obtain⟨ln0,hln0⟩:∃n,n=x0.length:=⟨_,rfl⟩
  rw[←hln0]at n0 ⊢;clear hln0
  have lo1:w.heap.size+1+1+1≤_:=blk_lt HR.out.c
  have n0:=n0.mono lo1
  have N0:=hid n0;clear n0
  have RR1:=(HR.out).fwd b1
  have WW1:=(HW.out).trans (b1.mono (HW.out).size)
  have HRR1:=hid RR1;have HWW1:=hid WW1;clear RR1 WW1 lo1
  have a1_1:=HRR1.out.c1 1 rfl
  have b1_0:=HRR1.out.c3 0 rfl
  have g1_0:=HRR1.out.f3 0
  have b1_1:=HRR1.out.c3 1 rfl
  have g1_1:=HRR1.out.f3 1
  go_wp2_with fail
  clear a1_1 b1_0 b1_1 g1_0 g1_1
  have R1:R3 _ w.heap.size [u0,u1] [.slice none 0 0,.slice none 0 0] [.slice ad0 ln0 cap0,.slice none 0 0] 178 148:=(HRR1.out).set 0 (.slice ad0 ln0 cap0)
  have W1:=(HWW1.out).setCell (p:=⟨w.heap.size+1+1,0,none⟩) (by show w.heap.size≤w.heap.size+1+1;omega) (.slice ad0 ln0 cap0)
  have HR1:=hid R1;have HW1:=hid W1;clear R1 W1
  have P1_0:=(Past.refl (w.heap.size+1+1+1) w1).set (b:=w.heap.size+1+1) (by omega) 0 (.slice ad0 ln0 cap0)
  refine(q1 B _ _ (D1.out.frame (below_sameAll HW1.out _))).mono ?_
  rintro e w2 ⟨y1,rfl,b2,n1⟩
  obtain⟨ad1,cap1,rfl,_⟩:=n1.dr.slice
  obtain⟨ln1,hln1⟩:∃n,n=x1.length:=⟨_,rfl⟩
  rw[←hln1]at n1 ⊢;clear hln1
  have lo2:w.heap.size+1+1+1≤_:=blk_lt HR1.out.c
  have n1:=n1.mono lo2
  have N1:=hid n1;clear n1
  have F2_0:=P1_0.fwd b2
  have RR2:=(HR1.out).fwd b2
  have WW2:=(HW1.out).trans (b2.mono (HW1.out).size)
  have HRR2:=hid RR2;have HWW2:=hid WW2;clear RR2 WW2 lo2
  have b2_0:=HRR2.out.c3 0 rfl
  have g2_0:=HRR2.out.f3 0
  have e2_0:=HRR2.out.c2 0 rfl
  have h2_0:=HRR2.out.f2 0
  have b2_1:=HRR2.out.c3 1 rfl
  have g2_1:=HRR2.out.f3 1
  have e2_1:=HRR2.out.c2 1 rfl
  have h2_1:=HRR2.out.f2 1
  go_wp2_with fail
  have R2:R3 _ w.heap.size [u0,u1] [.slice none 0 0,.slice none 0 0] [.slice ad0 ln0 cap0,.slice ad1 ln1 cap1] 178 148:=(HRR2.out).set 1 (.slice ad1 ln1 cap1)
  have W2:=(HWW2.out).setCell (p:=⟨w.heap.size+1+1,1,none⟩) (by show w.heap.size≤w.heap.size+1+1;omega) (.slice ad1 ln1 cap1)
  have HR2:=hid R2;have HW2:=hid W2;clear R2 W2
  have P2_0:=F2_0.set (b:=w.heap.size+1+1) (by omega) 1 (.slice ad1 ln1 cap1)
  have P2_1:=(Past.refl (w.heap.size+1+1+1) w2).set (b:=w.heap.size+1+1) (by omega) 1 (.slice ad1 ln1 cap1)
  have RB0:R3 _ w.heap.size [u0,u1] [.slice ad0 ln0 cap0,.slice none 0 0] [.slice ad0 ln0 cap0,.slice ad1 ln1 cap1] 178 148:=(HR2.out).setb 0 (.slice ad0 ln0 cap0)
  have RB1:R3 _ w.heap.size [u0,u1] [.slice ad0 ln0 cap0,.slice ad1 ln1 cap1] [.slice ad0 ln0 cap0,.slice ad1 ln1 cap1] 178 148:=RB0.setb 1 (.slice ad1 ln1 cap1)
  have pp0:=RB1.c2 0 rfl
  have pp1:=RB1.c2 1 rfl
  refine bodyPost_ret (v:=.agg #[.slice ad0 ln0 cap0,.slice ad1 ln1 cap1]) (by simp[results,Tryz.results140,go_sem,pp0,pp1]) rfl ?_
  have Z:=setRow_below (g:=w.heap.size+1) [.slice ad0 ln0 cap0,.slice ad1 ln1 cap1] 0 _ (HW2.out) (by omega)
  have Y0:=((P2_0.set (b:=w.heap.size+1) (by omega) 0 (.slice ad0 ln0 cap0)).set (b:=w.heap.size+1) (by omega) 1 (.slice ad1 ln1 cap1))
  have Y1:=((P2_1.set (b:=w.heap.size+1) (by omega) 0 (.slice ad0 ln0 cap0)).set (b:=w.heap.size+1) (by omega) 1 (.slice ad1 ln1 cap1))
  exact⟨[.slice ad0 ln0 cap0,.slice ad1 ln1 cap1],rfl,Z,rfl,all2 ((N0.out.past (Nat.le_refl _) Y0).mono (by omega)) ((N1.out.past (Nat.le_refl _) Y1).mono (by omega))⟩
set_option maxHeartbeats 3200000 in
theorem toAccess_c {c0:ByteArray} {sz1:Nat} {x1:List (List D)} (q1:CopyC Tryz.prog 171 (.list sz1 x1)):CopyS Tryz.prog 172 [.val (.string c0),.list sz1 x1]:=by
  intro B w vs hl hx
  obtain⟨u0,l0,rfl,hl0⟩:=len_cons hl
  obtain⟨u1,l1,rfl,hl1⟩:=len_cons hl0
  obtain rfl:=len_zero hl1
  have d0:=hx 0 _ _ rfl rfl
  obtain rfl:u0= .string c0:=by cases d0;rfl
  clear d0
  have D1:=hid (hx 1 _ _ rfl rfl)
  clear hx hl hl0 hl1
  have R:=R3.start w [.string c0,u1] [.string ⟨#[]⟩,.slice none 0 0] [.string c0,.slice none 0 0] 181 59
  have W:=(((Below.refl w.heap.size w).alloc (Nat.le_refl _) (.cells [.string c0,u1].toArray 181)).alloc (by simp) (.cells [.string ⟨#[]⟩,.slice none 0 0].toArray 59)).alloc (by simp;omega) (.cells [.string c0,.slice none 0 0].toArray 59)
  have HR:=hid R;have HW:=hid W;clear R W
  go_enter Tryz.func172,Tryz.ntmps172
  go_wp2_with fail
  refine(q1 B _ _ (D1.out.frame (below_sameAll HW.out _))).mono ?_
  rintro e w1 ⟨y1,rfl,b1,n1⟩
  obtain⟨ad1,cap1,rfl,_⟩:=n1.dr.slice
  obtain⟨ln1,hln1⟩:∃n,n=x1.length:=⟨_,rfl⟩
  rw[←hln1]at n1 ⊢;clear hln1
  have lo1:w.heap.size+1+1+1≤_:=blk_lt HR.out.c
  have n1:=n1.mono lo1
  have N1:=hid n1;clear n1
  have RR1:=(HR.out).fwd b1
  have WW1:=(HW.out).trans (b1.mono (HW.out).size)
  have HRR1:=hid RR1;have HWW1:=hid WW1;clear RR1 WW1 lo1
  have b1_0:=HRR1.out.c3 0 rfl
  have g1_0:=HRR1.out.f3 0
  have e1_0:=HRR1.out.c2 0 rfl
  have h1_0:=HRR1.out.f2 0
  have b1_1:=HRR1.out.c3 1 rfl
  have g1_1:=HRR1.out.f3 1
  have e1_1:=HRR1.out.c2 1 rfl
  have h1_1:=HRR1.out.f2 1
  go_wp2_with fail
  have R1:R3 _ w.heap.size [.string c0,u1] [.string ⟨#[]⟩,.slice none 0 0] [.string c0,.slice ad1 ln1 cap1] 181 59:=(HRR1.out).set 1 (.slice ad1 ln1 cap1)
  have W1:=(HWW1.out).setCell (p:=⟨w.heap.size+1+1,1,none⟩) (by show w.heap.size≤w.heap.size+1+1;omega) (.slice ad1 ln1 cap1)
  have HR1:=hid R1;have HW1:=hid W1;clear R1 W1
  have P1_0:=(Past.refl (w.heap.size+1+1+1) w1).set (b:=w.heap.size+1+1) (by omega) 1 (.slice ad1 ln1 cap1)
  have RB0:R3 _ w.heap.size [.string c0,u1] [.string c0,.slice none 0 0] [.string c0,.slice ad1 ln1 cap1] 181 59:=(HR1.out).setb 0 (.string c0)
  have RB1:R3 _ w.heap.size [.string c0,u1] [.string c0,.slice ad1 ln1 cap1] [.string c0,.slice ad1 ln1 cap1] 181 59:=RB0.setb 1 (.slice ad1 ln1 cap1)
  have pp0:=RB1.c2 0 rfl
  have pp1:=RB1.c2 1 rfl
  refine bodyPost_ret (v:=.agg #[.string c0,.slice ad1 ln1 cap1]) (by simp[results,Tryz.results172,go_sem,pp0,pp1]) rfl ?_
  have Z:=setRow_below (g:=w.heap.size+1) [.string c0,.slice ad1 ln1 cap1] 0 _ (HW1.out) (by omega)
  have Y0:=((P1_0.set (b:=w.heap.size+1) (by omega) 0 (.string c0)).set (b:=w.heap.size+1) (by omega) 1 (.slice ad1 ln1 cap1))
  exact⟨[.string c0,.slice ad1 ln1 cap1],rfl,Z,rfl,all2 (DrN.val (.string c0) rfl) ((N1.out.past (Nat.le_refl _) Y0).mono (by omega))⟩
set_option maxHeartbeats 3200000 in
theorem toExpr_c {c0:Int} {c1:Int} {x2 x3:D} (q2:CopyS Tryz.prog 191 [x2,x3]) {x4 x5:D} (q4:CopyS Tryz.prog 172 [x4,x5]) {sz6:Nat} {x6:List (List D)} (q6:CopyC Tryz.prog 192 (.list sz6 x6)):CopyS Tryz.prog 173 [.val (.int .i64 c0),.val (.int .i64 c1),x2,x3,x4,x5,.list sz6 x6]:=by
  intro B w vs hl hx
  obtain⟨u0,l0,rfl,hl0⟩:=len_cons hl
  obtain⟨u1,l1,rfl,hl1⟩:=len_cons hl0
  obtain⟨u2,l2,rfl,hl2⟩:=len_cons hl1
  obtain⟨u3,l3,rfl,hl3⟩:=len_cons hl2
  obtain⟨u4,l4,rfl,hl4⟩:=len_cons hl3
  obtain⟨u5,l5,rfl,hl5⟩:=len_cons hl4
  obtain⟨u6,l6,rfl,hl6⟩:=len_cons hl5
  obtain rfl:=len_zero hl6
  have d0:=hx 0 _ _ rfl rfl
  obtain rfl:u0= .int .i64 c0:=by cases d0;rfl
  clear d0
  have d1:=hx 1 _ _ rfl rfl
  obtain rfl:u1= .int .i64 c1:=by cases d1;rfl
  clear d1
  have D2:=hid (hx 2 _ _ rfl rfl)
  have D3:=hid (hx 3 _ _ rfl rfl)
  have D4:=hid (hx 4 _ _ rfl rfl)
  have D5:=hid (hx 5 _ _ rfl rfl)
  have D6:=hid (hx 6 _ _ rfl rfl)
  clear hx hl hl0 hl1 hl2 hl3 hl4 hl5 hl6
  have R:=R3.start w [.int .i64 c0,.int .i64 c1,u2,u3,u4,u5,u6] [.int .i64 0,.int .i64 0,.slice none 0 0,.int .i64 0,.string ⟨#[]⟩,.slice none 0 0,.slice none 0 0] [.int .i64 c0,.int .i64 c1,.slice none 0 0,.int .i64 0,.string ⟨#[]⟩,.slice none 0 0,.slice none 0 0] 185 64
  have W:=(((Below.refl w.heap.size w).alloc (Nat.le_refl _) (.cells [.int .i64 c0,.int .i64 c1,u2,u3,u4,u5,u6].toArray 185)).alloc (by simp) (.cells [.int .i64 0,.int .i64 0,.slice none 0 0,.int .i64 0,.string ⟨#[]⟩,.slice none 0 0,.slice none 0 0].toArray 64)).alloc (by simp;omega) (.cells [.int .i64 c0,.int .i64 c1,.slice none 0 0,.int .i64 0,.string ⟨#[]⟩,.slice none 0 0,.slice none 0 0].toArray 64)
  have HR:=hid R;have HW:=hid W;clear R W
  go_enter Tryz.func173,Tryz.ntmps173
  go_wp2_with fail
  refine(q2 B _ [u2,u3] rfl (all2 (D2.out.frame (below_sameAll HW.out _)) (D3.out.frame (below_sameAll HW.out _)))).mono ?_
  rintro e w1 ⟨vs,rfl,b1,hv⟩
  have hv0:=hv.1
  obtain⟨y2,l0,rfl,hv1⟩:=len_cons hv0
  obtain⟨y3,l1,rfl,hv2⟩:=len_cons hv1
  obtain rfl:=len_zero hv2
  have n2:=hv.2 0 _ _ rfl rfl
  have s2:=fun a m w=>run_store Tryz.prog w a y2 m n2.one
  have n3:=hv.2 1 _ _ rfl rfl
  have s3:=fun a m w=>run_store Tryz.prog w a y3 m n3.one
  clear hv hv0 hv1 hv2
  have lo1:w.heap.size+1+1+1≤_:=blk_lt HR.out.c
  have n2:=n2.mono lo1
  have n3:=n3.mono lo1
  have N2:=hid n2;clear n2;have N3:=hid n3;clear n3
  have RR1:=(HR.out).fwd b1
  have WW1:=(HW.out).trans (b1.mono (HW.out).size)
  have HRR1:=hid RR1;have HWW1:=hid WW1;clear RR1 WW1 lo1
  have a1_4:=HRR1.out.c1 4 rfl
  have a1_5:=HRR1.out.c1 5 rfl
  have b1_0:=HRR1.out.c3 0 rfl
  have g1_0:=HRR1.out.f3 0
  have b1_1:=HRR1.out.c3 1 rfl
  have g1_1:=HRR1.out.f3 1
  have b1_2:=HRR1.out.c3 2 rfl
  have g1_2:=HRR1.out.f3 2
  have b1_3:=HRR1.out.c3 3 rfl
  have g1_3:=HRR1.out.f3 3
  have b1_4:=HRR1.out.c3 4 rfl
  have g1_4:=HRR1.out.f3 4
  have b1_5:=HRR1.out.c3 5 rfl
  have g1_5:=HRR1.out.f3 5
  have b1_6:=HRR1.out.c3 6 rfl
  have g1_6:=HRR1.out.f3 6
  go_wp2_with fail
  clear a1_4 a1_5 b1_0 b1_1 b1_2 b1_3 b1_4 b1_5 b1_6 g1_0 g1_1 g1_2 g1_3 g1_4 g1_5 g1_6
  have R1:R3 _ w.heap.size [.int .i64 c0,.int .i64 c1,u2,u3,u4,u5,u6] [.int .i64 0,.int .i64 0,.slice none 0 0,.int .i64 0,.string ⟨#[]⟩,.slice none 0 0,.slice none 0 0] [.int .i64 c0,.int .i64 c1,y2,.int .i64 0,.string ⟨#[]⟩,.slice none 0 0,.slice none 0 0] 185 64:=(HRR1.out).set 2 (y2)
  have W1:=(HWW1.out).setCell (p:=⟨w.heap.size+1+1,2,none⟩) (by show w.heap.size≤w.heap.size+1+1;omega) (y2)
  have HR1:=hid R1;have HW1:=hid W1;clear R1 W1
  have P1_0:=(Past.refl (w.heap.size+1+1+1) w1).set (b:=w.heap.size+1+1) (by omega) 2 (y2)
  have R2:R3 _ w.heap.size [.int .i64 c0,.int .i64 c1,u2,u3,u4,u5,u6] [.int .i64 0,.int .i64 0,.slice none 0 0,.int .i64 0,.string ⟨#[]⟩,.slice none 0 0,.slice none 0 0] [.int .i64 c0,.int .i64 c1,y2,y3,.string ⟨#[]⟩,.slice none 0 0,.slice none 0 0] 185 64:=(HR1.out).set 3 (y3)
  have W2:=(HW1.out).setCell (p:=⟨w.heap.size+1+1,3,none⟩) (by show w.heap.size≤w.heap.size+1+1;omega) (y3)
  have HR2:=hid R2;have HW2:=hid W2;clear R2 W2
  have P2_0:=P1_0.set (b:=w.heap.size+1+1) (by omega) 3 (y3)
  refine(q4 B _ [u4,u5] rfl (all2 (D4.out.frame (below_sameAll HW2.out _)) (D5.out.frame (below_sameAll HW2.out _)))).mono ?_
  rintro e w2 ⟨vs,rfl,b2,hv⟩
  have hv0:=hv.1
  obtain⟨y4,l0,rfl,hv1⟩:=len_cons hv0
  obtain⟨y5,l1,rfl,hv2⟩:=len_cons hv1
  obtain rfl:=len_zero hv2
  have n4:=hv.2 0 _ _ rfl rfl
  have s4:=fun a m w=>run_store Tryz.prog w a y4 m n4.one
  have n5:=hv.2 1 _ _ rfl rfl
  have s5:=fun a m w=>run_store Tryz.prog w a y5 m n5.one
  clear hv hv0 hv1 hv2
  have lo2:w.heap.size+1+1+1≤_:=blk_lt HR2.out.c
  have n4:=n4.mono lo2
  have n5:=n5.mono lo2
  have N4:=hid n4;clear n4;have N5:=hid n5;clear n5
  have F2_0:=P2_0.fwd b2
  have RR2:=(HR2.out).fwd b2
  have WW2:=(HW2.out).trans (b2.mono (HW2.out).size)
  have HRR2:=hid RR2;have HWW2:=hid WW2;clear RR2 WW2 lo2
  have a2_6:=HRR2.out.c1 6 rfl
  have b2_0:=HRR2.out.c3 0 rfl
  have g2_0:=HRR2.out.f3 0
  have b2_1:=HRR2.out.c3 1 rfl
  have g2_1:=HRR2.out.f3 1
  have b2_2:=HRR2.out.c3 2 rfl
  have g2_2:=HRR2.out.f3 2
  have b2_3:=HRR2.out.c3 3 rfl
  have g2_3:=HRR2.out.f3 3
  have b2_4:=HRR2.out.c3 4 rfl
  have g2_4:=HRR2.out.f3 4
  have b2_5:=HRR2.out.c3 5 rfl
  have g2_5:=HRR2.out.f3 5
  have b2_6:=HRR2.out.c3 6 rfl
  have g2_6:=HRR2.out.f3 6
  go_wp2_with fail
  clear a2_6 b2_0 b2_1 b2_2 b2_3 b2_4 b2_5 b2_6 g2_0 g2_1 g2_2 g2_3 g2_4 g2_5 g2_6
  have R3:R3 _ w.heap.size [.int .i64 c0,.int .i64 c1,u2,u3,u4,u5,u6] [.int .i64 0,.int .i64 0,.slice none 0 0,.int .i64 0,.string ⟨#[]⟩,.slice none 0 0,.slice none 0 0] [.int .i64 c0,.int .i64 c1,y2,y3,y4,.slice none 0 0,.slice none 0 0] 185 64:=(HRR2.out).set 4 (y4)
  have W3:=(HWW2.out).setCell (p:=⟨w.heap.size+1+1,4,none⟩) (by show w.heap.size≤w.heap.size+1+1;omega) (y4)
  have HR3:=hid R3;have HW3:=hid W3;clear R3 W3
  have P3_0:=F2_0.set (b:=w.heap.size+1+1) (by omega) 4 (y4)
  have P3_1:=(Past.refl (w.heap.size+1+1+1) w2).set (b:=w.heap.size+1+1) (by omega) 4 (y4)
  have R4:R3 _ w.heap.size [.int .i64 c0,.int .i64 c1,u2,u3,u4,u5,u6] [.int .i64 0,.int .i64 0,.slice none 0 0,.int .i64 0,.string ⟨#[]⟩,.slice none 0 0,.slice none 0 0] [.int .i64 c0,.int .i64 c1,y2,y3,y4,y5,.slice none 0 0] 185 64:=(HR3.out).set 5 (y5)
  have W4:=(HW3.out).setCell (p:=⟨w.heap.size+1+1,5,none⟩) (by show w.heap.size≤w.heap.size+1+1;omega) (y5)
  have HR4:=hid R4;have HW4:=hid W4;clear R4 W4
  have P4_0:=P3_0.set (b:=w.heap.size+1+1) (by omega) 5 (y5)
  have P4_1:=P3_1.set (b:=w.heap.size+1+1) (by omega) 5 (y5)
  refine(q6 B _ _ (D6.out.frame (below_sameAll HW4.out _))).mono ?_
  rintro e w3 ⟨y6,rfl,b3,n6⟩
  obtain⟨ad6,cap6,rfl,_⟩:=n6.dr.slice
  obtain⟨ln6,hln6⟩:∃n,n=x6.length:=⟨_,rfl⟩
  rw[←hln6]at n6 ⊢;clear hln6
  have lo3:w.heap.size+1+1+1≤_:=blk_lt HR4.out.c
  have n6:=n6.mono lo3
  have N6:=hid n6;clear n6
  have F3_0:=P4_0.fwd b3
  have F3_1:=P4_1.fwd b3
  have RR3:=(HR4.out).fwd b3
  have WW3:=(HW4.out).trans (b3.mono (HW4.out).size)
  have HRR3:=hid RR3;have HWW3:=hid WW3;clear RR3 WW3 lo3
  have b3_0:=HRR3.out.c3 0 rfl
  have g3_0:=HRR3.out.f3 0
  have e3_0:=HRR3.out.c2 0 rfl
  have h3_0:=HRR3.out.f2 0
  have b3_1:=HRR3.out.c3 1 rfl
  have g3_1:=HRR3.out.f3 1
  have e3_1:=HRR3.out.c2 1 rfl
  have h3_1:=HRR3.out.f2 1
  have b3_2:=HRR3.out.c3 2 rfl
  have g3_2:=HRR3.out.f3 2
  have e3_2:=HRR3.out.c2 2 rfl
  have h3_2:=HRR3.out.f2 2
  have b3_3:=HRR3.out.c3 3 rfl
  have g3_3:=HRR3.out.f3 3
  have e3_3:=HRR3.out.c2 3 rfl
  have h3_3:=HRR3.out.f2 3
  have b3_4:=HRR3.out.c3 4 rfl
  have g3_4:=HRR3.out.f3 4
  have e3_4:=HRR3.out.c2 4 rfl
  have h3_4:=HRR3.out.f2 4
  have b3_5:=HRR3.out.c3 5 rfl
  have g3_5:=HRR3.out.f3 5
  have e3_5:=HRR3.out.c2 5 rfl
  have h3_5:=HRR3.out.f2 5
  have b3_6:=HRR3.out.c3 6 rfl
  have g3_6:=HRR3.out.f3 6
  have e3_6:=HRR3.out.c2 6 rfl
  have h3_6:=HRR3.out.f2 6
  go_wp2_with fail
  have R5:R3 _ w.heap.size [.int .i64 c0,.int .i64 c1,u2,u3,u4,u5,u6] [.int .i64 0,.int .i64 0,.slice none 0 0,.int .i64 0,.string ⟨#[]⟩,.slice none 0 0,.slice none 0 0] [.int .i64 c0,.int .i64 c1,y2,y3,y4,y5,.slice ad6 ln6 cap6] 185 64:=(HRR3.out).set 6 (.slice ad6 ln6 cap6)
  have W5:=(HWW3.out).setCell (p:=⟨w.heap.size+1+1,6,none⟩) (by show w.heap.size≤w.heap.size+1+1;omega) (.slice ad6 ln6 cap6)
  have HR5:=hid R5;have HW5:=hid W5;clear R5 W5
  have P5_0:=F3_0.set (b:=w.heap.size+1+1) (by omega) 6 (.slice ad6 ln6 cap6)
  have P5_1:=F3_1.set (b:=w.heap.size+1+1) (by omega) 6 (.slice ad6 ln6 cap6)
  have P5_2:=(Past.refl (w.heap.size+1+1+1) w3).set (b:=w.heap.size+1+1) (by omega) 6 (.slice ad6 ln6 cap6)
  have RB0:R3 _ w.heap.size [.int .i64 c0,.int .i64 c1,u2,u3,u4,u5,u6] [.int .i64 c0,.int .i64 0,.slice none 0 0,.int .i64 0,.string ⟨#[]⟩,.slice none 0 0,.slice none 0 0] [.int .i64 c0,.int .i64 c1,y2,y3,y4,y5,.slice ad6 ln6 cap6] 185 64:=(HR5.out).setb 0 (.int .i64 c0)
  have RB1:R3 _ w.heap.size [.int .i64 c0,.int .i64 c1,u2,u3,u4,u5,u6] [.int .i64 c0,.int .i64 c1,.slice none 0 0,.int .i64 0,.string ⟨#[]⟩,.slice none 0 0,.slice none 0 0] [.int .i64 c0,.int .i64 c1,y2,y3,y4,y5,.slice ad6 ln6 cap6] 185 64:=RB0.setb 1 (.int .i64 c1)
  have RB2:R3 _ w.heap.size [.int .i64 c0,.int .i64 c1,u2,u3,u4,u5,u6] [.int .i64 c0,.int .i64 c1,y2,.int .i64 0,.string ⟨#[]⟩,.slice none 0 0,.slice none 0 0] [.int .i64 c0,.int .i64 c1,y2,y3,y4,y5,.slice ad6 ln6 cap6] 185 64:=RB1.setb 2 (y2)
  have RB3:R3 _ w.heap.size [.int .i64 c0,.int .i64 c1,u2,u3,u4,u5,u6] [.int .i64 c0,.int .i64 c1,y2,y3,.string ⟨#[]⟩,.slice none 0 0,.slice none 0 0] [.int .i64 c0,.int .i64 c1,y2,y3,y4,y5,.slice ad6 ln6 cap6] 185 64:=RB2.setb 3 (y3)
  have RB4:R3 _ w.heap.size [.int .i64 c0,.int .i64 c1,u2,u3,u4,u5,u6] [.int .i64 c0,.int .i64 c1,y2,y3,y4,.slice none 0 0,.slice none 0 0] [.int .i64 c0,.int .i64 c1,y2,y3,y4,y5,.slice ad6 ln6 cap6] 185 64:=RB3.setb 4 (y4)
  have RB5:R3 _ w.heap.size [.int .i64 c0,.int .i64 c1,u2,u3,u4,u5,u6] [.int .i64 c0,.int .i64 c1,y2,y3,y4,y5,.slice none 0 0] [.int .i64 c0,.int .i64 c1,y2,y3,y4,y5,.slice ad6 ln6 cap6] 185 64:=RB4.setb 5 (y5)
  have RB6:R3 _ w.heap.size [.int .i64 c0,.int .i64 c1,u2,u3,u4,u5,u6] [.int .i64 c0,.int .i64 c1,y2,y3,y4,y5,.slice ad6 ln6 cap6] [.int .i64 c0,.int .i64 c1,y2,y3,y4,y5,.slice ad6 ln6 cap6] 185 64:=RB5.setb 6 (.slice ad6 ln6 cap6)
  have pp0:=RB6.c2 0 rfl
  have pp1:=RB6.c2 1 rfl
  have pp2:=RB6.c2 2 rfl
  have pp3:=RB6.c2 3 rfl
  have pp4:=RB6.c2 4 rfl
  have pp5:=RB6.c2 5 rfl
  have pp6:=RB6.c2 6 rfl
  refine bodyPost_ret (v:=.agg #[.int .i64 c0,.int .i64 c1,y2,y3,y4,y5,.slice ad6 ln6 cap6]) (by simp[results,Tryz.results173,go_sem,pp0,pp1,pp2,pp3,pp4,pp5,pp6]) rfl ?_
  have Z:=setRow_below (g:=w.heap.size+1) [.int .i64 c0,.int .i64 c1,y2,y3,y4,y5,.slice ad6 ln6 cap6] 0 _ (HW5.out) (by omega)
  have Y0:=(((((((P5_0.set (b:=w.heap.size+1) (by omega) 0 (.int .i64 c0)).set (b:=w.heap.size+1) (by omega) 1 (.int .i64 c1)).set (b:=w.heap.size+1) (by omega) 2 (y2)).set (b:=w.heap.size+1) (by omega) 3 (y3)).set (b:=w.heap.size+1) (by omega) 4 (y4)).set (b:=w.heap.size+1) (by omega) 5 (y5)).set (b:=w.heap.size+1) (by omega) 6 (.slice ad6 ln6 cap6))
  have Y1:=(((((((P5_1.set (b:=w.heap.size+1) (by omega) 0 (.int .i64 c0)).set (b:=w.heap.size+1) (by omega) 1 (.int .i64 c1)).set (b:=w.heap.size+1) (by omega) 2 (y2)).set (b:=w.heap.size+1) (by omega) 3 (y3)).set (b:=w.heap.size+1) (by omega) 4 (y4)).set (b:=w.heap.size+1) (by omega) 5 (y5)).set (b:=w.heap.size+1) (by omega) 6 (.slice ad6 ln6 cap6))
  have Y2:=(((((((P5_2.set (b:=w.heap.size+1) (by omega) 0 (.int .i64 c0)).set (b:=w.heap.size+1) (by omega) 1 (.int .i64 c1)).set (b:=w.heap.size+1) (by omega) 2 (y2)).set (b:=w.heap.size+1) (by omega) 3 (y3)).set (b:=w.heap.size+1) (by omega) 4 (y4)).set (b:=w.heap.size+1) (by omega) 5 (y5)).set (b:=w.heap.size+1) (by omega) 6 (.slice ad6 ln6 cap6))
  exact⟨[.int .i64 c0,.int .i64 c1,y2,y3,y4,y5,.slice ad6 ln6 cap6],rfl,Z,rfl,all7 (DrN.val (.int .i64 c0) rfl) (DrN.val (.int .i64 c1) rfl) ((N2.out.past (Nat.le_refl _) Y0).mono (by omega)) ((N3.out.past (Nat.le_refl _) Y0).mono (by omega)) ((N4.out.past (Nat.le_refl _) Y1).mono (by omega)) ((N5.out.past (Nat.le_refl _) Y1).mono (by omega)) ((N6.out.past (Nat.le_refl _) Y2).mono (by omega))⟩
set_option maxHeartbeats 3200000 in
theorem toStmt_c {x0 x1:D} (q0:CopyS Tryz.prog 172 [x0,x1]) {x2 x3 x4 x5 x6 x7 x8:D} (q2:CopyS Tryz.prog 173 [x2,x3,x4,x5,x6,x7,x8]):CopyS Tryz.prog 141 [x0,x1,x2,x3,x4,x5,x6,x7,x8]:=by
  intro B w vs hl hx
  obtain⟨u0,l0,rfl,hl0⟩:=len_cons hl
  obtain⟨u1,l1,rfl,hl1⟩:=len_cons hl0
  obtain⟨u2,l2,rfl,hl2⟩:=len_cons hl1
  obtain⟨u3,l3,rfl,hl3⟩:=len_cons hl2
  obtain⟨u4,l4,rfl,hl4⟩:=len_cons hl3
  obtain⟨u5,l5,rfl,hl5⟩:=len_cons hl4
  obtain⟨u6,l6,rfl,hl6⟩:=len_cons hl5
  obtain⟨u7,l7,rfl,hl7⟩:=len_cons hl6
  obtain⟨u8,l8,rfl,hl8⟩:=len_cons hl7
  obtain rfl:=len_zero hl8
  have D0:=hid (hx 0 _ _ rfl rfl)
  have D1:=hid (hx 1 _ _ rfl rfl)
  have D2:=hid (hx 2 _ _ rfl rfl)
  have D3:=hid (hx 3 _ _ rfl rfl)
  have D4:=hid (hx 4 _ _ rfl rfl)
  have D5:=hid (hx 5 _ _ rfl rfl)
  have D6:=hid (hx 6 _ _ rfl rfl)
  have D7:=hid (hx 7 _ _ rfl rfl)
  have D8:=hid (hx 8 _ _ rfl rfl)
  clear hx hl hl0 hl1 hl2 hl3 hl4 hl5 hl6 hl7 hl8
  have R:=R3.start w [u0,u1,u2,u3,u4,u5,u6,u7,u8] [.string ⟨#[]⟩,.slice none 0 0,.int .i64 0,.int .i64 0,.slice none 0 0,.int .i64 0,.string ⟨#[]⟩,.slice none 0 0,.slice none 0 0] [.string ⟨#[]⟩,.slice none 0 0,.int .i64 0,.int .i64 0,.slice none 0 0,.int .i64 0,.string ⟨#[]⟩,.slice none 0 0,.slice none 0 0] 187 66
  have W:=(((Below.refl w.heap.size w).alloc (Nat.le_refl _) (.cells [u0,u1,u2,u3,u4,u5,u6,u7,u8].toArray 187)).alloc (by simp) (.cells [.string ⟨#[]⟩,.slice none 0 0,.int .i64 0,.int .i64 0,.slice none 0 0,.int .i64 0,.string ⟨#[]⟩,.slice none 0 0,.slice none 0 0].toArray 66)).alloc (by simp;omega) (.cells [.string ⟨#[]⟩,.slice none 0 0,.int .i64 0,.int .i64 0,.slice none 0 0,.int .i64 0,.string ⟨#[]⟩,.slice none 0 0,.slice none 0 0].toArray 66)
  have HR:=hid R;have HW:=hid W;clear R W
  go_enter Tryz.func141,Tryz.ntmps141
  go_wp2_with fail
  refine(q0 B _ [u0,u1] rfl (all2 (D0.out.frame (below_sameAll HW.out _)) (D1.out.frame (below_sameAll HW.out _)))).mono ?_
  rintro e w1 ⟨vs,rfl,b1,hv⟩
  have hv0:=hv.1
  obtain⟨y0,l0,rfl,hv1⟩:=len_cons hv0
  obtain⟨y1,l1,rfl,hv2⟩:=len_cons hv1
  obtain rfl:=len_zero hv2
  have n0:=hv.2 0 _ _ rfl rfl
  have s0:=fun a m w=>run_store Tryz.prog w a y0 m n0.one
  have n1:=hv.2 1 _ _ rfl rfl
  have s1:=fun a m w=>run_store Tryz.prog w a y1 m n1.one
  clear hv hv0 hv1 hv2
  have lo1:w.heap.size+1+1+1≤_:=blk_lt HR.out.c
  have n0:=n0.mono lo1
  have n1:=n1.mono lo1
  have N0:=hid n0;clear n0;have N1:=hid n1;clear n1
  have RR1:=(HR.out).fwd b1
  have WW1:=(HW.out).trans (b1.mono (HW.out).size)
  have HRR1:=hid RR1;have HWW1:=hid WW1;clear RR1 WW1 lo1
  have a1_2:=HRR1.out.c1 2 rfl
  have a1_3:=HRR1.out.c1 3 rfl
  have a1_4:=HRR1.out.c1 4 rfl
  have a1_5:=HRR1.out.c1 5 rfl
  have a1_6:=HRR1.out.c1 6 rfl
  have a1_7:=HRR1.out.c1 7 rfl
  have a1_8:=HRR1.out.c1 8 rfl
  have b1_0:=HRR1.out.c3 0 rfl
  have g1_0:=HRR1.out.f3 0
  have b1_1:=HRR1.out.c3 1 rfl
  have g1_1:=HRR1.out.f3 1
  have b1_2:=HRR1.out.c3 2 rfl
  have g1_2:=HRR1.out.f3 2
  have b1_3:=HRR1.out.c3 3 rfl
  have g1_3:=HRR1.out.f3 3
  have b1_4:=HRR1.out.c3 4 rfl
  have g1_4:=HRR1.out.f3 4
  have b1_5:=HRR1.out.c3 5 rfl
  have g1_5:=HRR1.out.f3 5
  have b1_6:=HRR1.out.c3 6 rfl
  have g1_6:=HRR1.out.f3 6
  have b1_7:=HRR1.out.c3 7 rfl
  have g1_7:=HRR1.out.f3 7
  have b1_8:=HRR1.out.c3 8 rfl
  have g1_8:=HRR1.out.f3 8
  go_wp2_with fail
  clear a1_2 a1_3 a1_4 a1_5 a1_6 a1_7 a1_8 b1_0 b1_1 b1_2 b1_3 b1_4 b1_5 b1_6 b1_7 b1_8 g1_0 g1_1 g1_2 g1_3 g1_4 g1_5 g1_6 g1_7 g1_8
  have R1:R3 _ w.heap.size [u0,u1,u2,u3,u4,u5,u6,u7,u8] [.string ⟨#[]⟩,.slice none 0 0,.int .i64 0,.int .i64 0,.slice none 0 0,.int .i64 0,.string ⟨#[]⟩,.slice none 0 0,.slice none 0 0] [y0,.slice none 0 0,.int .i64 0,.int .i64 0,.slice none 0 0,.int .i64 0,.string ⟨#[]⟩,.slice none 0 0,.slice none 0 0] 187 66:=(HRR1.out).set 0 (y0)
  have W1:=(HWW1.out).setCell (p:=⟨w.heap.size+1+1,0,none⟩) (by show w.heap.size≤w.heap.size+1+1;omega) (y0)
  have HR1:=hid R1;have HW1:=hid W1;clear R1 W1
  have P1_0:=(Past.refl (w.heap.size+1+1+1) w1).set (b:=w.heap.size+1+1) (by omega) 0 (y0)
  have R2:R3 _ w.heap.size [u0,u1,u2,u3,u4,u5,u6,u7,u8] [.string ⟨#[]⟩,.slice none 0 0,.int .i64 0,.int .i64 0,.slice none 0 0,.int .i64 0,.string ⟨#[]⟩,.slice none 0 0,.slice none 0 0] [y0,y1,.int .i64 0,.int .i64 0,.slice none 0 0,.int .i64 0,.string ⟨#[]⟩,.slice none 0 0,.slice none 0 0] 187 66:=(HR1.out).set 1 (y1)
  have W2:=(HW1.out).setCell (p:=⟨w.heap.size+1+1,1,none⟩) (by show w.heap.size≤w.heap.size+1+1;omega) (y1)
  have HR2:=hid R2;have HW2:=hid W2;clear R2 W2
  have P2_0:=P1_0.set (b:=w.heap.size+1+1) (by omega) 1 (y1)
  refine(q2 B _ [u2,u3,u4,u5,u6,u7,u8] rfl (all7 (D2.out.frame (below_sameAll HW2.out _)) (D3.out.frame (below_sameAll HW2.out _)) (D4.out.frame (below_sameAll HW2.out _)) (D5.out.frame (below_sameAll HW2.out _)) (D6.out.frame (below_sameAll HW2.out _)) (D7.out.frame (below_sameAll HW2.out _)) (D8.out.frame (below_sameAll HW2.out _)))).mono ?_
  rintro e w2 ⟨vs,rfl,b2,hv⟩
  have hv0:=hv.1
  obtain⟨y2,l0,rfl,hv1⟩:=len_cons hv0
  obtain⟨y3,l1,rfl,hv2⟩:=len_cons hv1
  obtain⟨y4,l2,rfl,hv3⟩:=len_cons hv2
  obtain⟨y5,l3,rfl,hv4⟩:=len_cons hv3
  obtain⟨y6,l4,rfl,hv5⟩:=len_cons hv4
  obtain⟨y7,l5,rfl,hv6⟩:=len_cons hv5
  obtain⟨y8,l6,rfl,hv7⟩:=len_cons hv6
  obtain rfl:=len_zero hv7
  have n2:=hv.2 0 _ _ rfl rfl
  have s2:=fun a m w=>run_store Tryz.prog w a y2 m n2.one
  have n3:=hv.2 1 _ _ rfl rfl
  have s3:=fun a m w=>run_store Tryz.prog w a y3 m n3.one
  have n4:=hv.2 2 _ _ rfl rfl
  have s4:=fun a m w=>run_store Tryz.prog w a y4 m n4.one
  have n5:=hv.2 3 _ _ rfl rfl
  have s5:=fun a m w=>run_store Tryz.prog w a y5 m n5.one
  have n6:=hv.2 4 _ _ rfl rfl
  have s6:=fun a m w=>run_store Tryz.prog w a y6 m n6.one
  have n7:=hv.2 5 _ _ rfl rfl
  have s7:=fun a m w=>run_store Tryz.prog w a y7 m n7.one
  have n8:=hv.2 6 _ _ rfl rfl
  have s8:=fun a m w=>run_store Tryz.prog w a y8 m n8.one
  clear hv hv0 hv1 hv2 hv3 hv4 hv5 hv6 hv7
  have lo2:w.heap.size+1+1+1≤_:=blk_lt HR2.out.c
  have n2:=n2.mono lo2
  have n3:=n3.mono lo2
  have n4:=n4.mono lo2
  have n5:=n5.mono lo2
  have n6:=n6.mono lo2
  have n7:=n7.mono lo2
  have n8:=n8.mono lo2
  have N2:=hid n2;clear n2;have N3:=hid n3;clear n3;have N4:=hid n4;clear n4;have N5:=hid n5;clear n5;have N6:=hid n6;clear n6;have N7:=hid n7;clear n7;have N8:=hid n8;clear n8
  have F2_0:=P2_0.fwd b2
  have RR2:=(HR2.out).fwd b2
  have WW2:=(HW2.out).trans (b2.mono (HW2.out).size)
  have HRR2:=hid RR2;have HWW2:=hid WW2;clear RR2 WW2 lo2
  have b2_0:=HRR2.out.c3 0 rfl
  have g2_0:=HRR2.out.f3 0
  have e2_0:=HRR2.out.c2 0 rfl
  have h2_0:=HRR2.out.f2 0
  have b2_1:=HRR2.out.c3 1 rfl
  have g2_1:=HRR2.out.f3 1
  have e2_1:=HRR2.out.c2 1 rfl
  have h2_1:=HRR2.out.f2 1
  have b2_2:=HRR2.out.c3 2 rfl
  have g2_2:=HRR2.out.f3 2
  have e2_2:=HRR2.out.c2 2 rfl
  have h2_2:=HRR2.out.f2 2
  have b2_3:=HRR2.out.c3 3 rfl
  have g2_3:=HRR2.out.f3 3
  have e2_3:=HRR2.out.c2 3 rfl
  have h2_3:=HRR2.out.f2 3
  have b2_4:=HRR2.out.c3 4 rfl
  have g2_4:=HRR2.out.f3 4
  have e2_4:=HRR2.out.c2 4 rfl
  have h2_4:=HRR2.out.f2 4
  have b2_5:=HRR2.out.c3 5 rfl
  have g2_5:=HRR2.out.f3 5
  have e2_5:=HRR2.out.c2 5 rfl
  have h2_5:=HRR2.out.f2 5
  have b2_6:=HRR2.out.c3 6 rfl
  have g2_6:=HRR2.out.f3 6
  have e2_6:=HRR2.out.c2 6 rfl
  have h2_6:=HRR2.out.f2 6
  have b2_7:=HRR2.out.c3 7 rfl
  have g2_7:=HRR2.out.f3 7
  have e2_7:=HRR2.out.c2 7 rfl
  have h2_7:=HRR2.out.f2 7
  have b2_8:=HRR2.out.c3 8 rfl
  have g2_8:=HRR2.out.f3 8
  have e2_8:=HRR2.out.c2 8 rfl
  have h2_8:=HRR2.out.f2 8
  go_wp2_with fail
  have R3:R3 _ w.heap.size [u0,u1,u2,u3,u4,u5,u6,u7,u8] [.string ⟨#[]⟩,.slice none 0 0,.int .i64 0,.int .i64 0,.slice none 0 0,.int .i64 0,.string ⟨#[]⟩,.slice none 0 0,.slice none 0 0] [y0,y1,y2,.int .i64 0,.slice none 0 0,.int .i64 0,.string ⟨#[]⟩,.slice none 0 0,.slice none 0 0] 187 66:=(HRR2.out).set 2 (y2)
  have W3:=(HWW2.out).setCell (p:=⟨w.heap.size+1+1,2,none⟩) (by show w.heap.size≤w.heap.size+1+1;omega) (y2)
  have HR3:=hid R3;have HW3:=hid W3;clear R3 W3
  have P3_0:=F2_0.set (b:=w.heap.size+1+1) (by omega) 2 (y2)
  have P3_1:=(Past.refl (w.heap.size+1+1+1) w2).set (b:=w.heap.size+1+1) (by omega) 2 (y2)
  have R4:R3 _ w.heap.size [u0,u1,u2,u3,u4,u5,u6,u7,u8] [.string ⟨#[]⟩,.slice none 0 0,.int .i64 0,.int .i64 0,.slice none 0 0,.int .i64 0,.string ⟨#[]⟩,.slice none 0 0,.slice none 0 0] [y0,y1,y2,y3,.slice none 0 0,.int .i64 0,.string ⟨#[]⟩,.slice none 0 0,.slice none 0 0] 187 66:=(HR3.out).set 3 (y3)
  have W4:=(HW3.out).setCell (p:=⟨w.heap.size+1+1,3,none⟩) (by show w.heap.size≤w.heap.size+1+1;omega) (y3)
  have HR4:=hid R4;have HW4:=hid W4;clear R4 W4
  have P4_0:=P3_0.set (b:=w.heap.size+1+1) (by omega) 3 (y3)
  have P4_1:=P3_1.set (b:=w.heap.size+1+1) (by omega) 3 (y3)
  have R5:R3 _ w.heap.size [u0,u1,u2,u3,u4,u5,u6,u7,u8] [.string ⟨#[]⟩,.slice none 0 0,.int .i64 0,.int .i64 0,.slice none 0 0,.int .i64 0,.string ⟨#[]⟩,.slice none 0 0,.slice none 0 0] [y0,y1,y2,y3,y4,.int .i64 0,.string ⟨#[]⟩,.slice none 0 0,.slice none 0 0] 187 66:=(HR4.out).set 4 (y4)
  have W5:=(HW4.out).setCell (p:=⟨w.heap.size+1+1,4,none⟩) (by show w.heap.size≤w.heap.size+1+1;omega) (y4)
  have HR5:=hid R5;have HW5:=hid W5;clear R5 W5
  have P5_0:=P4_0.set (b:=w.heap.size+1+1) (by omega) 4 (y4)
  have P5_1:=P4_1.set (b:=w.heap.size+1+1) (by omega) 4 (y4)
  have R6:R3 _ w.heap.size [u0,u1,u2,u3,u4,u5,u6,u7,u8] [.string ⟨#[]⟩,.slice none 0 0,.int .i64 0,.int .i64 0,.slice none 0 0,.int .i64 0,.string ⟨#[]⟩,.slice none 0 0,.slice none 0 0] [y0,y1,y2,y3,y4,y5,.string ⟨#[]⟩,.slice none 0 0,.slice none 0 0] 187 66:=(HR5.out).set 5 (y5)
  have W6:=(HW5.out).setCell (p:=⟨w.heap.size+1+1,5,none⟩) (by show w.heap.size≤w.heap.size+1+1;omega) (y5)
  have HR6:=hid R6;have HW6:=hid W6;clear R6 W6
  have P6_0:=P5_0.set (b:=w.heap.size+1+1) (by omega) 5 (y5)
  have P6_1:=P5_1.set (b:=w.heap.size+1+1) (by omega) 5 (y5)
  have R7:R3 _ w.heap.size [u0,u1,u2,u3,u4,u5,u6,u7,u8] [.string ⟨#[]⟩,.slice none 0 0,.int .i64 0,.int .i64 0,.slice none 0 0,.int .i64 0,.string ⟨#[]⟩,.slice none 0 0,.slice none 0 0] [y0,y1,y2,y3,y4,y5,y6,.slice none 0 0,.slice none 0 0] 187 66:=(HR6.out).set 6 (y6)
  have W7:=(HW6.out).setCell (p:=⟨w.heap.size+1+1,6,none⟩) (by show w.heap.size≤w.heap.size+1+1;omega) (y6)
  have HR7:=hid R7;have HW7:=hid W7;clear R7 W7
  have P7_0:=P6_0.set (b:=w.heap.size+1+1) (by omega) 6 (y6)
  have P7_1:=P6_1.set (b:=w.heap.size+1+1) (by omega) 6 (y6)
  have R8:R3 _ w.heap.size [u0,u1,u2,u3,u4,u5,u6,u7,u8] [.string ⟨#[]⟩,.slice none 0 0,.int .i64 0,.int .i64 0,.slice none 0 0,.int .i64 0,.string ⟨#[]⟩,.slice none 0 0,.slice none 0 0] [y0,y1,y2,y3,y4,y5,y6,y7,.slice none 0 0] 187 66:=(HR7.out).set 7 (y7)
  have W8:=(HW7.out).setCell (p:=⟨w.heap.size+1+1,7,none⟩) (by show w.heap.size≤w.heap.size+1+1;omega) (y7)
  have HR8:=hid R8;have HW8:=hid W8;clear R8 W8
  have P8_0:=P7_0.set (b:=w.heap.size+1+1) (by omega) 7 (y7)
  have P8_1:=P7_1.set (b:=w.heap.size+1+1) (by omega) 7 (y7)
  have R9:R3 _ w.heap.size [u0,u1,u2,u3,u4,u5,u6,u7,u8] [.string ⟨#[]⟩,.slice none 0 0,.int .i64 0,.int .i64 0,.slice none 0 0,.int .i64 0,.string ⟨#[]⟩,.slice none 0 0,.slice none 0 0] [y0,y1,y2,y3,y4,y5,y6,y7,y8] 187 66:=(HR8.out).set 8 (y8)
  have W9:=(HW8.out).setCell (p:=⟨w.heap.size+1+1,8,none⟩) (by show w.heap.size≤w.heap.size+1+1;omega) (y8)
  have HR9:=hid R9;have HW9:=hid W9;clear R9 W9
  have P9_0:=P8_0.set (b:=w.heap.size+1+1) (by omega) 8 (y8)
  have P9_1:=P8_1.set (b:=w.heap.size+1+1) (by omega) 8 (y8)
  have RB0:R3 _ w.heap.size [u0,u1,u2,u3,u4,u5,u6,u7,u8] [y0,.slice none 0 0,.int .i64 0,.int .i64 0,.slice none 0 0,.int .i64 0,.string ⟨#[]⟩,.slice none 0 0,.slice none 0 0] [y0,y1,y2,y3,y4,y5,y6,y7,y8] 187 66:=(HR9.out).setb 0 (y0)
  have RB1:R3 _ w.heap.size [u0,u1,u2,u3,u4,u5,u6,u7,u8] [y0,y1,.int .i64 0,.int .i64 0,.slice none 0 0,.int .i64 0,.string ⟨#[]⟩,.slice none 0 0,.slice none 0 0] [y0,y1,y2,y3,y4,y5,y6,y7,y8] 187 66:=RB0.setb 1 (y1)
  have RB2:R3 _ w.heap.size [u0,u1,u2,u3,u4,u5,u6,u7,u8] [y0,y1,y2,.int .i64 0,.slice none 0 0,.int .i64 0,.string ⟨#[]⟩,.slice none 0 0,.slice none 0 0] [y0,y1,y2,y3,y4,y5,y6,y7,y8] 187 66:=RB1.setb 2 (y2)
  have RB3:R3 _ w.heap.size [u0,u1,u2,u3,u4,u5,u6,u7,u8] [y0,y1,y2,y3,.slice none 0 0,.int .i64 0,.string ⟨#[]⟩,.slice none 0 0,.slice none 0 0] [y0,y1,y2,y3,y4,y5,y6,y7,y8] 187 66:=RB2.setb 3 (y3)
  have RB4:R3 _ w.heap.size [u0,u1,u2,u3,u4,u5,u6,u7,u8] [y0,y1,y2,y3,y4,.int .i64 0,.string ⟨#[]⟩,.slice none 0 0,.slice none 0 0] [y0,y1,y2,y3,y4,y5,y6,y7,y8] 187 66:=RB3.setb 4 (y4)
  have RB5:R3 _ w.heap.size [u0,u1,u2,u3,u4,u5,u6,u7,u8] [y0,y1,y2,y3,y4,y5,.string ⟨#[]⟩,.slice none 0 0,.slice none 0 0] [y0,y1,y2,y3,y4,y5,y6,y7,y8] 187 66:=RB4.setb 5 (y5)
  have RB6:R3 _ w.heap.size [u0,u1,u2,u3,u4,u5,u6,u7,u8] [y0,y1,y2,y3,y4,y5,y6,.slice none 0 0,.slice none 0 0] [y0,y1,y2,y3,y4,y5,y6,y7,y8] 187 66:=RB5.setb 6 (y6)
  have RB7:R3 _ w.heap.size [u0,u1,u2,u3,u4,u5,u6,u7,u8] [y0,y1,y2,y3,y4,y5,y6,y7,.slice none 0 0] [y0,y1,y2,y3,y4,y5,y6,y7,y8] 187 66:=RB6.setb 7 (y7)
  have RB8:R3 _ w.heap.size [u0,u1,u2,u3,u4,u5,u6,u7,u8] [y0,y1,y2,y3,y4,y5,y6,y7,y8] [y0,y1,y2,y3,y4,y5,y6,y7,y8] 187 66:=RB7.setb 8 (y8)
  have pp0:=RB8.c2 0 rfl
  have pp1:=RB8.c2 1 rfl
  have pp2:=RB8.c2 2 rfl
  have pp3:=RB8.c2 3 rfl
  have pp4:=RB8.c2 4 rfl
  have pp5:=RB8.c2 5 rfl
  have pp6:=RB8.c2 6 rfl
  have pp7:=RB8.c2 7 rfl
  have pp8:=RB8.c2 8 rfl
  refine bodyPost_ret (v:=.agg #[y0,y1,y2,y3,y4,y5,y6,y7,y8]) (by simp[results,Tryz.results141,go_sem,pp0,pp1,pp2,pp3,pp4,pp5,pp6,pp7,pp8]) rfl ?_
  have Z:=setRow_below (g:=w.heap.size+1) [y0,y1,y2,y3,y4,y5,y6,y7,y8] 0 _ (HW9.out) (by omega)
  have Y0:=(((((((((P9_0.set (b:=w.heap.size+1) (by omega) 0 (y0)).set (b:=w.heap.size+1) (by omega) 1 (y1)).set (b:=w.heap.size+1) (by omega) 2 (y2)).set (b:=w.heap.size+1) (by omega) 3 (y3)).set (b:=w.heap.size+1) (by omega) 4 (y4)).set (b:=w.heap.size+1) (by omega) 5 (y5)).set (b:=w.heap.size+1) (by omega) 6 (y6)).set (b:=w.heap.size+1) (by omega) 7 (y7)).set (b:=w.heap.size+1) (by omega) 8 (y8))
  have Y1:=(((((((((P9_1.set (b:=w.heap.size+1) (by omega) 0 (y0)).set (b:=w.heap.size+1) (by omega) 1 (y1)).set (b:=w.heap.size+1) (by omega) 2 (y2)).set (b:=w.heap.size+1) (by omega) 3 (y3)).set (b:=w.heap.size+1) (by omega) 4 (y4)).set (b:=w.heap.size+1) (by omega) 5 (y5)).set (b:=w.heap.size+1) (by omega) 6 (y6)).set (b:=w.heap.size+1) (by omega) 7 (y7)).set (b:=w.heap.size+1) (by omega) 8 (y8))
  exact⟨[y0,y1,y2,y3,y4,y5,y6,y7,y8],rfl,Z,rfl,all9 ((N0.out.past (Nat.le_refl _) Y0).mono (by omega)) ((N1.out.past (Nat.le_refl _) Y0).mono (by omega)) ((N2.out.past (Nat.le_refl _) Y1).mono (by omega)) ((N3.out.past (Nat.le_refl _) Y1).mono (by omega)) ((N4.out.past (Nat.le_refl _) Y1).mono (by omega)) ((N5.out.past (Nat.le_refl _) Y1).mono (by omega)) ((N6.out.past (Nat.le_refl _) Y1).mono (by omega)) ((N7.out.past (Nat.le_refl _) Y1).mono (by omega)) ((N8.out.past (Nat.le_refl _) Y1).mono (by omega))⟩
set_option maxHeartbeats 3200000 in
theorem toPart_c {sz0:Nat} {x0:List (List D)} (q0:CopyC Tryz.prog 100 (.list sz0 x0)) {sz1:Nat} {x1:List (List D)} (q1:CopyC Tryz.prog 101 (.list sz1 x1)):CopyS Tryz.prog 58 [.list sz0 x0,.list sz1 x1]:=by
  intro B w vs hl hx
  obtain⟨u0,l0,rfl,hl0⟩:=len_cons hl
  obtain⟨u1,l1,rfl,hl1⟩:=len_cons hl0
  obtain rfl:=len_zero hl1
  have D0:=hid (hx 0 _ _ rfl rfl)
  have D1:=hid (hx 1 _ _ rfl rfl)
  clear hx hl hl0 hl1
  have R:=R3.start w [u0,u1] [.slice none 0 0,.slice none 0 0] [.slice none 0 0,.slice none 0 0] 99 80
  have W:=(((Below.refl w.heap.size w).alloc (Nat.le_refl _) (.cells [u0,u1].toArray 99)).alloc (by simp) (.cells [.slice none 0 0,.slice none 0 0].toArray 80)).alloc (by simp;omega) (.cells [.slice none 0 0,.slice none 0 0].toArray 80)
  have HR:=hid R;have HW:=hid W;clear R W
  go_enter Tryz.func58,Tryz.ntmps58
  go_wp2_with fail
  refine(q0 B _ _ (D0.out.frame (below_sameAll HW.out _))).mono ?_
  rintro e w1 ⟨y0,rfl,b1,n0⟩
  obtain⟨ad0,cap0,rfl,_⟩:=n0.dr.slice
  obtain⟨ln0,hln0⟩:∃n,n=x0.length:=⟨_,rfl⟩
  rw[←hln0]at n0 ⊢;clear hln0
  have lo1:w.heap.size+1+1+1≤_:=blk_lt HR.out.c
  have n0:=n0.mono lo1
  have N0:=hid n0;clear n0
  have RR1:=(HR.out).fwd b1
  have WW1:=(HW.out).trans (b1.mono (HW.out).size)
  have HRR1:=hid RR1;have HWW1:=hid WW1;clear RR1 WW1 lo1
  have a1_1:=HRR1.out.c1 1 rfl
  have b1_0:=HRR1.out.c3 0 rfl
  have g1_0:=HRR1.out.f3 0
  have b1_1:=HRR1.out.c3 1 rfl
  have g1_1:=HRR1.out.f3 1
  go_wp2_with fail
  clear a1_1 b1_0 b1_1 g1_0 g1_1
  have R1:R3 _ w.heap.size [u0,u1] [.slice none 0 0,.slice none 0 0] [.slice ad0 ln0 cap0,.slice none 0 0] 99 80:=(HRR1.out).set 0 (.slice ad0 ln0 cap0)
  have W1:=(HWW1.out).setCell (p:=⟨w.heap.size+1+1,0,none⟩) (by show w.heap.size≤w.heap.size+1+1;omega) (.slice ad0 ln0 cap0)
  have HR1:=hid R1;have HW1:=hid W1;clear R1 W1
  have P1_0:=(Past.refl (w.heap.size+1+1+1) w1).set (b:=w.heap.size+1+1) (by omega) 0 (.slice ad0 ln0 cap0)
  refine(q1 B _ _ (D1.out.frame (below_sameAll HW1.out _))).mono ?_
  rintro e w2 ⟨y1,rfl,b2,n1⟩
  obtain⟨ad1,cap1,rfl,_⟩:=n1.dr.slice
  obtain⟨ln1,hln1⟩:∃n,n=x1.length:=⟨_,rfl⟩
  rw[←hln1]at n1 ⊢;clear hln1
  have lo2:w.heap.size+1+1+1≤_:=blk_lt HR1.out.c
  have n1:=n1.mono lo2
  have N1:=hid n1;clear n1
  have F2_0:=P1_0.fwd b2
  have RR2:=(HR1.out).fwd b2
  have WW2:=(HW1.out).trans (b2.mono (HW1.out).size)
  have HRR2:=hid RR2;have HWW2:=hid WW2;clear RR2 WW2 lo2
  have b2_0:=HRR2.out.c3 0 rfl
  have g2_0:=HRR2.out.f3 0
  have e2_0:=HRR2.out.c2 0 rfl
  have h2_0:=HRR2.out.f2 0
  have b2_1:=HRR2.out.c3 1 rfl
  have g2_1:=HRR2.out.f3 1
  have e2_1:=HRR2.out.c2 1 rfl
  have h2_1:=HRR2.out.f2 1
  go_wp2_with fail
  have R2:R3 _ w.heap.size [u0,u1] [.slice none 0 0,.slice none 0 0] [.slice ad0 ln0 cap0,.slice ad1 ln1 cap1] 99 80:=(HRR2.out).set 1 (.slice ad1 ln1 cap1)
  have W2:=(HWW2.out).setCell (p:=⟨w.heap.size+1+1,1,none⟩) (by show w.heap.size≤w.heap.size+1+1;omega) (.slice ad1 ln1 cap1)
  have HR2:=hid R2;have HW2:=hid W2;clear R2 W2
  have P2_0:=F2_0.set (b:=w.heap.size+1+1) (by omega) 1 (.slice ad1 ln1 cap1)
  have P2_1:=(Past.refl (w.heap.size+1+1+1) w2).set (b:=w.heap.size+1+1) (by omega) 1 (.slice ad1 ln1 cap1)
  have RB0:R3 _ w.heap.size [u0,u1] [.slice ad0 ln0 cap0,.slice none 0 0] [.slice ad0 ln0 cap0,.slice ad1 ln1 cap1] 99 80:=(HR2.out).setb 0 (.slice ad0 ln0 cap0)
  have RB1:R3 _ w.heap.size [u0,u1] [.slice ad0 ln0 cap0,.slice ad1 ln1 cap1] [.slice ad0 ln0 cap0,.slice ad1 ln1 cap1] 99 80:=RB0.setb 1 (.slice ad1 ln1 cap1)
  have pp0:=RB1.c2 0 rfl
  have pp1:=RB1.c2 1 rfl
  refine bodyPost_ret (v:=.agg #[.slice ad0 ln0 cap0,.slice ad1 ln1 cap1]) (by simp[results,Tryz.results58,go_sem,pp0,pp1]) rfl ?_
  have Z:=setRow_below (g:=w.heap.size+1) [.slice ad0 ln0 cap0,.slice ad1 ln1 cap1] 0 _ (HW2.out) (by omega)
  have Y0:=((P2_0.set (b:=w.heap.size+1) (by omega) 0 (.slice ad0 ln0 cap0)).set (b:=w.heap.size+1) (by omega) 1 (.slice ad1 ln1 cap1))
  have Y1:=((P2_1.set (b:=w.heap.size+1) (by omega) 0 (.slice ad0 ln0 cap0)).set (b:=w.heap.size+1) (by omega) 1 (.slice ad1 ln1 cap1))
  exact⟨[.slice ad0 ln0 cap0,.slice ad1 ln1 cap1],rfl,Z,rfl,all2 ((N0.out.past (Nat.le_refl _) Y0).mono (by omega)) ((N1.out.past (Nat.le_refl _) Y1).mono (by omega))⟩
set_option maxHeartbeats 3200000 in
theorem toProgram_c {sz0:Nat} {x0:List (List D)} (q0:CopyC Tryz.prog 23 (.list sz0 x0)) {sz1:Nat} {x1:List (List D)} (q1:CopyC Tryz.prog 24 (.list sz1 x1)):CopyS Tryz.prog 8 [.list sz0 x0,.list sz1 x1]:=by
  intro B w vs hl hx
  obtain⟨u0,l0,rfl,hl0⟩:=len_cons hl
  obtain⟨u1,l1,rfl,hl1⟩:=len_cons hl0
  obtain rfl:=len_zero hl1
  have D0:=hid (hx 0 _ _ rfl rfl)
  have D1:=hid (hx 1 _ _ rfl rfl)
  clear hx hl hl0 hl1
  have R:=R3.start w [u0,u1] [.slice none 0 0,.slice none 0 0] [.slice none 0 0,.slice none 0 0] 25 30
  have W:=(((Below.refl w.heap.size w).alloc (Nat.le_refl _) (.cells [u0,u1].toArray 25)).alloc (by simp) (.cells [.slice none 0 0,.slice none 0 0].toArray 30)).alloc (by simp;omega) (.cells [.slice none 0 0,.slice none 0 0].toArray 30)
  have HR:=hid R;have HW:=hid W;clear R W
  go_enter Tryz.func8,Tryz.ntmps8
  go_wp2_with fail
  refine(q0 B _ _ (D0.out.frame (below_sameAll HW.out _))).mono ?_
  rintro e w1 ⟨y0,rfl,b1,n0⟩
  obtain⟨ad0,cap0,rfl,_⟩:=n0.dr.slice
  obtain⟨ln0,hln0⟩:∃n,n=x0.length:=⟨_,rfl⟩
  rw[←hln0]at n0 ⊢;clear hln0
  have lo1:w.heap.size+1+1+1≤_:=blk_lt HR.out.c
  have n0:=n0.mono lo1
  have N0:=hid n0;clear n0
  have RR1:=(HR.out).fwd b1
  have WW1:=(HW.out).trans (b1.mono (HW.out).size)
  have HRR1:=hid RR1;have HWW1:=hid WW1;clear RR1 WW1 lo1
  have a1_1:=HRR1.out.c1 1 rfl
  have b1_0:=HRR1.out.c3 0 rfl
  have g1_0:=HRR1.out.f3 0
  have b1_1:=HRR1.out.c3 1 rfl
  have g1_1:=HRR1.out.f3 1
  go_wp2_with fail
  clear a1_1 b1_0 b1_1 g1_0 g1_1
  have R1:R3 _ w.heap.size [u0,u1] [.slice none 0 0,.slice none 0 0] [.slice ad0 ln0 cap0,.slice none 0 0] 25 30:=(HRR1.out).set 0 (.slice ad0 ln0 cap0)
  have W1:=(HWW1.out).setCell (p:=⟨w.heap.size+1+1,0,none⟩) (by show w.heap.size≤w.heap.size+1+1;omega) (.slice ad0 ln0 cap0)
  have HR1:=hid R1;have HW1:=hid W1;clear R1 W1
  have P1_0:=(Past.refl (w.heap.size+1+1+1) w1).set (b:=w.heap.size+1+1) (by omega) 0 (.slice ad0 ln0 cap0)
  refine(q1 B _ _ (D1.out.frame (below_sameAll HW1.out _))).mono ?_
  rintro e w2 ⟨y1,rfl,b2,n1⟩
  obtain⟨ad1,cap1,rfl,_⟩:=n1.dr.slice
  obtain⟨ln1,hln1⟩:∃n,n=x1.length:=⟨_,rfl⟩
  rw[←hln1]at n1 ⊢;clear hln1
  have lo2:w.heap.size+1+1+1≤_:=blk_lt HR1.out.c
  have n1:=n1.mono lo2
  have N1:=hid n1;clear n1
  have F2_0:=P1_0.fwd b2
  have RR2:=(HR1.out).fwd b2
  have WW2:=(HW1.out).trans (b2.mono (HW1.out).size)
  have HRR2:=hid RR2;have HWW2:=hid WW2;clear RR2 WW2 lo2
  have b2_0:=HRR2.out.c3 0 rfl
  have g2_0:=HRR2.out.f3 0
  have e2_0:=HRR2.out.c2 0 rfl
  have h2_0:=HRR2.out.f2 0
  have b2_1:=HRR2.out.c3 1 rfl
  have g2_1:=HRR2.out.f3 1
  have e2_1:=HRR2.out.c2 1 rfl
  have h2_1:=HRR2.out.f2 1
  go_wp2_with fail
  have R2:R3 _ w.heap.size [u0,u1] [.slice none 0 0,.slice none 0 0] [.slice ad0 ln0 cap0,.slice ad1 ln1 cap1] 25 30:=(HRR2.out).set 1 (.slice ad1 ln1 cap1)
  have W2:=(HWW2.out).setCell (p:=⟨w.heap.size+1+1,1,none⟩) (by show w.heap.size≤w.heap.size+1+1;omega) (.slice ad1 ln1 cap1)
  have HR2:=hid R2;have HW2:=hid W2;clear R2 W2
  have P2_0:=F2_0.set (b:=w.heap.size+1+1) (by omega) 1 (.slice ad1 ln1 cap1)
  have P2_1:=(Past.refl (w.heap.size+1+1+1) w2).set (b:=w.heap.size+1+1) (by omega) 1 (.slice ad1 ln1 cap1)
  have RB0:R3 _ w.heap.size [u0,u1] [.slice ad0 ln0 cap0,.slice none 0 0] [.slice ad0 ln0 cap0,.slice ad1 ln1 cap1] 25 30:=(HR2.out).setb 0 (.slice ad0 ln0 cap0)
  have RB1:R3 _ w.heap.size [u0,u1] [.slice ad0 ln0 cap0,.slice ad1 ln1 cap1] [.slice ad0 ln0 cap0,.slice ad1 ln1 cap1] 25 30:=RB0.setb 1 (.slice ad1 ln1 cap1)
  have pp0:=RB1.c2 0 rfl
  have pp1:=RB1.c2 1 rfl
  refine bodyPost_ret (v:=.agg #[.slice ad0 ln0 cap0,.slice ad1 ln1 cap1]) (by simp[results,Tryz.results8,go_sem,pp0,pp1]) rfl ?_
  have Z:=setRow_below (g:=w.heap.size+1) [.slice ad0 ln0 cap0,.slice ad1 ln1 cap1] 0 _ (HW2.out) (by omega)
  have Y0:=((P2_0.set (b:=w.heap.size+1) (by omega) 0 (.slice ad0 ln0 cap0)).set (b:=w.heap.size+1) (by omega) 1 (.slice ad1 ln1 cap1))
  have Y1:=((P2_1.set (b:=w.heap.size+1) (by omega) 0 (.slice ad0 ln0 cap0)).set (b:=w.heap.size+1) (by omega) 1 (.slice ad1 ln1 cap1))
  exact⟨[.slice ad0 ln0 cap0,.slice ad1 ln1 cap1],rfl,Z,rfl,all2 ((N0.out.past (Nat.le_refl _) Y0).mono (by omega)) ((N1.out.past (Nat.le_refl _) Y1).mono (by omega))⟩
set_option maxHeartbeats 3200000 in
theorem markArrayS_k {rows:List (List D)} (h:∀r∈rows,∃(e0:Value),∃(x1:D),r=[.val e0,x1]∧MarkC Tryz.prog 72 x1):MarkC Tryz.prog 34 (.list 2 rows):=by
  intro S w v k hx hk0 hk1
  obtain⟨ad,cap,rfl,hle⟩:=hx.slice
  obtain⟨n,hn⟩:∃n,n=rows.length:=⟨_,rfl⟩
  rw[←hn]at hx hle ⊢
  have Hn:=hid hn;clear hn
  rw[wgt]at hk1 ⊢
  have Hx:=hid hx;clear hx
  have Hk:=hid hk1;clear hk1
  go_enter Tryz.func34,Tryz.ntmps34
  go_wp2
  go_loopw [1,5] (fun q i wr=>∃(j:Nat) (K:Int),j≤n∧i= .int .i64 j∧q= .int .i64 K∧Hid (K=k+wgtR (rows.take j))∧Marked S w wr) (fun _ i _=>n -(intOf i).toNat)
  case atStart=>exact⟨0,k,Nat.zero_le _,rfl,rfl,hid (by simp[wgtR]),Marked.refl _ _⟩
  case round=>
    obtain⟨j,K,hj,rfl,rfl,HK,hm⟩:=hrel
    by_cases hlt:j<n
    · obtain⟨r,hr⟩:∃r,rows[j]?=some r:=⟨_,List.getElem?_eq_getElem (by rw[←Hn.out];exact hlt)⟩
      have hs:=wgtR_take hr
      obtain⟨e0,x1,rfl,q1⟩:=h r (List.mem_of_getElem? hr)
      obtain⟨g1,hg1,q1⟩:∃g,wgt x1=g∧MarkN Tryz.prog 72 x1 g:=⟨_,rfl,q1⟩
      have hs:wgtR (rows.take (j+1))=wgtR (rows.take j)+(1+g1):=by rw[hs];simp only[wgtL,wgt,hg1];try omega
      have hK0:0≤K:=by have:=HK.out;omega
      have hK1:K+(1+g1:Nat)≤4611686018427387904:=by have:=Hk.out;have:=HK.out;have:=wgtR_le rows (j+1);omega
      obtain⟨b,off,rfl,hS,_,_⟩:=(Hx.out.mark hm).at hr (by simp)
      have Hs:=hid hs;clear hs hg1
      have Hr:=hid hr;clear hr
      have Hq:=hid hK1;clear hK1
      have hw:=Hq.out
      go_wp2_with fail
      clear hw
      refine(markText_k _ _ (by omega) (by have:=Hq.out;omega)).mono ?_
      rintro e w1 ⟨t1,rfl,b1⟩
      have M1:=hm.trans (marked_of b1 S)
      obtain⟨u1,c1,f1,d1⟩:=(Hx.out.mark M1).row Hr.out 0 rfl (o:=off+j *2) (by omega)
      have d1:=d1.leaf
      have m1:=M1.trans (Marked.set (t:=.string t1) hS c1 d1 rfl)
      obtain⟨u2,c2,f2,d2⟩:=(Hx.out.mark m1).row Hr.out 1 rfl (o:=off+j *2+1) (by omega)
      have hw:=Hq.out
      go_wp2_with fail
      clear hw
      refine(q1 S _ _ _ d2 (by omega) (by have:=Hq.out;omega)).mono ?_
      rintro e w2 ⟨rfl,b2⟩
      have M2:=m1.trans b2
      have hw:=Hq.out
      go_wp2_with fail
      clear hw
      exact⟨⟨j+1,K+1+(g1:Nat),by omega,rfl,rfl,hid (by have:=HK.out;have:=Hs.out;omega),M2⟩,by simp[intOf];omega⟩
    · have:j=n:=by omega
      subst this
      go_wp2
      go_ret
      exact⟨ret_int (by rw[HK.out,Hn.out,List.take_length]),hm⟩
set_option maxHeartbeats 3200000 in
theorem markAffineS_k {rows:List (List D)} (h:∀r∈rows,∃(e1:Value),∃(x0:D),r=[x0,.val e1]∧MarkC Tryz.prog 72 x0):MarkC Tryz.prog 119 (.list 2 rows):=by
  intro S w v k hx hk0 hk1
  obtain⟨ad,cap,rfl,hle⟩:=hx.slice
  obtain⟨n,hn⟩:∃n,n=rows.length:=⟨_,rfl⟩
  rw[←hn]at hx hle ⊢
  have Hn:=hid hn;clear hn
  rw[wgt]at hk1 ⊢
  have Hx:=hid hx;clear hx
  have Hk:=hid hk1;clear hk1
  go_enter Tryz.func119,Tryz.ntmps119
  go_wp2
  go_loopw [1,5] (fun q i wr=>∃(j:Nat) (K:Int),j≤n∧i= .int .i64 j∧q= .int .i64 K∧Hid (K=k+wgtR (rows.take j))∧Marked S w wr) (fun _ i _=>n -(intOf i).toNat)
  case atStart=>exact⟨0,k,Nat.zero_le _,rfl,rfl,hid (by simp[wgtR]),Marked.refl _ _⟩
  case round=>
    obtain⟨j,K,hj,rfl,rfl,HK,hm⟩:=hrel
    by_cases hlt:j<n
    · obtain⟨r,hr⟩:∃r,rows[j]?=some r:=⟨_,List.getElem?_eq_getElem (by rw[←Hn.out];exact hlt)⟩
      have hs:=wgtR_take hr
      obtain⟨e1,x0,rfl,q0⟩:=h r (List.mem_of_getElem? hr)
      obtain⟨g0,hg0,q0⟩:∃g,wgt x0=g∧MarkN Tryz.prog 72 x0 g:=⟨_,rfl,q0⟩
      have hs:wgtR (rows.take (j+1))=wgtR (rows.take j)+(g0+1):=by rw[hs];simp only[wgtL,wgt,hg0];try omega
      have hK0:0≤K:=by have:=HK.out;omega
      have hK1:K+(g0+1:Nat)≤4611686018427387904:=by have:=Hk.out;have:=HK.out;have:=wgtR_le rows (j+1);omega
      obtain⟨b,off,rfl,hS,_,_⟩:=(Hx.out.mark hm).at hr (by simp)
      have Hs:=hid hs;clear hs hg0
      have Hr:=hid hr;clear hr
      have Hq:=hid hK1;clear hK1
      obtain⟨u1,c1,f1,d1⟩:=(Hx.out.mark hm).row Hr.out 0 rfl (o:=off+j *2) (by omega)
      have hw:=Hq.out
      go_wp2_with fail
      clear hw
      refine(q0 S _ _ _ d1 (by omega) (by have:=Hq.out;omega)).mono ?_
      rintro e w1 ⟨rfl,b1⟩
      have M1:=hm.trans b1
      obtain⟨u2,c2,f2,d2⟩:=(Hx.out.mark M1).row Hr.out 1 rfl (o:=off+j *2+1) (by omega)
      have d2:=d2.leaf
      have m2:=M1.trans (Marked.set (t:=.int .i64 (K+(g0:Nat))) hS c2 d2 rfl)
      have hw:=Hq.out
      go_wp2_with fail
      clear hw
      exact⟨⟨j+1,K+(g0:Nat)+1,by omega,rfl,rfl,hid (by have:=HK.out;have:=Hs.out;omega),m2⟩,by simp[intOf];omega⟩
    · have:j=n:=by omega
      subst this
      go_wp2
      go_ret
      exact⟨ret_int (by rw[HK.out,Hn.out,List.take_length]),hm⟩
set_option maxHeartbeats 3200000 in
theorem markLoopS_k {rows:List (List D)} (h:∀r∈rows,∃(x0 x1:D),r=[x0,x1]∧MarkC Tryz.prog 119 x0∧MarkC Tryz.prog 119 x1):MarkC Tryz.prog 73 (.list 2 rows):=by
  intro S w v k hx hk0 hk1
  obtain⟨ad,cap,rfl,hle⟩:=hx.slice
  obtain⟨n,hn⟩:∃n,n=rows.length:=⟨_,rfl⟩
  rw[←hn]at hx hle ⊢
  have Hn:=hid hn;clear hn
  rw[wgt]at hk1 ⊢
  have Hx:=hid hx;clear hx
  have Hk:=hid hk1;clear hk1
  go_enter Tryz.func73,Tryz.ntmps73
  go_wp2
  go_loopw [1,5] (fun q i wr=>∃(j:Nat) (K:Int),j≤n∧i= .int .i64 j∧q= .int .i64 K∧Hid (K=k+wgtR (rows.take j))∧Marked S w wr) (fun _ i _=>n -(intOf i).toNat)
  case atStart=>exact⟨0,k,Nat.zero_le _,rfl,rfl,hid (by simp[wgtR]),Marked.refl _ _⟩
  case round=>
    obtain⟨j,K,hj,rfl,rfl,HK,hm⟩:=hrel
    by_cases hlt:j<n
    · obtain⟨r,hr⟩:∃r,rows[j]?=some r:=⟨_,List.getElem?_eq_getElem (by rw[←Hn.out];exact hlt)⟩
      have hs:=wgtR_take hr
      obtain⟨x0,x1,rfl,q0,q1⟩:=h r (List.mem_of_getElem? hr)
      obtain⟨g0,hg0,q0⟩:∃g,wgt x0=g∧MarkN Tryz.prog 119 x0 g:=⟨_,rfl,q0⟩
      obtain⟨g1,hg1,q1⟩:∃g,wgt x1=g∧MarkN Tryz.prog 119 x1 g:=⟨_,rfl,q1⟩
      have hs:wgtR (rows.take (j+1))=wgtR (rows.take j)+(g0+g1):=by rw[hs];simp only[wgtL,wgt,hg0,hg1];try omega
      have hK0:0≤K:=by have:=HK.out;omega
      have hK1:K+(g0+g1:Nat)≤4611686018427387904:=by have:=Hk.out;have:=HK.out;have:=wgtR_le rows (j+1);omega
      obtain⟨b,off,rfl,hS,_,_⟩:=(Hx.out.mark hm).at hr (by simp)
      have Hs:=hid hs;clear hs hg0 hg1
      have Hr:=hid hr;clear hr
      have Hq:=hid hK1;clear hK1
      obtain⟨u1,c1,f1,d1⟩:=(Hx.out.mark hm).row Hr.out 0 rfl (o:=off+j *2) (by omega)
      have hw:=Hq.out
      go_wp2_with fail
      clear hw
      refine(q0 S _ _ _ d1 (by omega) (by have:=Hq.out;omega)).mono ?_
      rintro e w1 ⟨rfl,b1⟩
      have M1:=hm.trans b1
      obtain⟨u2,c2,f2,d2⟩:=(Hx.out.mark M1).row Hr.out 1 rfl (o:=off+j *2+1) (by omega)
      have hw:=Hq.out
      go_wp2_with fail
      clear hw
      refine(q1 S _ _ _ d2 (by omega) (by have:=Hq.out;omega)).mono ?_
      rintro e w2 ⟨rfl,b2⟩
      have M2:=M1.trans b2
      have hw:=Hq.out
      go_wp2_with fail
      clear hw
      exact⟨⟨j+1,K+(g0:Nat)+(g1:Nat),by omega,rfl,rfl,hid (by have:=HK.out;have:=Hs.out;omega),M2⟩,by simp[intOf];omega⟩
    · have:j=n:=by omega
      subst this
      go_wp2
      go_ret
      exact⟨ret_int (by rw[HK.out,Hn.out,List.take_length]),hm⟩
set_option maxHeartbeats 3200000 in
theorem markExprS_k {rows:List (List D)} (h:∀r∈rows,∃(e0 e1 e3 e4:Value),∃(x2 x5 x6:D),r=[.val e0,.val e1,x2,.val e3,.val e4,x5,x6]∧MarkC Tryz.prog 72 x2∧MarkC Tryz.prog 119 x5∧MarkC Tryz.prog 120 x6):MarkC Tryz.prog 120 (.list 7 rows):=by
  intro S w v k hx hk0 hk1
  obtain⟨ad,cap,rfl,hle⟩:=hx.slice
  obtain⟨n,hn⟩:∃n,n=rows.length:=⟨_,rfl⟩
  rw[←hn]at hx hle ⊢
  have Hn:=hid hn;clear hn
  rw[wgt]at hk1 ⊢
  have Hx:=hid hx;clear hx
  have Hk:=hid hk1;clear hk1
  go_enter Tryz.func120,Tryz.ntmps120
  go_wp2
  go_loopw [1,5] (fun q i wr=>∃(j:Nat) (K:Int),j≤n∧i= .int .i64 j∧q= .int .i64 K∧Hid (K=k+wgtR (rows.take j))∧Marked S w wr) (fun _ i _=>n -(intOf i).toNat)
  case atStart=>exact⟨0,k,Nat.zero_le _,rfl,rfl,hid (by simp[wgtR]),Marked.refl _ _⟩
  case round=>
    obtain⟨j,K,hj,rfl,rfl,HK,hm⟩:=hrel
    by_cases hlt:j<n
    · obtain⟨r,hr⟩:∃r,rows[j]?=some r:=⟨_,List.getElem?_eq_getElem (by rw[←Hn.out];exact hlt)⟩
      have hs:=wgtR_take hr
      obtain⟨e0,e1,e3,e4,x2,x5,x6,rfl,q2,q5,q6⟩:=h r (List.mem_of_getElem? hr)
      obtain⟨g2,hg2,q2⟩:∃g,wgt x2=g∧MarkN Tryz.prog 72 x2 g:=⟨_,rfl,q2⟩
      obtain⟨g5,hg5,q5⟩:∃g,wgt x5=g∧MarkN Tryz.prog 119 x5 g:=⟨_,rfl,q5⟩
      obtain⟨g6,hg6,q6⟩:∃g,wgt x6=g∧MarkN Tryz.prog 120 x6 g:=⟨_,rfl,q6⟩
      have hs:wgtR (rows.take (j+1))=wgtR (rows.take j)+(1+1+g2+1+1+g5+g6):=by rw[hs];simp only[wgtL,wgt,hg2,hg5,hg6];try omega
      have hK0:0≤K:=by have:=HK.out;omega
      have hK1:K+(1+1+g2+1+1+g5+g6:Nat)≤4611686018427387904:=by have:=Hk.out;have:=HK.out;have:=wgtR_le rows (j+1);omega
      obtain⟨b,off,rfl,hS,_,_⟩:=(Hx.out.mark hm).at hr (by simp)
      have Hs:=hid hs;clear hs hg2 hg5 hg6
      have Hr:=hid hr;clear hr
      have Hq:=hid hK1;clear hK1
      obtain⟨u1,c1,f1,d1⟩:=(Hx.out.mark hm).row Hr.out 0 rfl (o:=off+j *7) (by omega)
      have d1:=d1.leaf
      have m1:=hm.trans (Marked.set (t:=.int .i64 (K)) hS c1 d1 rfl)
      obtain⟨u2,c2,f2,d2⟩:=(Hx.out.mark m1).row Hr.out 1 rfl (o:=off+j *7+1) (by omega)
      have d2:=d2.leaf
      have m2:=m1.trans (Marked.set (t:=.int .i64 (K+1)) hS c2 d2 rfl)
      obtain⟨u3,c3,f3,d3⟩:=(Hx.out.mark m2).row Hr.out 2 rfl (o:=off+j *7+2) (by omega)
      have hw:=Hq.out
      go_wp2_with fail
      clear hw
      refine(q2 S _ _ _ d3 (by omega) (by have:=Hq.out;omega)).mono ?_
      rintro e w1 ⟨rfl,b1⟩
      have M1:=m2.trans b1
      obtain⟨u4,c4,f4,d4⟩:=(Hx.out.mark M1).row Hr.out 3 rfl (o:=off+j *7+2+1) (by omega)
      have d4:=d4.leaf
      have m4:=M1.trans (Marked.set (t:=.int .i64 (K+1+1+(g2:Nat))) hS c4 d4 rfl)
      have hw:=Hq.out
      go_wp2_with fail
      clear hw
      refine(markText_k _ _ (by omega) (by have:=Hq.out;omega)).mono ?_
      rintro e w2 ⟨t2,rfl,b2⟩
      have M2:=m4.trans (marked_of b2 S)
      obtain⟨u5,c5,f5,d5⟩:=(Hx.out.mark M2).row Hr.out 4 rfl (o:=off+j *7+4) (by omega)
      have d5:=d5.leaf
      have m5:=M2.trans (Marked.set (t:=.string t2) hS c5 d5 rfl)
      obtain⟨u6,c6,f6,d6⟩:=(Hx.out.mark m5).row Hr.out 5 rfl (o:=off+j *7+4+1) (by omega)
      have hw:=Hq.out
      go_wp2_with fail
      clear hw
      refine(q5 S _ _ _ d6 (by omega) (by have:=Hq.out;omega)).mono ?_
      rintro e w3 ⟨rfl,b3⟩
      have M3:=m5.trans b3
      obtain⟨u7,c7,f7,d7⟩:=(Hx.out.mark M3).row Hr.out 6 rfl (o:=off+j *7+6) (by omega)
      have hw:=Hq.out
      go_wp2_with fail
      clear hw
      refine(q6 S _ _ _ d7 (by omega) (by have:=Hq.out;omega)).mono ?_
      rintro e w4 ⟨rfl,b4⟩
      have M4:=M3.trans b4
      have hw:=Hq.out
      go_wp2_with fail
      clear hw
      exact⟨⟨j+1,K+1+1+(g2:Nat)+1+1+(g5:Nat)+(g6:Nat),by omega,rfl,rfl,hid (by have:=HK.out;have:=Hs.out;omega),M4⟩,by simp[intOf];omega⟩
    · have:j=n:=by omega
      subst this
      go_wp2
      go_ret
      exact⟨ret_int (by rw[HK.out,Hn.out,List.take_length]),hm⟩
set_option maxHeartbeats 3200000 in
theorem markStmtS_k {rows:List (List D)} (h:∀r∈rows,∃(e0 e2 e3 e5 e6:Value),∃(x1 x4 x7 x8:D),r=[.val e0,x1,.val e2,.val e3,x4,.val e5,.val e6,x7,x8]∧MarkC Tryz.prog 119 x1∧MarkC Tryz.prog 72 x4∧MarkC Tryz.prog 119 x7∧MarkC Tryz.prog 120 x8):MarkC Tryz.prog 74 (.list 9 rows):=by
  intro S w v k hx hk0 hk1
  obtain⟨ad,cap,rfl,hle⟩:=hx.slice
  obtain⟨n,hn⟩:∃n,n=rows.length:=⟨_,rfl⟩
  rw[←hn]at hx hle ⊢
  have Hn:=hid hn;clear hn
  rw[wgt]at hk1 ⊢
  have Hx:=hid hx;clear hx
  have Hk:=hid hk1;clear hk1
  go_enter Tryz.func74,Tryz.ntmps74
  go_wp2
  go_loopw [1,5] (fun q i wr=>∃(j:Nat) (K:Int),j≤n∧i= .int .i64 j∧q= .int .i64 K∧Hid (K=k+wgtR (rows.take j))∧Marked S w wr) (fun _ i _=>n -(intOf i).toNat)
  case atStart=>exact⟨0,k,Nat.zero_le _,rfl,rfl,hid (by simp[wgtR]),Marked.refl _ _⟩
  case round=>
    obtain⟨j,K,hj,rfl,rfl,HK,hm⟩:=hrel
    by_cases hlt:j<n
    · obtain⟨r,hr⟩:∃r,rows[j]?=some r:=⟨_,List.getElem?_eq_getElem (by rw[←Hn.out];exact hlt)⟩
      have hs:=wgtR_take hr
      obtain⟨e0,e2,e3,e5,e6,x1,x4,x7,x8,rfl,q1,q4,q7,q8⟩:=h r (List.mem_of_getElem? hr)
      obtain⟨g1,hg1,q1⟩:∃g,wgt x1=g∧MarkN Tryz.prog 119 x1 g:=⟨_,rfl,q1⟩
      obtain⟨g4,hg4,q4⟩:∃g,wgt x4=g∧MarkN Tryz.prog 72 x4 g:=⟨_,rfl,q4⟩
      obtain⟨g7,hg7,q7⟩:∃g,wgt x7=g∧MarkN Tryz.prog 119 x7 g:=⟨_,rfl,q7⟩
      obtain⟨g8,hg8,q8⟩:∃g,wgt x8=g∧MarkN Tryz.prog 120 x8 g:=⟨_,rfl,q8⟩
      have hs:wgtR (rows.take (j+1))=wgtR (rows.take j)+(1+g1+1+1+g4+1+1+g7+g8):=by rw[hs];simp only[wgtL,wgt,hg1,hg4,hg7,hg8];try omega
      have hK0:0≤K:=by have:=HK.out;omega
      have hK1:K+(1+g1+1+1+g4+1+1+g7+g8:Nat)≤4611686018427387904:=by have:=Hk.out;have:=HK.out;have:=wgtR_le rows (j+1);omega
      obtain⟨b,off,rfl,hS,_,_⟩:=(Hx.out.mark hm).at hr (by simp)
      have Hs:=hid hs;clear hs hg1 hg4 hg7 hg8
      have Hr:=hid hr;clear hr
      have Hq:=hid hK1;clear hK1
      have hw:=Hq.out
      go_wp2_with fail
      clear hw
      refine(markText_k _ _ (by omega) (by have:=Hq.out;omega)).mono ?_
      rintro e w1 ⟨t1,rfl,b1⟩
      have M1:=hm.trans (marked_of b1 S)
      obtain⟨u1,c1,f1,d1⟩:=(Hx.out.mark M1).row Hr.out 0 rfl (o:=off+j *9) (by omega)
      have d1:=d1.leaf
      have m1:=M1.trans (Marked.set (t:=.string t1) hS c1 d1 rfl)
      obtain⟨u2,c2,f2,d2⟩:=(Hx.out.mark m1).row Hr.out 1 rfl (o:=off+j *9+1) (by omega)
      have hw:=Hq.out
      go_wp2_with fail
      clear hw
      refine(q1 S _ _ _ d2 (by omega) (by have:=Hq.out;omega)).mono ?_
      rintro e w2 ⟨rfl,b2⟩
      have M2:=m1.trans b2
      obtain⟨u3,c3,f3,d3⟩:=(Hx.out.mark M2).row Hr.out 2 rfl (o:=off+j *9+2) (by omega)
      have d3:=d3.leaf
      have m3:=M2.trans (Marked.set (t:=.int .i64 (K+1+(g1:Nat))) hS c3 d3 rfl)
      obtain⟨u4,c4,f4,d4⟩:=(Hx.out.mark m3).row Hr.out 3 rfl (o:=off+j *9+2+1) (by omega)
      have d4:=d4.leaf
      have m4:=m3.trans (Marked.set (t:=.int .i64 (K+1+(g1:Nat)+1)) hS c4 d4 rfl)
      obtain⟨u5,c5,f5,d5⟩:=(Hx.out.mark m4).row Hr.out 4 rfl (o:=off+j *9+2+2) (by omega)
      have hw:=Hq.out
      go_wp2_with fail
      clear hw
      refine(q4 S _ _ _ d5 (by omega) (by have:=Hq.out;omega)).mono ?_
      rintro e w3 ⟨rfl,b3⟩
      have M3:=m4.trans b3
      obtain⟨u6,c6,f6,d6⟩:=(Hx.out.mark M3).row Hr.out 5 rfl (o:=off+j *9+2+2+1) (by omega)
      have d6:=d6.leaf
      have m6:=M3.trans (Marked.set (t:=.int .i64 (K+1+(g1:Nat)+1+1+(g4:Nat))) hS c6 d6 rfl)
      have hw:=Hq.out
      go_wp2_with fail
      clear hw
      refine(markText_k _ _ (by omega) (by have:=Hq.out;omega)).mono ?_
      rintro e w4 ⟨t4,rfl,b4⟩
      have M4:=m6.trans (marked_of b4 S)
      obtain⟨u7,c7,f7,d7⟩:=(Hx.out.mark M4).row Hr.out 6 rfl (o:=off+j *9+2+4) (by omega)
      have d7:=d7.leaf
      have m7:=M4.trans (Marked.set (t:=.string t4) hS c7 d7 rfl)
      obtain⟨u8,c8,f8,d8⟩:=(Hx.out.mark m7).row Hr.out 7 rfl (o:=off+j *9+2+4+1) (by omega)
      have hw:=Hq.out
      go_wp2_with fail
      clear hw
      refine(q7 S _ _ _ d8 (by omega) (by have:=Hq.out;omega)).mono ?_
      rintro e w5 ⟨rfl,b5⟩
      have M5:=m7.trans b5
      obtain⟨u9,c9,f9,d9⟩:=(Hx.out.mark M5).row Hr.out 8 rfl (o:=off+j *9+2+6) (by omega)
      have hw:=Hq.out
      go_wp2_with fail
      clear hw
      refine(q8 S _ _ _ d9 (by omega) (by have:=Hq.out;omega)).mono ?_
      rintro e w6 ⟨rfl,b6⟩
      have M6:=M5.trans b6
      have hw:=Hq.out
      go_wp2_with fail
      clear hw
      exact⟨⟨j+1,K+1+(g1:Nat)+1+1+(g4:Nat)+1+1+(g7:Nat)+(g8:Nat),by omega,rfl,rfl,hid (by have:=HK.out;have:=Hs.out;omega),M6⟩,by simp[intOf];omega⟩
    · have:j=n:=by omega
      subst this
      go_wp2
      go_ret
      exact⟨ret_int (by rw[HK.out,Hn.out,List.take_length]),hm⟩
set_option maxHeartbeats 3200000 in
theorem markPartS_k {rows:List (List D)} (h:∀r∈rows,∃(x0 x1:D),r=[x0,x1]∧MarkC Tryz.prog 73 x0∧MarkC Tryz.prog 74 x1):MarkC Tryz.prog 35 (.list 2 rows):=by
  intro S w v k hx hk0 hk1
  obtain⟨ad,cap,rfl,hle⟩:=hx.slice
  obtain⟨n,hn⟩:∃n,n=rows.length:=⟨_,rfl⟩
  rw[←hn]at hx hle ⊢
  have Hn:=hid hn;clear hn
  rw[wgt]at hk1 ⊢
  have Hx:=hid hx;clear hx
  have Hk:=hid hk1;clear hk1
  go_enter Tryz.func35,Tryz.ntmps35
  go_wp2
  go_loopw [1,5] (fun q i wr=>∃(j:Nat) (K:Int),j≤n∧i= .int .i64 j∧q= .int .i64 K∧Hid (K=k+wgtR (rows.take j))∧Marked S w wr) (fun _ i _=>n -(intOf i).toNat)
  case atStart=>exact⟨0,k,Nat.zero_le _,rfl,rfl,hid (by simp[wgtR]),Marked.refl _ _⟩
  case round=>
    obtain⟨j,K,hj,rfl,rfl,HK,hm⟩:=hrel
    by_cases hlt:j<n
    · obtain⟨r,hr⟩:∃r,rows[j]?=some r:=⟨_,List.getElem?_eq_getElem (by rw[←Hn.out];exact hlt)⟩
      have hs:=wgtR_take hr
      obtain⟨x0,x1,rfl,q0,q1⟩:=h r (List.mem_of_getElem? hr)
      obtain⟨g0,hg0,q0⟩:∃g,wgt x0=g∧MarkN Tryz.prog 73 x0 g:=⟨_,rfl,q0⟩
      obtain⟨g1,hg1,q1⟩:∃g,wgt x1=g∧MarkN Tryz.prog 74 x1 g:=⟨_,rfl,q1⟩
      have hs:wgtR (rows.take (j+1))=wgtR (rows.take j)+(g0+g1):=by rw[hs];simp only[wgtL,wgt,hg0,hg1];try omega
      have hK0:0≤K:=by have:=HK.out;omega
      have hK1:K+(g0+g1:Nat)≤4611686018427387904:=by have:=Hk.out;have:=HK.out;have:=wgtR_le rows (j+1);omega
      obtain⟨b,off,rfl,hS,_,_⟩:=(Hx.out.mark hm).at hr (by simp)
      have Hs:=hid hs;clear hs hg0 hg1
      have Hr:=hid hr;clear hr
      have Hq:=hid hK1;clear hK1
      obtain⟨u1,c1,f1,d1⟩:=(Hx.out.mark hm).row Hr.out 0 rfl (o:=off+j *2) (by omega)
      have hw:=Hq.out
      go_wp2_with fail
      clear hw
      refine(q0 S _ _ _ d1 (by omega) (by have:=Hq.out;omega)).mono ?_
      rintro e w1 ⟨rfl,b1⟩
      have M1:=hm.trans b1
      obtain⟨u2,c2,f2,d2⟩:=(Hx.out.mark M1).row Hr.out 1 rfl (o:=off+j *2+1) (by omega)
      have hw:=Hq.out
      go_wp2_with fail
      clear hw
      refine(q1 S _ _ _ d2 (by omega) (by have:=Hq.out;omega)).mono ?_
      rintro e w2 ⟨rfl,b2⟩
      have M2:=M1.trans b2
      have hw:=Hq.out
      go_wp2_with fail
      clear hw
      exact⟨⟨j+1,K+(g0:Nat)+(g1:Nat),by omega,rfl,rfl,hid (by have:=HK.out;have:=Hs.out;omega),M2⟩,by simp[intOf];omega⟩
    · have:j=n:=by omega
      subst this
      go_wp2
      go_ret
      exact⟨ret_int (by rw[HK.out,Hn.out,List.take_length]),hm⟩
end Go.Proofs.YtollooimmfngjaaGreat
namespace Go.Proofs.YtollooimmfngjaaGreat
set_option linter.unusedVariables false
set_option linter.unusedSimpArgs false
open Go.ChangeShapes Go.WideShapes Go.ChangeAt Go.RowKit
def Rs (w:World) (ds:List D) (cs:List Value):Prop:=cs.length=ds.length∧∀(i:Nat) d v,ds[i]?=some d→cs[i]?=some v→Dr (fun b=>b<w.heap.size) w d v
theorem Rs.app {w:World} {a b:List D} {c e:List Value} (h:Rs w a c) (h2:Rs w b e):Rs w (a++b) (c++e):=by
  refine⟨by rw[List.length_append,List.length_append,h.1,h2.1],fun i d v hd hv=>?_⟩
  rw[List.getElem?_append]at hd hv
  rw[h.1]at hv
  split at hd
  ·rename_i hi;rw[if_pos hi]at hv;exact h.2 i d v hd hv
  ·rename_i hi;rw[if_neg hi]at hv;exact h2.2 _ d v hd hv
theorem Rs.one {w:World} {d:D} {v:Value} (h:Dr (fun b=>b<w.heap.size) w d v):Rs w [d] [v]:=by
  refine⟨rfl,fun i d' v' hd hv=>?_⟩
  match i,hd,hv with
  |0,hd,hv=>cases hd;cases hv;exact h
section
variable {H : Type} (enc : TypeId × Value → H) (P : Program) (w : World) (spare : Nat → Bool) (held : Bool)
def OpF (n:Nat) (t:TypeId) {α:Type} (f:α→List D) (ok:α→Prop):Prop:=
  ∀fuel,fuel≤n→∀(cs:List Value) (x:DataW H×List MemPlace),DataW.trod enc P w 0 spare held fuel t cs=some x→(∀m∈x.1.weights P t,m≤reachBytes)→∃a,ok a∧Rs w (f a) cs
end
section
variable {H : Type} {enc : TypeId × Value → H} {P : Program} {w : World} {spare : Nat → Bool} {held : Bool} {n : Nat} {t e : TypeId}
theorem opInt (ht:P.underlying t=some (.int .i64)):OpF enc P w spare held n t rI (fun m=>(Lit.int .i64 m).wf=true):=fun fuel _ cs x h _=>by
  obtain⟨m,rfl,_,hw⟩:=DataW.trod_int ht h
  exact⟨m,hw,.one (.val _ rfl)⟩
theorem opStr (ht:P.underlying t=some .string):OpF enc P w spare held n t (fun s:ByteArray=>[D.val (.string s)]) (fun s=>s.size≤140737488351232):=fun fuel _ cs x h hw=>by
  obtain⟨s,rfl,rfl,_⟩:=DataW.trod_string ht h
  refine⟨s,?_,.one (.val _ rfl)⟩
  have:=hw s.data.toList.length (by simp[DataW.weights])
  show s.size≤_
  rw[show s.size=s.data.toList.length from(Array.length_toList (xs:=s.data)).symm];exact this
theorem opSlice {α:Type} {f:α→List D} {ok:α→Prop} (sz by':Nat) (ht:P.underlying t=some (.slice e)) (hc:P.cellsOf e=sz) (hb:P.bytesOf e=by') (h8:(Nat.ble 8 by'&&Nat.ble 1 sz)=true) (he:OpF enc P w spare held n e f ok):
    OpF enc P w spare held (n+1) t (fun l:List α=>[D.list sz (l.map f)]) (fun l=>l.length≤17592186044416∧∀a∈l,ok a):=fun fuel hfu cs x h hw=>by
  rw[Bool.and_eq_true]at h8
  have hsz:=Nat.le_of_ble_eq_true h8.2
  have h8':=Nat.le_of_ble_eq_true h8.1
  have hz0:∀b:Addr,b.add 0=b:=fun b=>if_pos rfl
  rcases DataW.trod_slice ht h with⟨rfl,rfl⟩|⟨a,len,cap,elems,rest,n0,hf0,rfl,rfl,_,hl,_,hlen,hel,_,_⟩
  ·exact⟨[],⟨Nat.zero_le _,fun a h=>by cases h⟩,.one (Dr.list sz [] none 0 0 0 0 (fun _ _=>undef) rfl (Nat.le_refl _) (by omega) (fun _=>rfl) (fun h=>by simp at h) (fun i r h=>by simp at h) (fun i r j x h=>by simp at h) (fun i r j x h=>by simp at h))⟩
  · have hwt : (elems.length + rest.length) * by' ≤ reachBytes := by
      have:=hw ((elems.length+rest.length) *P.bytesOf e) (by simp[DataW.weights,ht])
      rwa[hb]at this
    have hlen2:len≤17592186044416:=by
      have h1:(elems.length+rest.length) *8≤(elems.length+rest.length) *by':=Nat.mul_le_mul_left _ h8'
      have h2:reachBytes=140737488351232:=rfl
      omega
    have hin:∀y∈elems,∀m∈y.1.weights P e,m≤reachBytes:=fun y hy m hm=>by
      refine hw m ?_
      have key:∀(l:List (DataW H×List MemPlace)),y∈l→m∈DataW.weightsAll P e (l.map (·.1)):=by
        intro l
        induction l with
        |nil=>intro h;cases h
        |cons z l ih=>
          intro h
          rw[List.map_cons,DataW.weightsAll,List.mem_append]
          rcases List.mem_cons.1 h with rfl|h
          ·exact .inl hm
          ·exact .inr (ih h)
      simp only[DataW.weights,ht,List.mem_cons,List.mem_append]
      exact .inr (.inl (key elems hy))
    have hex:∀i:Fin len,∃(a0:α) (ci:List Value),ok a0∧w.cells? 0 (a.add (i.1 *sz)) sz=some ci∧Rs w (f a0) ci:=fun i=>by
      have h1:=hel i.1 i.2
      rw[hc]at h1
      obtain⟨y,hy⟩:∃y,elems[i.1]?=some y:=⟨_,List.getElem?_eq_getElem (by omega)⟩
      rw[hy,Option.bind_eq_some_iff]at h1
      obtain⟨ci,h2,h3⟩:=h1
      obtain⟨a0,h4,h5⟩:=he n0 (by omega) ci y h3 (hin y (List.mem_of_getElem? hy))
      exact⟨a0,ci,h4,h2,h5⟩
    let g:Fin len→α:=fun i=>(hex i).choose
    let c:Fin len→List Value:=fun i=>(hex i).choose_spec.choose
    have hg:∀i:Fin len,ok (g i)∧w.cells? 0 (a.add (i.1 *sz)) sz=some (c i)∧Rs w (f (g i)) (c i):=fun i=>(hex i).choose_spec.choose_spec
    have hget:∀(i:Nat) r,((List.ofFn g).map f)[i]?=some r→∃hi:i<len,r=f (g ⟨i,hi⟩):=fun i r hr=>by
      rw[List.getElem?_map,List.getElem?_ofFn]at hr
      split at hr
      ·rename_i hi;exact⟨hi,(Option.some.inj hr).symm⟩
      ·cases hr
    have hcell:∀(i:Nat) (hi:i<len) (j:Nat) u,(c ⟨i,hi⟩)[j]?=some u→a.spot=none∧w.cell? ⟨a.block,a.off+(i *sz+j),none⟩=some u:=fun i hi j u hu=>by
      obtain⟨_,h2,_⟩:=hg ⟨i,hi⟩
      obtain⟨_,h3,h4⟩:=World.cells?_some h2
      have hj:j<sz:=by rw[←h3];exact(List.getElem?_eq_some_iff.1 hu).1
      have h5:=h4 j hj
      rw[hu]at h5
      have hs:a.spot=none:=by
        have h0:=(World.cells?_some (hg ⟨0,by omega⟩).2.1).2.2 0 (by omega)
        rw[Nat.zero_mul,hz0]at h0
        obtain⟨u0,hu0⟩:∃u0,(c ⟨0,by omega⟩)[0]?=some u0:=⟨_,List.getElem?_eq_getElem (i:=0) (by rw[(World.cells?_some (hg ⟨0,by omega⟩).2.1).2.1];omega)⟩
        rw[hz0,hu0]at h0
        exact World.cell?_spot h0
      refine⟨hs,?_⟩
      obtain⟨b,o,s⟩:=a
      simp only at hs
      subst hs
      rw[Addr.add_lit,Addr.add_lit,Nat.add_assoc]at h5
      exact h5
    refine⟨List.ofFn g,⟨by rw[List.length_ofFn];exact hlen2,fun y hy=>?_⟩,.one ?_⟩
    · obtain⟨i,rfl⟩:=(List.mem_ofFn (f:=g)).1 hy
      exact(hg i).1
    · refine Dr.list sz _ (some a) len cap a.block a.off (fun i j=>if hi:i<len then(c ⟨i,hi⟩).getD j undef else undef) (by rw[List.length_map,List.length_ofFn]) hl hlen2 (fun h=>by cases h) (fun h0=>?_) (fun i r hr=>?_) (fun i r j y hr hj=>?_) (fun i r j y hr hj=>?_)
      · obtain⟨u0,hu0⟩:∃u0,(c ⟨0,h0⟩)[0]?=some u0:=⟨_,List.getElem?_eq_getElem (i:=0) (by rw[(World.cells?_some (hg ⟨0,h0⟩).2.1).2.1];omega)⟩
        have:=(hcell 0 h0 0 u0 hu0).1
        obtain⟨b,o,s⟩:=a
        simp only at this
        subst this;rfl
      · obtain⟨hi,rfl⟩:=hget i r hr
        rw[←(hg ⟨i,hi⟩).2.2.1,(World.cells?_some (hg ⟨i,hi⟩).2.1).2.1]
      all_goals
        obtain⟨hi,rfl⟩:=hget i r hr
        have hjl:j<(c ⟨i,hi⟩).length:=by rw[(hg ⟨i,hi⟩).2.2.1];exact(List.getElem?_eq_some_iff.1 hj).1
        have hu:(c ⟨i,hi⟩)[j]?=some ((c ⟨i,hi⟩).getD j undef):=by rw[List.getD_eq_getElem?_getD,List.getElem?_eq_getElem hjl];rfl
        simp only[dif_pos hi]
      · have:=(hcell i hi j _ hu).2
        exact⟨World.block_lt_of_cell? w ⟨a.block,a.off+(i *sz+j),none⟩ this,this⟩
      ·exact(hg ⟨i,hi⟩).2.2.2 j y _ hj hu
theorem opStruct2 {α β:Type} {f:α→List D} {g:β→List D} {oa:α→Prop} {ob:β→Prop} {f0 f1:Field} (ht:P.underlying t=some (.struct #[f0,f1])) (h0:(f0.offset,f1.offset,P.cellsOf t)=(0,P.cellsOf f0.type,P.cellsOf f0.type+P.cellsOf f1.type))
    (ha:OpF enc P w spare held n f0.type f oa) (hb:OpF enc P w spare held n f1.type g ob):OpF enc P w spare held n t (fun x:α×β=>f x.1++g x.2) (fun x=>oa x.1∧ob x.2):=fun fuel hfu cs x h hw=>by
  simp only[Prod.mk.injEq]at h0
  obtain⟨e0,e1,e2⟩:=h0
  obtain⟨xs,m,hm,rfl,hl,hlen,hf⟩:=DataW.trod_struct ht h
  match xs,hlen with
  |[y0,y1],_=>
    have t0:=hf 0 f0 rfl
    have t1:=hf 1 f1 rfl
    rw[e0,List.drop_zero]at t0
    rw[e1,List.take_of_length_le (by rw[List.length_drop];omega)]at t1
    have hwt:∀m,m∈y0.1.weights P f0.type++y1.1.weights P f1.type→m≤reachBytes:=fun m hm=>hw m (by simpa [DataW.weights,ht,DataW.weightsEach]using hm)
    obtain⟨a,a1,a2⟩:=ha m (by omega) _ _ t0 fun m hm=>hwt m (List.mem_append_left _ hm)
    obtain⟨b,b1,b2⟩:=hb m (by omega) _ _ t1 fun m hm=>hwt m (List.mem_append_right _ hm)
    exact⟨(a,b),⟨a1,b1⟩,by rw[←List.take_append_drop (P.cellsOf f0.type) cs];exact a2.app b2⟩
theorem opStruct5 {α β γ δ ε:Type} {f:α→List D} {g:β→List D} {i:γ→List D} {j:δ→List D} {k:ε→List D} {oa:α→Prop} {ob:β→Prop} {oc:γ→Prop} {od:δ→Prop} {oe:ε→Prop} {f0 f1 f2 f3 f4:Field} (ht:P.underlying t=some (.struct #[f0,f1,f2,f3,f4])) (n0 n1 n2 n3 n4:Nat)
    (h0:(f0.offset,f1.offset,f2.offset,f3.offset,f4.offset,P.cellsOf t)=(0,n0,n0+n1,n0+n1+n2,n0+n1+n2+n3,n0+n1+n2+n3+n4)) (hn:(P.cellsOf f0.type,P.cellsOf f1.type,P.cellsOf f2.type,P.cellsOf f3.type,P.cellsOf f4.type)=(n0,n1,n2,n3,n4))
    (ha:OpF enc P w spare held n f0.type f oa) (hb:OpF enc P w spare held n f1.type g ob) (hc:OpF enc P w spare held n f2.type i oc) (hd:OpF enc P w spare held n f3.type j od) (he:OpF enc P w spare held n f4.type k oe):
    ∀fuel,fuel≤n+1→∀(cs:List Value) (x:DataW H×List MemPlace),DataW.trod enc P w 0 spare held fuel t cs=some x→(∀m∈x.1.weights P t,m≤reachBytes)→∃a b c d e,(oa a∧ob b∧oc c∧od d∧oe e)∧Rs w (f a++(g b++(i c++(j d++k e)))) cs:=fun fuel hfu cs x h hw=>by
  simp only[Prod.mk.injEq]at h0 hn
  obtain⟨e0,e1,e2,e3,e4,e5⟩:=h0
  obtain⟨q0,q1,q2,q3,q4⟩:=hn
  obtain⟨xs,m,hm,rfl,hl,hlen,hf⟩:=DataW.trod_struct ht h
  match xs,hlen with
  |[y0,y1,y2,y3,y4],_=>
    have t0:=hf 0 f0 rfl
    have t1:=hf 1 f1 rfl
    have t2:=hf 2 f2 rfl
    have t3:=hf 3 f3 rfl
    have t4:=hf 4 f4 rfl
    rw[e0,List.drop_zero,q0]at t0
    rw[e1,q1]at t1
    rw[e2,q2]at t2
    rw[e3,q3]at t3
    rw[e4,q4,List.take_of_length_le (by rw[List.length_drop];omega)]at t4
    have hwt:∀m,m∈y0.1.weights P f0.type++(y1.1.weights P f1.type++(y2.1.weights P f2.type++(y3.1.weights P f3.type++y4.1.weights P f4.type)))→m≤reachBytes:=fun m hm=>hw m (by simpa [DataW.weights,ht,DataW.weightsEach]using hm)
    simp only[List.mem_append]at hwt
    obtain⟨a,a1,a2⟩:=ha m (by omega) _ _ t0 fun m hm=>hwt m (by simp[hm])
    obtain⟨b,b1,b2⟩:=hb m (by omega) _ _ t1 fun m hm=>hwt m (by simp[hm])
    obtain⟨c,c1,c2⟩:=hc m (by omega) _ _ t2 fun m hm=>hwt m (by simp[hm])
    obtain⟨d,d1,d2⟩:=hd m (by omega) _ _ t3 fun m hm=>hwt m (by simp[hm])
    obtain⟨e,g1,g2⟩:=he m (by omega) _ _ t4 fun m hm=>hwt m (by simp[hm])
    refine⟨a,b,c,d,e,⟨a1,b1,c1,d1,g1⟩,?_⟩
    have ecs:cs=cs.take n0++((cs.drop n0).take n1++((cs.drop (n0+n1)).take n2++((cs.drop (n0+n1+n2)).take n3++cs.drop (n0+n1+n2+n3)))):=by
      rw[show cs.drop (n0+n1+n2+n3)=(cs.drop (n0+n1+n2)).drop n3 by rw[List.drop_drop],List.take_append_drop,show cs.drop (n0+n1+n2)=(cs.drop (n0+n1)).drop n2 by rw[List.drop_drop],List.take_append_drop,show cs.drop (n0+n1)=(cs.drop n0).drop n1 by rw[List.drop_drop],List.take_append_drop,List.take_append_drop]
    rw[ecs]
    exact a2.app (b2.app (c2.app (d2.app g2)))
theorem OpF.mono {α:Type} {f:α→List D} {ok ok':α→Prop} {m:Nat} (h:OpF enc P w spare held n t f ok) (hm:m≤n) (hok:∀a,ok a→ok' a):OpF enc P w spare held m t f ok':=fun fuel hf cs x hx hw=>by
  obtain⟨a,h1,h2⟩:=h fuel (by omega) cs x hx hw
  exact⟨a,hok a h1,h2⟩
end
end Go.Proofs.YtollooimmfngjaaGreat
namespace Go.Proofs.YtollooimmfngjaaGreat
set_option linter.unusedVariables false
set_option linter.unusedSimpArgs false
open Go.RowKit
section
variable {P : Program} {n : Nat} {ops : Array Oper} {o : Oper} {σ : St} {d : Nat} {t t2 : TypeId} {x y : Operand} {a b : ByteArray}
def sEq (a b:ByteArray):Bool:=a.toList==b.toList
def sLt (a b:ByteArray):Bool:=Op.bytesLess a.toList b.toList
theorem St1.eqS (h4:(o.op,o.guard,o.dst,Nat.blt d n)=(Op.binOp .eql t x y t2,none,some d,true)) (hx:ev σ x=some (.o (st1 a))) (hy:ev σ y=some (.o (st1 b))):
    St1 P n ops o σ (rd x++rd y) [.t d] ((.t d,.v (.o (bo1 (sEq a b))))::σ):=by
  simp only[Prod.mk.injEq]at h4
  exact St1.bin h4.1 h4.2.1 h4.2.2.1 h4.2.2.2 hx hy (fun w=>by simp[eqGuard,binOp,Op.stringOp,sEq]) rfl
theorem St1.neS (h4:(o.op,o.guard,o.dst,Nat.blt d n)=(Op.binOp .neq t x y t2,none,some d,true)) (hx:ev σ x=some (.o (st1 a))) (hy:ev σ y=some (.o (st1 b))):
    St1 P n ops o σ (rd x++rd y) [.t d] ((.t d,.v (.o (bo1 (!sEq a b))))::σ):=by
  simp only[Prod.mk.injEq]at h4
  exact St1.bin h4.1 h4.2.1 h4.2.2.1 h4.2.2.2 hx hy (fun w=>by simp[eqGuard,binOp,Op.stringOp,sEq]) rfl
theorem St1.geS (h4:(o.op,o.guard,o.dst,Nat.blt d n)=(Op.binOp .geq t x y t2,none,some d,true)) (hx:ev σ x=some (.o (st1 a))) (hy:ev σ y=some (.o (st1 b))):
    St1 P n ops o σ (rd x++rd y) [.t d] ((.t d,.v (.o (bo1 (!sLt a b))))::σ):=by
  simp only[Prod.mk.injEq]at h4
  exact St1.bin h4.1 h4.2.1 h4.2.2.1 h4.2.2.2 hx hy (fun w=>by simp[eqGuard,binOp,Op.stringOp,sLt]) rfl
theorem St1.leS (h4:(o.op,o.guard,o.dst,Nat.blt d n)=(Op.binOp .leq t x y t2,none,some d,true)) (hx:ev σ x=some (.o (st1 a))) (hy:ev σ y=some (.o (st1 b))):
    St1 P n ops o σ (rd x++rd y) [.t d] ((.t d,.v (.o (bo1 (sLt a b||sEq a b))))::σ):=by
  simp only[Prod.mk.injEq]at h4
  exact St1.bin h4.1 h4.2.1 h4.2.2.1 h4.2.2.2 hx hy (fun w=>by simp[eqGuard,binOp,Op.stringOp,sEq,sLt]) rfl
end
theorem sEq_iff {a b:ByteArray}:sEq a b=true↔a=b:=Lib.bytes_beq_iff a b
/-! ### Statements -/
def dS (s:ByteArray):D:=.val (.string s)
abbrev Acc:=ByteArray×List Aff
def rC (a:Acc):List D:=[dS a.1,dAs a.2]
def dCs (l:List Acc):D:=.list 2 (l.map rC)
inductive Ex where
  |mk (k n:Int) (i:Aff) (r:Acc) (ks:List Ex)
namespace Ex
def k:Ex→Int| .mk k _ _ _ _=>k
def n:Ex→Int| .mk _ n _ _ _=>n
def i:Ex→Aff| .mk _ _ i _ _=>i
def r:Ex→Acc| .mk _ _ _ r _=>r
def ks:Ex→List Ex| .mk _ _ _ _ ks=>ks
end Ex
theorem Ex.eta (e:Ex):Ex.mk e.k e.n e.i e.r e.ks=e:=by cases e;rfl
mutual
def rE:Ex→List D
  | .mk k n i r ks=>[dI k,dI n,dIs i.1,dI i.2,dS r.1,dAs r.2,.list 7 (rEs ks)]
def rEs:List Ex→List (List D)
  |[]=>[]
  |e::l=>rE e::rEs l
end
theorem rEs_map:∀l:List Ex,rEs l=l.map rE
  |[]=>rfl
  |e::l=>by rw[rEs,rEs_map l];rfl
def dEs (l:List Ex):D:=.list 7 (l.map rE)
def rX (e:Ex):List D:=[dI e.k,dI e.n,dIs e.i.1,dI e.i.2,dS e.r.1,dAs e.r.2,dEs e.ks]
theorem rE_eq (e:Ex):rE e=rX e:=by
  cases e with
  |mk k n i r ks=>rw[rE,rEs_map];rfl
theorem rE_at {l:List Ex} {j:Nat} {e:Ex} (h:l[j]?=some e):(l.map rE)[j]?=some (rX e):=by rw[←rE_eq];exact map_at h
abbrev Stm:=Acc×Ex
def rS (s:Stm):List D:=[dS s.1.1,dAs s.1.2,dI s.2.k,dI s.2.n,dIs s.2.i.1,dI s.2.i.2,dS s.2.r.1,dAs s.2.r.2,dEs s.2.ks]
theorem Ex.rec' {p:Ex→Prop} (h:∀e:Ex,(∀x∈e.ks,p x)→p e):∀e,p e
  | .mk k n i r ks=>h (.mk k n i r ks) fun x (_:x∈ks)=>Ex.rec' h x
def arrB (b:UInt8):Bool:=decide (65≤b.toNat∧b.toNat≤68)
def arrV (s:ByteArray):Bool:=match s.data.toList with
  |[b]=>arrB b
  |_=>false
set_option maxHeartbeats 1000000 in
theorem indexByte_any (s:ByteArray) (c:Int) (w:World):Calls Tryz.prog 198 #[.string s,.int .u8 c] w fun e w'=>e= .returned (.int .i64 (Lib.indexByte s.data.toList c.toNat.toUInt8))∧w=w':=by
  go_enter Tryz.func198,Tryz.ntmps198
  go_wp2
  rw[run_callFunc_extern Tryz.func202 (by kernel_rfl) (by kernel_rfl) (by kernel_rfl) (e:=Extern.BytealgIndexByte.indexByte) (by kernel_rfl),Lib.run_indexByteString]
  simp only[Result.andThen]
  rw[Oper.upon_value]
  go_wp2
  go_ret
  exact⟨rfl,rfl⟩
theorem idx_arr (b:UInt8):decide (0≤Lib.indexByte [65,66,67,68] b)=arrB b:=by
  have h:∀n:Fin 256,decide (0≤Lib.indexByte [65,66,67,68] (UInt8.ofNat n.val))=arrB (UInt8.ofNat n.val):=by decide +kernel
  have:=h ⟨b.toNat,b.toNat_lt⟩
  simpa using this
def sABCD:ByteArray:=⟨#[65,66,67,68]⟩
set_option maxHeartbeats 1000000 in
theorem index1_any (s:ByteArray) (b:UInt8) (hs:s.data.toList=[b]) (w:World):Calls Tryz.prog 193 #[.string sABCD,.string s] w fun e w'=>e= .returned (.int .i64 (Lib.indexByte [65,66,67,68] b))∧w=w':=by
  have h1:s.size=1:=by rw[Lib.size_eq,hs];rfl
  have hne:(s.toList==sABCD.toList)=false:=by
    rw[Lib.bytes_beq_false_iff]
    intro e
    rw[e]at h1
    exact absurd h1 (by decide)
  go_enter Tryz.func193,Tryz.ntmps193
  go_wp2_with fail
  refine(indexByte_any _ _ _).mono ?_
  rintro e w' ⟨rfl,rfl⟩
  go_wp2
  go_ret
  have h0:s[0]'(by omega)=b:=by
    have e1:s[0]'(by omega)=s.data.toList[0]'(by rw[hs];simp):=rfl
    rw[e1];simp[hs]
  refine⟨?_,rfl⟩
  rw[h0]
  simp[sABCD]
set_option maxHeartbeats 1000000 in
theorem contains1_any (s:ByteArray) (h1:s.size=1) (w:World):Calls Tryz.prog 142 #[.string sABCD,.string s] w fun e w'=>e= .returned (.bool (arrV s))∧w=w':=by
  have hsz:s.size=s.data.toList.length:=Lib.size_eq s
  obtain⟨b,hb⟩:∃b,s.data.toList=[b]:=List.length_eq_one_iff.1 (by omega)
  have hv:arrV s=decide (0≤Lib.indexByte [65,66,67,68] b):=by rw[idx_arr,arrV,hb]
  have hI:∀w,Calls Tryz.prog 174 #[.string sABCD,.string s] w fun e w'=>e= .returned (.int .i64 (Lib.indexByte [65,66,67,68] b))∧w=w':=by
    intro w
    go_enter Tryz.func174,Tryz.ntmps174
    go_wp2_with (go_at_call 193;refine(index1_any s b hb _).mono ?_;rintro e w' ⟨rfl,rfl⟩)
    go_ret
    exact⟨rfl,rfl⟩
  go_enter Tryz.func142,Tryz.ntmps142
  go_wp2_with (go_at_call 174;refine(hI _).mono ?_;rintro e w' ⟨rfl,rfl⟩)
  go_ret
  exact⟨ret_bool hv.symm,rfl⟩
theorem contains1_fn (s:ByteArray) (h:s.size=1):Fn Tryz.prog 142 [] [st1 sABCD,st1 s] (.o (bo1 (arrV s))) []:=
  Fn.pure fun B bx al w vs hv=>by
    obtain⟨u,v,rfl,h0,h1⟩:=vals2 hv
    have hu:u= .string sABCD:=by cases h0;rfl
    have hvv:v= .string s:=by cases h1;rfl
    subst hu hvv
    exact(contains1_any s h w).mono fun e w' ⟨h1,h2⟩=>⟨_,h1,by rw[←h2];exact Below.refl _ _,.val _ rfl⟩
theorem arrV_size {s:ByteArray} (h:¬s.size=1):arrV s=false:=by
  have hsz:s.size=s.data.toList.length:=Lib.size_eq s
  rw[arrV]
  split
  ·rename_i b hb;rw[hb]at hsz;simp at hsz;omega
  ·rfl
end Go.Proofs.YtollooimmfngjaaGreat
