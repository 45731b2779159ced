import Derived.Test.YtdabfkmhkoppcaaGreatDoorVtMb
set_option linter.all false
set_option maxHeartbeats 4000000
set_option maxRecDepth 100000
open Int renaming natCast_nonneg→kd8,toNat_natCast→kd9
open List renaming cons_append→kg6,drop_zero→kj7,getElem?_append_right→kf4,getElem?_cons_succ→kf9,getElem?_cons_zero→kf5,getElem?_eq_getElem→ke7,getElem?_map→ke6,getElem?_take_of_lt→kg4,length_append→ke1,length_cons→kf6,length_map→ke9,length_nil→kg0,length_reverse→ks4,length_take→kg2,map_cons→ke5,map_map→ky1,map_nil→ke8,mem_of_getElem?→kd7,nil_append→kh0,set_append_right→kk5,take_add_one→ki7,take_length→ki1,take_of_length_le→ke0,take_succ_cons→ki2,take_zero→kj3
open Nat renaming le_refl→kf2,lt_or_ge→kf3,reduceAdd→kg8,reduceBEq→kk6,zero_le→kg1
open Go.Proofs.Tryz renaming prog→kd5
open Go.Vt.aA renaming funs→ke2,sigs→ke4,subs→ke3
open Go.Vt.aG renaming encs→kf0
open Go.Vt.aJ renaming renLs→kg3
open Go.Vt renaming mkV→J1
open Nat renaming reduceBEq→J2,reduceLeDiff→J5,reduceAdd→J6,reduceMul→J7,reduceSub→J8
namespace Go.Vt.Tryz
open Go.Proofs Go.Vt.Al
theorem z72 {A B:List Int} {s:ByteArray} {x x':Stx} (hx:bG A B x x'):∀{l r:List (ByteArray×Stx)},bG.goS A B l r→bG.goS A B (l++[(s,x)]) (r++[(s,x')])
 |[],r,h=>by
  rw[bG.goS]at h;subst h;show bG.goS A B [(s,x)] [(s,x')];rw[bG.goS];exact⟨x',[],rfl,hx,by rw[bG.goS]⟩
 |(s0,x0)::l,r,h=>by
  rw[bG.goS]at h;obtain⟨y,r',rfl,h1,h2⟩:=h;show bG.goS A B ((s0,x0)::(l++[(s,x)])) ((s0,y)::(r'++[(s,x')]));rw[bG.goS];exact⟨y,_,rfl,h1,z72 hx h2⟩
theorem z73 {A B:List Int} {s:ByteArray} {p p' q q':List Int} {x x' y y':Stx} (h1:eM A B p p' (fun n=>aU x n∨(n∉q∧aU y n))) (h2:bG (A++p) (B++p') x x') (h3:eM (A++p) (B++p') q q' (aU y)) (h4:bG (A++p++q) (B++p'++q') y y') :
  ∀{l r:List (ByteArray×List Int×Stx×List Int×Stx)},bG.goF A B l r→bG.goF A B (l++[(s,p,x,q,y)]) (r++[(s,p',x',q',y')])
 |[],r,h=>by
  rw[bG.goF]at h;subst h;show bG.goF A B [(s,p,x,q,y)] [(s,p',x',q',y')];rw[bG.goF];exact⟨p',x',q',y',[],rfl,h1,h2,h3,h4,by rw[bG.goF]⟩
 |(s0,p0,x0,q0,y0)::l,r,h=>by
  rw[bG.goF]at h;obtain⟨p1,x1,q1,y1,r',rfl,g1,g2,g3,g4,g5⟩:=h;show bG.goF A B ((s0,p0,x0,q0,y0)::(l++[(s,p,x,q,y)])) ((s0,p1,x1,q1,y1)::(r'++[(s,p',x',q',y')]));rw[bG.goF];exact⟨p1,x1,q1,y1,_,rfl,g1,g2,g3,g4,z73 h1 h2 h3 h4 g5⟩
theorem z74 {A B:List Int} {s:ByteArray} {q q':List Int} {y y':Stx} (h3:eM A B q q' (aU y)) (h4:bG (A++q) (B++q') y y') :
  ∀{l r:List (ByteArray×List Int×Stx)},bG.goG A B l r→bG.goG A B (l++[(s,q,y)]) (r++[(s,q',y')])
 |[],r,h=>by
  rw[bG.goG]at h;subst h;show bG.goG A B [(s,q,y)] [(s,q',y')];rw[bG.goG];exact⟨q',y',[],rfl,h3,h4,by rw[bG.goG]⟩
 |(s0,q0,y0)::l,r,h=>by
  rw[bG.goG]at h;obtain⟨q1,y1,r',rfl,g3,g4,g5⟩:=h;show bG.goG A B ((s0,q0,y0)::(l++[(s,q,y)])) ((s0,q1,y1)::(r'++[(s,q',y')]));rw[bG.goG];exact⟨q1,y1,_,rfl,g3,g4,z74 h3 h4 g5⟩
theorem j04:∀(x:Stx) (A B:List Int),stn x<10000000→A.length=B.length→A.length+stn x<1000000000→RS x A B:=by
 intro x;induction x using Stx.ind with
 |h x1 x2 x3 x4 x5 i3 i4 i5=>
 intro A B hs hAB hA vf vt XF XT;have hsz:=xZ (x:=.mk x1 x2 x3 x4 x5) (Nat.le_of_lt hs);simp only[Stx.subs,Stx.vals,Stx.types,Stx.funs,Stx.sigs]at hsz;obtain⟨z3,z2,z1,z4,z5⟩:=hsz;simp only[stn,oD,oE,oF]at hs hA;have l3:=gT x3;have l4:=iN x4;have l5:=iO x5;have hA2:A.length<1000000000:=by omega
 suffices hsuf:VC kd5 150 [.one (.ptr 0 0),stW (.mk x1 x2 x3 x4 x5)] (rH vf vt A B XF XT) fun r h'=>∃y3 y4 y5,r=stW (.mk (x1.map (gV A B)) (x2.map (jB A B)) y3 y4 y5)∧bG.goS A B x3 y3∧bG.goF A B x4 y4∧bG.goG A B x5 y5∧∃vf vt XF XT,h'=rH vf vt A B XF XT by
  refine hsuf.mono ?_;rintro r h' ⟨y3,y4,y5,e1,e2,e3,e4,e5⟩;refine⟨_,e1,?_,e5⟩;rw[bG];exact⟨rfl,rfl,e2,e3,e4⟩
 simp only[stW,aA,ke5,ke8,rH];refine aS aR jD6 (by simp) ?_;show vwp kd5 4 zu2 _ [(0,.one (.ptr 0 0)),(1,.agg [.d (.sl (x1.map aD)),.d (.sl (x2.map aE)),.d (.sl (ke3 x3)),.d (.sl (ke2 x4)),.d (.sl (ke4 x5))])] [.box [.own 1 vf A.length,.own 2 vt B.length,.fn 99 [.ptr 3 0]],.arr false 1 vf (nums A++XF),.arr false 1 vt (nums B++XT),.box [.ptr 0 0]];conv in zu2=>cbv
 rw[aO];simp -implicitDefEqProofs only[oS.d,J1,J2,J5,J6,↓reduceIte,reduceCtorEq,ke9];have ht:=fun u (hu:tyn u<100000000)=>zF2 vf vt A B XF XT hA2 hAB (tyn u) u (kf2 _) hu;have hta:=fun l (hl:aT tyn l<100000000)=>j02 vf vt A B XF XT hA2 hAB l hl;simp only[rH]at ht hta;refine bC (α:=Nat) (fun x=>[(22,.one (.d (.int .i64 x))),(21,.one (.d (.int .i64 x1.length))),(20,.one (.d (.sl (x1.map aD)))),(2,.one (.ptr 4 0)),(3,.one (.ptr 5 0)),(4,.one (.ptr 6 0)),(5,.one (.ptr 7 0))]) (fun x=>[.box [.own 1 vf A.length,.own 2 vt B.length,.fn 99 [.ptr 3 0]],.arr false 1 vf (nums A++XF),.arr false 1 vt (nums B++XT),.box [.ptr 0 0],.box [.ptr 0 0],.box [.d (.sl (x1.map aD)),.d (.sl (x2.map aE)),.d (.sl (ke3 x3)),.d (.sl (ke2 x4)),.d (.sl (ke4 x5))],.box [.nils,.nils,.nils,.nils,.nils],.box [.own 8 x x,.nils,.nils,.nils,.nils],.arr false 5 x (((x1.map (gV A B)).take x).map aD)])
  (fun x=>x≤x1.length) (fun x=>x1.length-x) 0
  (gE [] [(7,0,5)] [0,1,2,3,4,5,6,7,8] rfl rfl rfl rfl rfl rfl) (kg1 _) ?_
 intro i hi;have hw:=bJ (a:=i) rfl (by omega);rcases kf3 i x1.length with h5|h5
 ·have hlt:((i:Int)<(x1.length:Int))=True:=by simp;omega
  obtain⟨u,hu⟩:=bA h5;have hmu:=cY (f:=cJ) (kd7 hu);have hcu:cJ u=1+tyn u.t+aT ctn u.cts:=rfl;have t1:=ht u.t (by omega);have hcl:=dV (f:=ctn) (fun t=>by unfold ctn;omega) u.cts;have hg:(x1.map aD)[i]?=some (aD u):=by rw[ke6,hu];rfl
  have hrow:(((x1.map (gV A B)).take i).map aD)++[aD (gV A B u)]=(((x1.map (gV A B)).take (i+1)).map aD):=by rw[ki7,ke6,hu];simp
  have htk:((((x1.map (gV A B)).take i).map aD)).take i=(((x1.map (gV A B)).take i).map aD):=ke0 (by simp;omega);have hcap:(i+1)*80≤aM∧i+1≤aM:=by simp[aM];omega
  simp only[gV]at hrow;generalize dC A B u.t=R at t1 hrow;obtain⟨rk,rn,rl⟩:=R;clear hu;obtain⟨un,⟨uk,ui,ul⟩,uc⟩:=u;simp only at hrow hcu hcl;have hcs:∀c∈uc,aT tyn c.args<100000000:=fun c hc=>by have:=cY (f:=ctn) hc;rw[qP]at this;omega
  simp only[tyV,aG,aD,ke5,ke8,kg6,kh0]at t1 hg hrow;simp -implicitDefEqProofs only[oS.d,J1,J2,J5,J6,↓reduceIte,reduceCtorEq,hlt,hg,kd8,kd9];refine⟨?_,?_⟩;all_goals
   refine aQ [0,1,2,3] t1 rfl rfl rfl rfl ?_;simp -implicitDefEqProofs only[oS.d,J1,J2,J5,J6,↓reduceIte,reduceCtorEq,ke9];refine bC (α:=Nat) (fun k=>[(36,.one (.d (.int .i64 k))),(35,.one (.d (.int .i64 uc.length))),(34,.one (.d (.sl (uc.map bD)))),(8,.one (.ptr 10 0)),(22,.one (.d (.int .i64 i))),(21,.one (.d (.int .i64 x1.length))),(20,.one (.d (.sl (x1.map aD)))),(2,.one (.ptr 4 0)),(3,.one (.ptr 5 0)),(4,.one (.ptr 6 0)),(5,.one (.ptr 7 0))])
    (fun k=>[.box [.own 1 vf A.length,.own 2 vt B.length,.fn 99 [.ptr 3 0]],.arr false 1 vf (nums A++XF),.arr false 1 vt (nums B++XT),.box [.ptr 0 0],.box [.ptr 0 0],.box [.d (.sl (x1.map aD)),.d (.sl (x2.map aE)),.d (.sl (ke3 x3)),.d (.sl (ke2 x4)),.d (.sl (ke4 x5))],.box [.nils,.nils,.nils,.nils,.nils],.box [.own 8 i i,.nils,.nils,.nils,.nils],.arr false 5 i (((x1.map (gV A B)).take i).map aD),.box [.d (.str un),.d (.int .i64 uk),.d (.int .i64 ui),.d (.sl (kf0 ul)),.d (.sl (uc.map bD))],.box [.d (.str un),.d (.int .i64 rk),.d (.int .i64 rn),.d (.sl (kf0 rl)),.own 11 k k],.arr false 2 k (((uc.map (nK A B)).take k).map bD)])
    (fun k=>k≤uc.length) (fun k=>uc.length-k) 0
    (gE [] [(10,4,2)] [0,1,2,3,4,5,6,7,8,9,10,11] rfl rfl rfl rfl rfl rfl) (kg1 _) ?_
   intro k hk;have hwk:=bJ (a:=k) rfl (by omega);have htkk:(((uc.map (nK A B)).take k).map bD).take k=((uc.map (nK A B)).take k).map bD:=ke0 (by simp;omega);rcases kf3 k uc.length with h6|h6
   ·have hltk:((k:Int)<(uc.length:Int))=True:=by simp;omega
    obtain⟨c,hc⟩:=bA h6;have t2:=hta c.args (hcs c (kd7 hc));have hgc:(uc.map bD)[k]?=some (bD c):=by rw[ke6,hc];rfl
    have hrowk:((uc.map (nK A B)).take k).map bD++[bD (nK A B c)]=((uc.map (nK A B)).take (k+1)).map bD:=by rw[ki7,ke6,hc];simp
    have hcapk:(k+1)*40≤aM∧k+1≤aM:=by simp[aM];omega
    obtain⟨cn,cl⟩:=c;simp only[bD,nK]at hgc hrowk t2;simp -implicitDefEqProofs only[oS.d,J1,J2,J5,J6,J7,↓reduceIte,reduceCtorEq,hltk,hgc,kd8,kd9];refine aQ [0,1,2,3] t2 rfl rfl rfl rfl ?_;simp -implicitDefEqProofs only[oS.d,J1,J2,J5,J6,J7,↓reduceIte,reduceCtorEq,hcapk,htkk,hwk];rw[hrowk];refine⟨k+1,by omega,by omega,?_⟩;exact(aL [0,1,2,3,4,5,6,7,8,9,10,11] rfl rfl rfl rfl)
   ·have hltk:((k:Int)<(uc.length:Int))=False:=by simp;omega
    have hke:k=uc.length:=by omega
    subst hke;have hfin:((uc.map (nK A B)).take uc.length)=uc.map (nK A B):=ke0 (by simp);rw[hfin]at htkk ⊢;simp -implicitDefEqProofs only[oS.d,J1,J2,J5,J6,J7,↓reduceIte,reduceCtorEq,hltk,hcap,htk,htkk,hw];rw[hrow];refine⟨i+1,by omega,by omega,?_⟩;exact(aL [0,1,2,3,4,5,6,7,8] rfl rfl rfl rfl)
 have hlt:((i:Int)<(x1.length:Int))=False:=by simp;omega
 have hie:i=x1.length:=by omega
 subst hie;have hfin:((x1.map (gV A B)).take x1.length)=x1.map (gV A B):=ke0 (by simp);rw[hfin];clear hw h5 hi hfin hta;simp -implicitDefEqProofs only[oS.d,J1,J2,J5,J6,↓reduceIte,reduceCtorEq,hlt,ke9];clear hlt;refine bC (α:=Nat) (fun x=>[(63,.one (.d (.int .i64 x))),(62,.one (.d (.int .i64 x2.length))),(61,.one (.d (.sl (x2.map aE)))),(2,.one (.ptr 4 0)),(3,.one (.ptr 5 0)),(4,.one (.ptr 6 0)),(5,.one (.ptr 7 0))]) (fun x=>[.box [.own 1 vf A.length,.own 2 vt B.length,.fn 99 [.ptr 3 0]],.arr false 1 vf (nums A++XF),.arr false 1 vt (nums B++XT),.box [.ptr 0 0],.box [.ptr 0 0],.box [.d (.sl (x1.map aD)),.d (.sl (x2.map aE)),.d (.sl (ke3 x3)),.d (.sl (ke2 x4)),.d (.sl (ke4 x5))],.box [.nils,.nils,.nils,.nils,.nils],.box [.own 8 x1.length x1.length,.own 9 x x,.nils,.nils,.nils],.arr false 5 x1.length ((x1.map (gV A B)).map aD),.arr false 5 x (((x2.map (jB A B)).take x).map aE)])
  (fun x=>x≤x2.length) (fun x=>x2.length-x) 0
  (gE [] [(7,1,5)] [0,1,2,3,4,5,6,7,8,9] rfl rfl rfl rfl rfl rfl) (kg1 _) ?_
 intro i hi;have hw:=bJ (a:=i) rfl (by omega);rcases kf3 i x2.length with h5|h5
 ·have hlt:((i:Int)<(x2.length:Int))=True:=by simp;omega
  obtain⟨u,hu⟩:=bA h5;have hmu:=cY (f:=cO) (kd7 hu);have hcu:cO u=1+tyn u.s.t:=rfl;have t1:=ht u.s.t (by omega);have hg:(x2.map aE)[i]?=some (aE u):=by rw[ke6,hu];rfl
  have hrow:(((x2.map (jB A B)).take i).map aE)++[aE (jB A B u)]=(((x2.map (jB A B)).take (i+1)).map aE):=by rw[ki7,ke6,hu];simp
  have htk:((((x2.map (jB A B)).take i).map aE)).take i=(((x2.map (jB A B)).take i).map aE):=ke0 (by simp;omega);have hcap:(i+1)*64≤aM∧i+1≤aM:=by simp[aM];omega
  simp only[jB]at hrow;generalize dC A B u.s.t=R at t1 hrow;obtain⟨rk,rn,rl⟩:=R;clear hu;obtain⟨un,ug,⟨uk,ui,ul⟩⟩:=u;simp only at hrow;simp only[tyV,aG,aE,gP,ke5,ke8]at t1 hg hrow;simp -implicitDefEqProofs only[oS.d,J1,J2,J5,J6,↓reduceIte,reduceCtorEq,hlt,hg,kd8,kd9];refine aQ [0,1,2,3] t1 rfl rfl rfl rfl ?_;simp -implicitDefEqProofs only[oS.d,J1,J2,J5,J6,J7,↓reduceIte,reduceCtorEq,hcap,htk,hw];rw[hrow];refine⟨i+1,by omega,by omega,?_⟩;exact(aL [0,1,2,3,4,5,6,7,8,9] rfl rfl rfl rfl)
 have hlt:((i:Int)<(x2.length:Int))=False:=by simp;omega
 have hie:i=x2.length:=by omega
 subst hie;have hfin:((x2.map (jB A B)).take x2.length)=x2.map (jB A B):=ke0 (by simp);rw[hfin];clear hw h5 hi hfin ht;simp -implicitDefEqProofs only[oS.d,J1,J2,J6,↓reduceIte,hlt];clear hlt;refine mF [(7,2,6)] _ [.box [.own 1 vf A.length,.own 2 vt B.length,.fn 99 [.ptr 3 0]],.arr false 1 vf (nums A++XF),.arr false 1 vt (nums B++XT),.box [.ptr 0 0],.box [.ptr 0 0],.box [.d (.sl (x1.map aD)),.d (.sl (x2.map aE)),.d (.sl (ke3 x3)),.d (.sl (ke2 x4)),.d (.sl (ke4 x5))],.box [.nils,.nils,.nils,.nils,.nils],.box [.own 8 x1.length x1.length,.own 9 x2.length x2.length,.own 10 0 0,.nils,.nils],.arr false 5 x1.length ((x1.map (gV A B)).map aD),.arr false 5 x2.length ((x2.map (jB A B)).map aE),.arr false 6 0 (ke3 [])] [] rfl (kc4 _) (kb5 _) (z71 x1 x2 x3 x4 x5) rfl rfl rfl ?_;rintro _ _ ⟨rfl,rfl⟩;refine⟨_,_,rfl,?_⟩;simp -implicitDefEqProofs only[oS.d,J6,J8];show vwp _ _ _ _ _ _;refine⟨229,[.ptr 11 0],20,_,rfl,rfl,z68,by decide,?_⟩;refine jZ7 (α:=(Nat×List (List D))×(Nat×List (List D))×List (ByteArray×Stx)) (N:=12) (by omega) (fun s=>[.box [.own 1 s.1.1 A.length,.own 2 s.2.1.1 B.length,.fn 99 [.ptr 3 0]],.arr false 1 s.1.1 (nums A++s.1.2),.arr false 1 s.2.1.1 (nums B++s.2.1.2),.box [.ptr 0 0],.box [.ptr 0 0],.box [.d (.sl (x1.map aD)),.d (.sl (x2.map aE)),.d (.sl (ke3 x3)),.d (.sl (ke2 x4)),.d (.sl (ke4 x5))],.box [.nils,.nils,.nils,.nils,.nils],.box [.own 8 x1.length x1.length,.own 9 x2.length x2.length,.own 10 s.2.2.length s.2.2.length,.nils,.nils],.arr false 5 x1.length ((x1.map (gV A B)).map aD),.arr false 5 x2.length ((x2.map (jB A B)).map aE),.arr false 6 s.2.2.length (ke3 s.2.2),.box [.d (.sl (x1.map aD)),.d (.sl (x2.map aE)),.d (.sl (ke3 x3)),.d (.sl (ke2 x4)),.d (.sl (ke4 x5))]])
  (fun i s=>s.2.2.length=i∧bG.goS A B (x3.take i) s.2.2) (id:=11) (fun _=>rfl) (show 11<12 by decide) (kf2 12) (fun _=>rfl) (fun _=>rfl) ?_ ?_ ((vf,XF),(vt,XT),[]) ⟨rfl,by rw[kj3,bG.goS]⟩
 ·rintro i x ⟨⟨v1,X1⟩,⟨w1,Y1⟩,dn⟩ hx ⟨g1,g2⟩ K' hK;refine⟨rfl,?_⟩;rw[aO];dsimp only at g1 g2 ⊢;have hmem:=kd7 hx;have hmu:=cY (f:=eB) hmem;have hcu:=nG x;have hil:=(List.getElem?_eq_some_iff.1 hx).1;have t1:=i3 x hmem A B (by omega) hAB (by omega) v1 w1 X1 Y1;have hg2:∀y',bG A B x.2 y'→bG.goS A B (x3.take (i+1)) (dn++[(x.1,y')]):=fun y' hy=>by
   rw[ki7,hx];exact z72 hy g2
  have hcap:(dn.length+1)*136≤aM∧dn.length+1≤aM:=by simp[aM];omega
  clear hx hmem hmu hcu;obtain⟨xn,⟨u1,u2,u3,u4,u5⟩⟩:=x;simp only[stW,bX,aA,ke5,ke8,rH]at t1 ⊢;simp -implicitDefEqProofs only[oS.d,J2,J6,↓reduceIte,lZ];rw[uQ,aO];have htk:(ke3 dn).take dn.length=ke3 dn:=ke0 (by rw[gT];exact kf2 _);have hget:∀z,(ke3 dn++[z])[dn.length]?=some z:=fun z=>by rw[kf4 (by rw[gT];exact kf2 _),gT];simp
  have hset:∀z z',(ke3 dn++[z]).set dn.length z'=ke3 dn++[z']:=fun z z'=>by rw[kk5 _ _ (by rw[gT];exact kf2 _),gT];simp
  have hlt:(dn.length:Int)<((dn.length+1:Nat):Int):=by omega
  simp -implicitDefEqProofs only[oS.d,J1,J2,J5,J6,J7,↓reduceIte,reduceCtorEq,zg0];refine⟨?_,?_⟩;all_goals
   refine bI [0,1,2,3] t1 rfl rfl rfl ?_;rintro _ _ ⟨⟨m1,m2,m3,m4,m5⟩,rfl,h2,v2,w2,X2,Y2,rfl⟩;refine⟨_,_,rfl,?_⟩;simp only[];have hrow:ke3 dn++[[.str xn,.sl (m1.map aD),.sl (m2.map aE),.sl (ke3 m3),.sl (ke2 m4),.sl (ke4 m5)]]=ke3 (dn++[(xn,.mk m1 m2 m3 m4 m5)]):=by simp[kI,bX,aA]
   have hln:dn.length+1=(dn++[(xn,Stx.mk m1 m2 m3 m4 m5)]).length:=by simp
   simp -implicitDefEqProofs only[oS.d,J1,J2,J5,J6,J7,↓reduceIte,reduceCtorEq,hcap,htk,zg0,hlt,hget,hset,kd8,kd9];rw[hrow,hln];exact hK ((v2,X2),(w2,Y2),dn++[(xn,.mk m1 m2 m3 m4 m5)]) [_,_,_] ⟨by simp[g1],hg2 _ h2⟩
 ·rintro⟨⟨v1,X1⟩,⟨w1,Y1⟩,d3⟩ ⟨g1,g2⟩;dsimp only at g1 g2 ⊢;rw[ki1]at g2;have hl3:=gT d3;simp -implicitDefEqProofs only[oS.d,J1,J2,J5,J6,↓reduceIte,reduceCtorEq,l4];refine bC (α:=(Nat×List (List D))×(Nat×List (List D))×List (ByteArray×List Int×Stx×List Int×Stx)) (fun s=>[(104,.one (.d (.int .i64 s.2.2.length))),(103,.one (.d (.int .i64 x4.length))),(102,.one (.d (.sl (ke2 x4)))),(2,.one (.ptr 4 0)),(3,.one (.ptr 5 0)),(4,.one (.ptr 6 0)),(5,.one (.ptr 7 0))]) (fun s=>[.box [.own 1 s.1.1 A.length,.own 2 s.2.1.1 B.length,.fn 99 [.ptr 3 0]],.arr false 1 s.1.1 (nums A++s.1.2),.arr false 1 s.2.1.1 (nums B++s.2.1.2),.box [.ptr 0 0],.box [.ptr 0 0],.box [.d (.sl (x1.map aD)),.d (.sl (x2.map aE)),.d (.sl (ke3 x3)),.d (.sl (ke2 x4)),.d (.sl (ke4 x5))],.box [.nils,.nils,.nils,.nils,.nils],.box [.own 8 x1.length x1.length,.own 9 x2.length x2.length,.own 10 d3.length d3.length,.own 12 s.2.2.length s.2.2.length,.nils],.arr false 5 x1.length ((x1.map (gV A B)).map aD),.arr false 5 x2.length ((x2.map (jB A B)).map aE),.arr false 6 d3.length (ke3 d3),.box [.d (.sl (x1.map aD)),.d (.sl (x2.map aE)),.d (.sl (ke3 x3)),.d (.sl (ke2 x4)),.d (.sl (ke4 x5))],.arr false 13 s.2.2.length (ke2 s.2.2)])
   (fun s=>s.2.2.length≤x4.length∧bG.goF A B (x4.take s.2.2.length) s.2.2) (fun s=>x4.length-s.2.2.length) ((v1,X1),(w1,Y1),[])
   (gE [] [(7,3,13)] [0,1,2,3,4,5,6,7,8,9,10,11,12] rfl rfl rfl rfl rfl rfl) ⟨kg1 _,by show bG.goF A B (x4.take 0) [];rw[kj3,bG.goF]⟩ ?_
  rintro⟨⟨v1,X1⟩,⟨w1,Y1⟩,d4⟩ ⟨hi,k2⟩;dsimp only at hi k2 ⊢;have hw:=bJ (a:=d4.length) rfl (by omega);rcases kf3 d4.length x4.length with h5|h5
  ·have hlt:((d4.length:Int)<(x4.length:Int))=True:=by simp;omega
   obtain⟨u,hu⟩:=bA h5;have hmem:=kd7 hu;have hmu:=cY (f:=dZ) hmem;have hcu:=lK u;have hg:(ke2 x4)[d4.length]?=some (bT u):=by rw[iL,ke6,hu];rfl
   have t1:=j03 (x:=u.2.2.1) (y:=u.2.2.2.2) (p:=u.2.1) (q:=u.2.2.2.1) (A:=A) (B:=B) (fun out ho=>(i4 u hmem).1 _ _ (by omega) (by simp only[ke1];omega) (by simp only[ke1];omega)) (fun o1 o2 h1 h2=>(i4 u hmem).2 _ _ (by omega) (by simp only[ke1];omega) (by simp only[ke1];omega)) hAB (by omega) (by omega) (by omega) (by omega) v1 w1 X1 Y1;have hg2:∀p' x' q' y',eM A B u.2.1 p' (fun n=>aU u.2.2.1 n∨(n∉u.2.2.2.1∧aU u.2.2.2.2 n))→bG (A++u.2.1) (B++p') u.2.2.1 x'→eM (A++u.2.1) (B++p') u.2.2.2.1 q' (aU u.2.2.2.2)→bG (A++u.2.1++u.2.2.2.1) (B++p'++q') u.2.2.2.2 y'→bG.goF A B (x4.take (d4.length+1)) (d4++[(u.1,p',x',q',y')]):=fun p' x' q' y' b1 b2 b3 b4=>by
    rw[ki7,hu];exact z73 b1 b2 b3 b4 k2
   clear hu hmem;obtain⟨un,up,⟨u1,u2,u3,u4,u5⟩,uq,⟨y1,y2,y3,y4,y5⟩⟩:=u;simp only at hg2;simp only[bT,eU,aA,ke5,ke8,kg6,kh0,rH]at t1 hg;have hcap:(d4.length+1)*304≤aM∧d4.length+1≤aM:=by simp[aM];omega
   have htk:(ke2 d4).take d4.length=ke2 d4:=ke0 (by rw[iN];exact kf2 _);have hget:∀z,(ke2 d4++[z])[d4.length]?=some z:=fun z=>by rw[kf4 (by rw[iN];exact kf2 _),iN];simp
   have hset:∀z z',(ke2 d4++[z]).set d4.length z'=ke2 d4++[z']:=fun z z'=>by rw[kk5 _ _ (by rw[iN];exact kf2 _),iN];simp
   have hlt2:(d4.length:Int)<((d4.length+1:Nat):Int):=by omega
   simp -implicitDefEqProofs only[oS.d,J1,J2,J5,J6,J7,↓reduceIte,reduceCtorEq,hlt,hg,zF6,kd8,kd9];refine⟨?_,?_⟩;all_goals
    refine bI [0,1,2,3] t1 rfl rfl rfl ?_;rintro _ _ ⟨p',⟨m1,m2,m3,m4,m5⟩,q',⟨n1,n2,n3,n4,n5⟩,rfl,b1,b2,b3,b4,v2,w2,X2,Y2,rfl⟩;refine⟨_,_,rfl,?_⟩;simp only[];have hrow:ke2 d4++[[.str un,.sl (nums p'),.sl (m1.map aD),.sl (m2.map aE),.sl (ke3 m3),.sl (ke2 m4),.sl (ke4 m5),.sl (nums q'),.sl (n1.map aD),.sl (n2.map aE),.sl (ke3 n3),.sl (ke2 n4),.sl (ke4 n5)]]=ke2 (d4++[(un,p',(Stx.mk m1 m2 m3 m4 m5),q',(Stx.mk n1 n2 n3 n4 n5))]):=by simp[iL,bT,eU,aA]
    have hln:d4.length+1=(d4++[(un,p',(Stx.mk m1 m2 m3 m4 m5),q',(Stx.mk n1 n2 n3 n4 n5))]).length:=by simp
    have hg3:=hg2 _ _ _ _ b1 b2 b3 b4;rw[hln]at hg3;simp -implicitDefEqProofs only[oS.d,J1,J2,J5,J6,J7,↓reduceIte,reduceCtorEq,hcap,htk,zF6,hlt2,hget,hset,hw,kd8,kd9];rw[hrow,hln];refine⟨((v2,X2),(w2,Y2),(d4++[(un,p',(Stx.mk m1 m2 m3 m4 m5),q',(Stx.mk n1 n2 n3 n4 n5))])),⟨by rw[←hln];exact h5,hg3⟩,by show x4.length-(d4++[(un,p',(Stx.mk m1 m2 m3 m4 m5),q',(Stx.mk n1 n2 n3 n4 n5))]).length<x4.length-d4.length;rw[←hln];omega,?_⟩;exact(aL [0,1,2,3,4,5,6,7,8,9,10,11,12] rfl rfl rfl rfl)
  have hlt:((d4.length:Int)<(x4.length:Int))=False:=by simp;omega
  have hie:d4.length=x4.length:=by omega
  rw[hie,ki1]at k2;clear hw h5 hi;have e4:=k2;have hie4:=hie;clear k2 hie;simp -implicitDefEqProofs only[oS.d,J1,J2,J5,J6,↓reduceIte,reduceCtorEq,hlt,l5];clear hlt;refine bC (α:=(Nat×List (List D))×(Nat×List (List D))×List (ByteArray×List Int×Stx)) (fun s=>[(126,.one (.d (.int .i64 s.2.2.length))),(125,.one (.d (.int .i64 x5.length))),(124,.one (.d (.sl (ke4 x5)))),(2,.one (.ptr 4 0)),(3,.one (.ptr 5 0)),(4,.one (.ptr 6 0)),(5,.one (.ptr 7 0))]) (fun s=>[.box [.own 1 s.1.1 A.length,.own 2 s.2.1.1 B.length,.fn 99 [.ptr 3 0]],.arr false 1 s.1.1 (nums A++s.1.2),.arr false 1 s.2.1.1 (nums B++s.2.1.2),.box [.ptr 0 0],.box [.ptr 0 0],.box [.d (.sl (x1.map aD)),.d (.sl (x2.map aE)),.d (.sl (ke3 x3)),.d (.sl (ke2 x4)),.d (.sl (ke4 x5))],.box [.nils,.nils,.nils,.nils,.nils],.box [.own 8 x1.length x1.length,.own 9 x2.length x2.length,.own 10 d3.length d3.length,.own 12 d4.length d4.length,.own 13 s.2.2.length s.2.2.length],.arr false 5 x1.length ((x1.map (gV A B)).map aD),.arr false 5 x2.length ((x2.map (jB A B)).map aE),.arr false 6 d3.length (ke3 d3),.box [.d (.sl (x1.map aD)),.d (.sl (x2.map aE)),.d (.sl (ke3 x3)),.d (.sl (ke2 x4)),.d (.sl (ke4 x5))],.arr false 13 d4.length (ke2 d4),.arr false 7 s.2.2.length (ke4 s.2.2)])
   (fun s=>s.2.2.length≤x5.length∧bG.goG A B (x5.take s.2.2.length) s.2.2) (fun s=>x5.length-s.2.2.length) ((v1,X1),(w1,Y1),[])
   (gE [] [(7,4,7)] [0,1,2,3,4,5,6,7,8,9,10,11,12,13] rfl rfl rfl rfl rfl rfl) ⟨kg1 _,by show bG.goG A B (x5.take 0) [];rw[kj3,bG.goG]⟩ ?_
  rintro⟨⟨v1,X1⟩,⟨w1,Y1⟩,d5⟩ ⟨hi,k2⟩;dsimp only at hi k2 ⊢;have hw:=bJ (a:=d5.length) rfl (by omega);rcases kf3 d5.length x5.length with h5|h5
  ·have hlt:((d5.length:Int)<(x5.length:Int))=True:=by simp;omega
   obtain⟨u,hu⟩:=bA h5;have hmem:=kd7 hu;have hmu:=cY (f:=eD) hmem;have hcu:=nH u;have hg:(ke4 x5)[d5.length]?=some (cA u):=by rw[iM,ke6,hu];rfl
   have t1:=zF7 (y:=u.2.2) (q:=u.2.1) (A:=A) (B:=B) (fun out ho=>i5 u hmem _ _ (by omega) (by simp only[ke1];omega) (by simp only[ke1];omega)) hAB (by omega) (by omega) (by omega) v1 w1 X1 Y1;have hg2:∀q' y',eM A B u.2.1 q' (aU u.2.2)→bG (A++u.2.1) (B++q') u.2.2 y'→bG.goG A B (x5.take (d5.length+1)) (d5++[(u.1,q',y')]):=fun q' y' b1 b2=>by
    rw[ki7,hu];exact z74 b1 b2 k2
   clear hu hmem;obtain⟨un,uq,⟨u1,u2,u3,u4,u5⟩⟩:=u;simp only at hg2;simp only[abW,cA,aA,ke5,ke8,rH]at t1 hg;have hcap:(d5.length+1)*160≤aM∧d5.length+1≤aM:=by simp[aM];omega
   have htk:(ke4 d5).take d5.length=ke4 d5:=ke0 (by rw[iO];exact kf2 _);have hget:∀z,(ke4 d5++[z])[d5.length]?=some z:=fun z=>by rw[kf4 (by rw[iO];exact kf2 _),iO];simp
   have hset:∀z z',(ke4 d5++[z]).set d5.length z'=ke4 d5++[z']:=fun z z'=>by rw[kk5 _ _ (by rw[iO];exact kf2 _),iO];simp
   have hlt2:(d5.length:Int)<((d5.length+1:Nat):Int):=by omega
   simp -implicitDefEqProofs only[oS.d,J1,J2,J5,J6,J7,↓reduceIte,reduceCtorEq,hlt,hg,zg1,kd8,kd9];refine⟨?_,?_⟩;all_goals
    refine bI [0,1,2,3] t1 rfl rfl rfl ?_;rintro _ _ ⟨q',⟨m1,m2,m3,m4,m5⟩,rfl,b1,b2,v2,w2,X2,Y2,rfl⟩;refine⟨_,_,rfl,?_⟩;simp only[];have hrow:ke4 d5++[[.str un,.sl (nums q'),.sl (m1.map aD),.sl (m2.map aE),.sl (ke3 m3),.sl (ke2 m4),.sl (ke4 m5)]]=ke4 (d5++[(un,q',(Stx.mk m1 m2 m3 m4 m5))]):=by simp[iM,cA,aA]
    have hln:d5.length+1=(d5++[(un,q',(Stx.mk m1 m2 m3 m4 m5))]).length:=by simp
    have hg3:=hg2 _ _ b1 b2;rw[hln]at hg3;simp -implicitDefEqProofs only[oS.d,J1,J2,J5,J6,J7,↓reduceIte,reduceCtorEq,hcap,htk,zg1,hlt2,hget,hset,hw,kd8,kd9];rw[hrow,hln];refine⟨((v2,X2),(w2,Y2),(d5++[(un,q',(Stx.mk m1 m2 m3 m4 m5))])),⟨by rw[←hln];exact h5,hg3⟩,by show x5.length-(d5++[(un,q',(Stx.mk m1 m2 m3 m4 m5))]).length<x5.length-d5.length;rw[←hln];omega,?_⟩;exact(aL [0,1,2,3,4,5,6,7,8,9,10,11,12,13] rfl rfl rfl rfl)
  have hlt:((d5.length:Int)<(x5.length:Int))=False:=by simp;omega
  have hie:d5.length=x5.length:=by omega
  rw[hie,ki1]at k2;clear hw h5 hi;have e5:=k2;have hie5:=hie;clear k2 hie;simp -implicitDefEqProofs only[oS.d,J1,J2,J6,↓reduceIte,hlt];clear hlt;have q1:(x1.map (aD∘gV A B)).take x1.length=(x1.map (gV A B)).map aD:=by rw[ky1];exact ke0 (by simp)
  have q2:(x2.map (aE∘jB A B)).take x2.length=(x2.map (jB A B)).map aE:=by rw[ky1];exact ke0 (by simp)
  have q3:(ke3 d3).take d3.length=ke3 d3:=ke0 (by rw[gT];exact kf2 _);have q4:(ke2 d4).take d4.length=ke2 d4:=ke0 (by rw[iN];exact kf2 _);have q5:(ke4 d5).take d5.length=ke4 d5:=ke0 (by rw[iO];exact kf2 _);apply aI [0,1,2,3]
  ·simp only[cX,eH,kk6,cond_true,cond_false,mI,cI,kf9,kf5,mkV,kj7,kf6,kg0,kg8,kf2,if_true,ki2,kj3];rfl
  ·first|rfl|(simp[fin,bK,bB,bR,bM,dG,bO,idx,cM,aJ,bH,kg3];first|exact⟨rfl,rfl⟩|exact⟨rfl,rfl,rfl⟩)
  refine⟨d3,d4,d5,?_,g2,e4,e5,v1,w1,X1,Y1,rfl⟩;rw[q1,q2,q3,q4,q5]
theorem z75 {l:List Int} {i:Nat} (h:i<l.length):∃x,l[l.length-1-i]?=some x∧l.reverse[i]?=some x:=by
 rw[List.getElem?_reverse h];exact⟨_,ke7 (by omega),ke7 (by omega)⟩
theorem z76 {l:List Int} {i:Nat} {x:Int} (h:l[i]?=some x):nums (l.take i)++[[.int .i64 x]]=nums (l.take (i+1)):=by
 rw[ki7,h];simp[nums]
theorem j05 (y:Stx) (q fr to:List Int) {n:Nat} {F G:List Int} (hn:n=min fr.length to.length) (hF:F=(fr.take n).reverse) (hG:G=(to.take n).reverse) (hA:fr.length+q.length<100000000) (hq:q.length<10000000) (hy:stn y<10000000) :
  VC kd5 31 [abW q y,.one (.d (.sl (nums fr))),.one (.d (.sl (nums to)))] [] fun r h'=>(∃q' y',r=abW q' y'∧eM F G q q' (aU y)∧bG (F++q) (G++q') y y')∧h'=[]:=by
 have hFl:F.length=n:=by rw[hF,ks4,kg2];omega
 have hGl:G.length=n:=by rw[hG,ks4,kg2];omega
 have hx:=zF7 (y:=y) (q:=q) (A:=F) (B:=G) (fun out ho=>j04 y _ _ (by omega) (by simp;omega) (by simp;omega)) (by omega) (by omega) hq hy n n [] [];have hRe:∃R:List Int→Stx→Prop,R=fun q' y'=>eM F G q q' (aU y)∧bG (F++q) (G++q') y y':=⟨_,rfl⟩;obtain⟨R,hR⟩:=hRe;have hx2:VC kd5 103 [.one (.ptr 0 0),abW q y] (rH n n F G [] []) fun r h'=>∃q' y',r=abW q' y'∧R q' y'∧∃vf vt XF XT,h'=rH vf vt F G XF XT:=by
  rw[hR];refine hx.mono ?_;rintro r h' ⟨q',y',a,b,c,d⟩;exact⟨q',y',a,⟨b,c⟩,d⟩
 suffices hs:VC kd5 31 [abW q y,.one (.d (.sl (nums fr))),.one (.d (.sl (nums to)))] [] fun r h'=>(∃q' y',r=abW q' y'∧R q' y')∧h'=[]by
  rw[hR]at hs;exact hs
 clear hx hR;obtain⟨y1,y2,y3,y4,y5⟩:=y;simp only[abW,aA,ke5,ke8,rH,List.append_nil,hFl,hGl]at hx2 ⊢;refine aS aR jA0 (by simp) ?_;show vwp kd5 0 zq6 _ [(0,.agg [.d (.sl (nums q)),.d (.sl (y1.map aD)),.d (.sl (y2.map aE)),.d (.sl (ke3 y3)),.d (.sl (ke2 y4)),.d (.sl (ke4 y5))]),(1,.one (.d (.sl (nums fr)))),(2,.one (.d (.sl (nums to))))] [];conv in zq6=>cbv
 rw[aO];have hnn:(if (to.length:Int)<(fr.length:Int)then (to.length:Int)else (fr.length:Int))=(n:Int):=by split<;>omega
 simp -implicitDefEqProofs only[oS.d,J2,J6,↓reduceIte,bW,hnn];refine bC (α:=Nat) (fun x=>[(18,.one (.d (.int .i64 x))),(17,.one (.d (.int .i64 n))),(7,.one (.d (.int .i64 n))),(1,.one (.d (.sl (nums fr)))),(2,.one (.d (.sl (nums to)))),(3,.one (.ptr 0 0)),(6,.one (.ptr 1 0)),(8,.one (.ptr 3 0))]) (fun x=>[.box [.d (.sl (nums q)),.d (.sl (y1.map aD)),.d (.sl (y2.map aE)),.d (.sl (ke3 y3)),.d (.sl (ke2 y4)),.d (.sl (ke4 y5))],.box [.nils,.nils,.nils,.nils,.nils,.nils],.box [.own 4 x x,.own 5 x x,.nilf],.box [.ptr 2 0],.arr false 1 x (nums (F.take x)),.arr false 1 x (nums (G.take x))])
  (fun x=>x≤n) (fun x=>n-x) 0
  (gE [] [(2,0,1),(2,1,1)] [0,1,2,3,4,5] rfl rfl rfl rfl rfl rfl) (kg1 _) ?_
 intro i hi;have hw:=bJ (a:=i) rfl (by omega);rcases kf3 i n with h5|h5
 ·have hlt:((i:Int)<(n:Int))=True:=by simp;omega
  obtain⟨u,hu1,hu2⟩:=z75 (l:=fr.take n) (i:=i) (by rw[kg2];omega);obtain⟨v,hv1,hv2⟩:=z75 (l:=to.take n) (i:=i) (by rw[kg2];omega);have hl1:(fr.take n).length=n:=by rw[kg2];omega
  have hl2:(to.take n).length=n:=by rw[kg2];omega
  rw[hl1,kg4 (by omega)]at hu1;rw[hl2,kg4 (by omega)]at hv1;rw[←hF]at hu2;rw[←hG]at hv2;have hb1:n-1-i<fr.length:=by omega
  have hb2:n-1-i<to.length:=by omega
  have hs1:IntKind.i64.wrap ((n:Int)-1)=((n-1:Nat):Int):=by rw[qT (by omega) (by omega)];omega
  have hs2:IntKind.i64.wrap (((n-1:Nat):Int)-(i:Int))=((n-1-i:Nat):Int):=by rw[qT (by omega) (by omega)];omega
  have hg1:=eL hu1;have hg2:=eL hv1;have hcap:(i+1)*8≤aM∧i+1≤aM:=by simp[aM];omega
  have htk1:(nums (F.take i)).take i=nums (F.take i):=ke0 (by rw[bW,kg2];omega);have htk2:(nums (G.take i)).take i=nums (G.take i):=ke0 (by rw[bW,kg2];omega);simp -implicitDefEqProofs only[oS.d,J1,J2,J5,J6,J7,↓reduceIte,reduceCtorEq,hlt,hs1,hs2,hg1,hg2,hcap,htk1,htk2,hw,kd8,kd9]
  repeat' apply And.intro
  all_goals
   rw[z76 hu2,z76 hv2];refine⟨i+1,by omega,by omega,?_⟩;exact(aL [0,1,2,3,4,5] rfl rfl rfl rfl)
 ·have hlt:((n:Int)<(n:Int))=False:=by simp
  have hie:i=n:=by omega
  rw[hie];have t1:F.take n=F:=ke0 (by omega);have t2:G.take n=G:=ke0 (by omega);rw[t1,t2];clear hw h5 hi hie;simp -implicitDefEqProofs only[oS.d,J1,J2,J5,J6,↓reduceIte,reduceCtorEq,hlt];refine bI [2,4,5,3] hx2 rfl rfl rfl ?_;rintro _ _ ⟨q',⟨m1,m2,m3,m4,m5⟩,rfl,h2,vf,vt,XF,XT,rfl⟩;refine⟨_,_,rfl,?_⟩;simp only[];simp -implicitDefEqProofs only[oS.d,J2,J6,↓reduceIte];apply aI []
  ·simp only[cX,eH,kk6,cond_true,cond_false,lI,cI,kf9,kf5,mkV,kj7,kf6,kg0,kg8,kf2,if_true,ki2,kj3];rfl
  ·first|rfl|(simp[fin,bK,bB,bR,bM,dG,bO,idx,cM,aJ,cL,bH,kg3];first|exact⟨rfl,rfl⟩|exact⟨rfl,rfl,rfl⟩)
  exact⟨⟨q',.mk m1 m2 m3 m4 m5,rfl,h2⟩,rfl⟩
end Go.Vt.Tryz
