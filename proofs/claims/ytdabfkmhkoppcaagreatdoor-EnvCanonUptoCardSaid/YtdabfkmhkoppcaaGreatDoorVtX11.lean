import Derived.Test.YtdabfkmhkoppcaaGreatDoorVtMb
set_option linter.all false
set_option maxHeartbeats 4000000
set_option maxRecDepth 100000
open Int renaming natCast_nonneg→kq2,toNat_natCast→kq4
open List renaming cons_append→kr0,drop_zero→kw7,getElem?_append_right→kr5,getElem?_cons_succ→ks4,getElem?_cons_zero→kr6,getElem?_eq_getElem→kr1,getElem?_map→ks1,getElem?_take_of_lt→ks5,length_append→kq3,length_cons→kr4,length_map→kr8,length_nil→kr7,length_reverse→kI6,length_take→kt3,map_cons→kq1,map_map→kK7,map_nil→kq5,mem_of_getElem?→kq0,nil_append→kr2,set_append_right→kx2,take_add_one→kw0,take_length→kv2,take_of_length_le→kq6,take_succ_cons→kv5,take_zero→kw1
open Nat renaming le_refl→ks0,lt_or_ge→ks3,reduceAdd→ks7,reduceBEq→kx5,reduceLeDiff→kw5,zero_le→kt1
open Go.Proofs.Tryz renaming prog→kp8
open Go.Vt.aA renaming funs→kq8,sigs→kq9,subs→kq7
open Go.Vt.aF renaming encs→ks8
open Go.Vt.aG renaming renLs→ks9
open Go.Vt renaming dL→J0,mkV→J1
open Nat renaming reduceBEq→J2,reduceEqDiff→J3,reduceLT→J4,reduceLeDiff→J5,reduceAdd→J6,reduceMul→J7,reduceSub→J8
namespace Go.Vt.Tryz
open Go.Proofs Go.Vt.Al
theorem jc2 {A B:List Int} {s:ByteArray} {x x':Stx} (hx:aW A B x x'):∀{l r:List (ByteArray×Stx)},aW.goS A B l r→aW.goS A B (l++[(s,x)]) (r++[(s,x')])
 |[],r,h=>by
  rw[aW.goS]at h;subst h;show aW.goS A B [(s,x)] [(s,x')];rw[aW.goS];exact⟨x',[],rfl,hx,by rw[aW.goS]⟩
 |(s0,x0)::l,r,h=>by
  rw[aW.goS]at h;obtain⟨y,r',rfl,h1,h2⟩:=h;show aW.goS A B ((s0,x0)::(l++[(s,x)])) ((s0,y)::(r'++[(s,x')]));rw[aW.goS];exact⟨y,_,rfl,h1,jc2 hx h2⟩
theorem jc3 {A B:List Int} {s:ByteArray} {p p' q q':List Int} {x x' y y':Stx} (h1:eJ A B p p' (fun n=>aL x n∨(n∉q∧aL y n))) (h2:aW (A++p) (B++p') x x') (h3:eJ (A++p) (B++p') q q' (aL y)) (h4:aW (A++p++q) (B++p'++q') y y') :
  ∀{l r:List (ByteArray×List Int×Stx×List Int×Stx)},aW.goF A B l r→aW.goF A B (l++[(s,p,x,q,y)]) (r++[(s,p',x',q',y')])
 |[],r,h=>by
  rw[aW.goF]at h;subst h;show aW.goF A B [(s,p,x,q,y)] [(s,p',x',q',y')];rw[aW.goF];exact⟨p',x',q',y',[],rfl,h1,h2,h3,h4,by rw[aW.goF]⟩
 |(s0,p0,x0,q0,y0)::l,r,h=>by
  rw[aW.goF]at h;obtain⟨p1,x1,q1,y1,r',rfl,g1,g2,g3,g4,g5⟩:=h;show aW.goF A B ((s0,p0,x0,q0,y0)::(l++[(s,p,x,q,y)])) ((s0,p1,x1,q1,y1)::(r'++[(s,p',x',q',y')]));rw[aW.goF];exact⟨p1,x1,q1,y1,_,rfl,g1,g2,g3,g4,jc3 h1 h2 h3 h4 g5⟩
theorem jc4 {A B:List Int} {s:ByteArray} {q q':List Int} {y y':Stx} (h3:eJ A B q q' (aL y)) (h4:aW (A++q) (B++q') y y') :
  ∀{l r:List (ByteArray×List Int×Stx)},aW.goG A B l r→aW.goG A B (l++[(s,q,y)]) (r++[(s,q',y')])
 |[],r,h=>by
  rw[aW.goG]at h;subst h;show aW.goG A B [(s,q,y)] [(s,q',y')];rw[aW.goG];exact⟨q',y',[],rfl,h3,h4,by rw[aW.goG]⟩
 |(s0,q0,y0)::l,r,h=>by
  rw[aW.goG]at h;obtain⟨q1,y1,r',rfl,g3,g4,g5⟩:=h;show aW.goG A B ((s0,q0,y0)::(l++[(s,q,y)])) ((s0,q1,y1)::(r'++[(s,q',y')]));rw[aW.goG];exact⟨q1,y1,_,rfl,g3,g4,jc4 h3 h4 g5⟩
theorem j52:∀(x:Stx) (A B:List Int),stn x<10000000→A.length=B.length→A.length+stn x<1000000000→RS x A B:=by
 intro x;induction x using Stx.ind with
 |h x1 x2 x3 x4 x5 i3 i4 i5=>
 intro A B hs hAB hA vf vt XF XT;have hsz:=zg6 (x:=.mk x1 x2 x3 x4 x5) (Nat.le_of_lt hs);simp only[Stx.subs,Stx.vals,Stx.types,Stx.funs,Stx.sigs]at hsz;obtain⟨z3,z2,z1,z4,z5⟩:=hsz;simp only[stn,qB,qC,qD]at hs hA;have l3:=kJ x3;have l4:=lT x4;have l5:=lU x5;have hA2:A.length<1000000000:=by omega
 suffices hsuf:VC kp8 150 [.one (.ptr 0 0),stW (.mk x1 x2 x3 x4 x5)] (rH vf vt A B XF XT) fun r h'=>∃y3 y4 y5,r=stW (.mk (x1.map (gO A B)) (x2.map (iR A B)) y3 y4 y5)∧aW.goS A B x3 y3∧aW.goF A B x4 y4∧aW.goG A B x5 y5∧∃vf vt XF XT,h'=rH vf vt A B XF XT by
  refine hsuf.mono ?_;rintro r h' ⟨y3,y4,y5,e1,e2,e3,e4,e5⟩;refine⟨_,e1,?_,e5⟩;rw[aW];exact⟨rfl,rfl,e2,e3,e4⟩
 simp only[stW,aA,kq1,kq5,rH];refine aU mixed jM3 (by simp) ?_;show vwp kp8 4 zz4 _ [(0,.one (.ptr 0 0)),(1,.agg [.d (.sl (x1.map aD)),.d (.sl (x2.map aE)),.d (.sl (kq7 x3)),.d (.sl (kq8 x4)),.d (.sl (kq9 x5))])] [.box [.own 1 vf A.length,.own 2 vt B.length,.fn 99 [.ptr 3 0]],.arr false 1 vf (nums A++XF),.arr false 1 vt (nums B++XT),.box [.ptr 0 0]];conv in zz4=>cbv
 rw[aO];simp -implicitDefEqProofs only[oS.d,J0,J1,J2,J3,J4,J5,J6,J7,J8,↓reduceIte,reduceCtorEq,kr8,l3,l4,l5];have ht:=fun u (hu:tyn u<100000000)=>zK0 vf vt A B XF XT hA2 hAB (tyn u) u (ks0 _) hu;have hta:=fun l (hl:aK tyn l<100000000)=>j50 vf vt A B XF XT hA2 hAB l hl;simp only[rH]at ht hta;refine bE (α:=Nat) (fun x=>[(22,.one (.d (.int .i64 x))),(21,.one (.d (.int .i64 x1.length))),(20,.one (.d (.sl (x1.map aD)))),(2,.one (.ptr 4 0)),(3,.one (.ptr 5 0)),(4,.one (.ptr 6 0)),(5,.one (.ptr 7 0))]) (fun x=>[.box [.own 1 vf A.length,.own 2 vt B.length,.fn 99 [.ptr 3 0]],.arr false 1 vf (nums A++XF),.arr false 1 vt (nums B++XT),.box [.ptr 0 0],.box [.ptr 0 0],.box [.d (.sl (x1.map aD)),.d (.sl (x2.map aE)),.d (.sl (kq7 x3)),.d (.sl (kq8 x4)),.d (.sl (kq9 x5))],.box [.nils,.nils,.nils,.nils,.nils],.box [.own 8 x x,.nils,.nils,.nils,.nils],.arr false 5 x (((x1.map (gO A B)).take x).map aD)])
  (fun x=>x≤x1.length) (fun x=>x1.length-x) 0
  (oC [] [(7,0,5)] [0,1,2,3,4,5,6,7,8] rfl rfl rfl rfl rfl rfl) (kt1 _) ?_
 intro i hi;have hw:=bQ (a:=i) rfl (by omega);rcases ks3 i x1.length with h5|h5
 ·have hlt:((i:Int)<(x1.length:Int))=True:=by simp;omega
  obtain⟨u,hu⟩:=bK h5;have hmu:=dB (f:=dC) (kq0 hu);have hcu:dC u=1+tyn u.t+aK ctn u.cts:=rfl;have t1:=ht u.t (by omega);have hcl:=eC (f:=ctn) (fun t=>by unfold ctn;omega) u.cts;have hg:(x1.map aD)[i]?=some (aD u):=by rw[ks1,hu];rfl
  have hrow:(((x1.map (gO A B)).take i).map aD)++[aD (gO A B u)]=(((x1.map (gO A B)).take (i+1)).map aD):=by rw[kw0,ks1,hu];simp
  have htk:((((x1.map (gO A B)).take i).map aD)).take i=(((x1.map (gO A B)).take i).map aD):=kq6 (by simp;omega);have hcap:(i+1)*80≤aV∧i+1≤aV:=by simp[aV];omega
  simp only[gO]at hrow;generalize cI A B u.t=R at t1 hrow;obtain⟨rk,rn,rl⟩:=R;clear hu;obtain⟨un,⟨uk,ui,ul⟩,uc⟩:=u;simp only at hrow hcu hcl;have hcs:∀c∈uc,aK tyn c.args<100000000:=fun c hc=>by have:=dB (f:=ctn) hc;rw[tW]at this;omega
  simp only[tyV,aF,aD,kq1,kq5,kr0,kr2]at t1 hg hrow;simp -implicitDefEqProofs only[oS.d,J0,J1,J2,J3,J4,J5,J6,J7,J8,↓reduceIte,reduceCtorEq,hlt,hg,kq2,kq4];refine⟨?_,?_⟩;all_goals
   refine aM [0,1,2,3] t1 rfl rfl rfl rfl ?_;simp -implicitDefEqProofs only[oS.d,J0,J1,J2,J3,J4,J5,J6,J7,J8,↓reduceIte,reduceCtorEq,hlt,hg,kq2,kq4,kr8];refine bE (α:=Nat) (fun k=>[(36,.one (.d (.int .i64 k))),(35,.one (.d (.int .i64 uc.length))),(34,.one (.d (.sl (uc.map bC)))),(8,.one (.ptr 10 0)),(22,.one (.d (.int .i64 i))),(21,.one (.d (.int .i64 x1.length))),(20,.one (.d (.sl (x1.map aD)))),(2,.one (.ptr 4 0)),(3,.one (.ptr 5 0)),(4,.one (.ptr 6 0)),(5,.one (.ptr 7 0))])
    (fun k=>[.box [.own 1 vf A.length,.own 2 vt B.length,.fn 99 [.ptr 3 0]],.arr false 1 vf (nums A++XF),.arr false 1 vt (nums B++XT),.box [.ptr 0 0],.box [.ptr 0 0],.box [.d (.sl (x1.map aD)),.d (.sl (x2.map aE)),.d (.sl (kq7 x3)),.d (.sl (kq8 x4)),.d (.sl (kq9 x5))],.box [.nils,.nils,.nils,.nils,.nils],.box [.own 8 i i,.nils,.nils,.nils,.nils],.arr false 5 i (((x1.map (gO A B)).take i).map aD),.box [.d (.str un),.d (.int .i64 uk),.d (.int .i64 ui),.d (.sl (ks8 ul)),.d (.sl (uc.map bC))],.box [.d (.str un),.d (.int .i64 rk),.d (.int .i64 rn),.d (.sl (ks8 rl)),.own 11 k k],.arr false 2 k (((uc.map (lW A B)).take k).map bC)])
    (fun k=>k≤uc.length) (fun k=>uc.length-k) 0
    (oC [] [(10,4,2)] [0,1,2,3,4,5,6,7,8,9,10,11] rfl rfl rfl rfl rfl rfl) (kt1 _) ?_
   intro k hk;have hwk:=bQ (a:=k) rfl (by omega);have htkk:(((uc.map (lW A B)).take k).map bC).take k=((uc.map (lW A B)).take k).map bC:=kq6 (by simp;omega);rcases ks3 k uc.length with h6|h6
   ·have hltk:((k:Int)<(uc.length:Int))=True:=by simp;omega
    obtain⟨c,hc⟩:=bK h6;have t2:=hta c.args (hcs c (kq0 hc));have hgc:(uc.map bC)[k]?=some (bC c):=by rw[ks1,hc];rfl
    have hrowk:((uc.map (lW A B)).take k).map bC++[bC (lW A B c)]=((uc.map (lW A B)).take (k+1)).map bC:=by rw[kw0,ks1,hc];simp
    have hcapk:(k+1)*40≤aV∧k+1≤aV:=by simp[aV];omega
    obtain⟨cn,cl⟩:=c;simp only[bC,lW]at hgc hrowk t2;simp -implicitDefEqProofs only[oS.d,J0,J1,J2,J3,J4,J5,J6,J7,J8,↓reduceIte,reduceCtorEq,hltk,hgc,kq2,kq4];refine aM [0,1,2,3] t2 rfl rfl rfl rfl ?_;simp -implicitDefEqProofs only[oS.d,J0,J1,J2,J3,J4,J5,J6,J7,J8,↓reduceIte,reduceCtorEq,hcapk,htkk,hwk];rw[hrowk];refine⟨k+1,by omega,by omega,?_⟩;exact(aP [0,1,2,3,4,5,6,7,8,9,10,11] rfl rfl rfl rfl)
   ·have hltk:((k:Int)<(uc.length:Int))=False:=by simp;omega
    have hke:k=uc.length:=by omega
    subst hke;have hfin:((uc.map (lW A B)).take uc.length)=uc.map (lW A B):=kq6 (by simp);rw[hfin]at htkk ⊢;simp -implicitDefEqProofs only[oS.d,J0,J1,J2,J3,J4,J5,J6,J7,J8,↓reduceIte,reduceCtorEq,hltk,hcap,htk,htkk,hw];rw[hrow];refine⟨i+1,by omega,by omega,?_⟩;exact(aP [0,1,2,3,4,5,6,7,8] rfl rfl rfl rfl)
 have hlt:((i:Int)<(x1.length:Int))=False:=by simp;omega
 have hie:i=x1.length:=by omega
 subst hie;have hfin:((x1.map (gO A B)).take x1.length)=x1.map (gO A B):=kq6 (by simp);rw[hfin];clear hw h5 hi hfin hta;simp -implicitDefEqProofs only[oS.d,J0,J1,J2,J3,J4,J5,J6,J7,J8,↓reduceIte,reduceCtorEq,hlt,kr8];clear hlt;refine bE (α:=Nat) (fun x=>[(63,.one (.d (.int .i64 x))),(62,.one (.d (.int .i64 x2.length))),(61,.one (.d (.sl (x2.map aE)))),(2,.one (.ptr 4 0)),(3,.one (.ptr 5 0)),(4,.one (.ptr 6 0)),(5,.one (.ptr 7 0))]) (fun x=>[.box [.own 1 vf A.length,.own 2 vt B.length,.fn 99 [.ptr 3 0]],.arr false 1 vf (nums A++XF),.arr false 1 vt (nums B++XT),.box [.ptr 0 0],.box [.ptr 0 0],.box [.d (.sl (x1.map aD)),.d (.sl (x2.map aE)),.d (.sl (kq7 x3)),.d (.sl (kq8 x4)),.d (.sl (kq9 x5))],.box [.nils,.nils,.nils,.nils,.nils],.box [.own 8 x1.length x1.length,.own 9 x x,.nils,.nils,.nils],.arr false 5 x1.length ((x1.map (gO A B)).map aD),.arr false 5 x (((x2.map (iR A B)).take x).map aE)])
  (fun x=>x≤x2.length) (fun x=>x2.length-x) 0
  (oC [] [(7,1,5)] [0,1,2,3,4,5,6,7,8,9] rfl rfl rfl rfl rfl rfl) (kt1 _) ?_
 intro i hi;have hw:=bQ (a:=i) rfl (by omega);rcases ks3 i x2.length with h5|h5
 ·have hlt:((i:Int)<(x2.length:Int))=True:=by simp;omega
  obtain⟨u,hu⟩:=bK h5;have hmu:=dB (f:=dJ) (kq0 hu);have hcu:dJ u=1+tyn u.s.t:=rfl;have t1:=ht u.s.t (by omega);have hg:(x2.map aE)[i]?=some (aE u):=by rw[ks1,hu];rfl
  have hrow:(((x2.map (iR A B)).take i).map aE)++[aE (iR A B u)]=(((x2.map (iR A B)).take (i+1)).map aE):=by rw[kw0,ks1,hu];simp
  have htk:((((x2.map (iR A B)).take i).map aE)).take i=(((x2.map (iR A B)).take i).map aE):=kq6 (by simp;omega);have hcap:(i+1)*64≤aV∧i+1≤aV:=by simp[aV];omega
  simp only[iR]at hrow;generalize cI A B u.s.t=R at t1 hrow;obtain⟨rk,rn,rl⟩:=R;clear hu;obtain⟨un,ug,⟨uk,ui,ul⟩⟩:=u;simp only at hrow;simp only[tyV,aF,aE,cZ,kq1,kq5,kr0,kr2]at t1 hg hrow;simp -implicitDefEqProofs only[oS.d,J0,J1,J2,J3,J4,J5,J6,J7,J8,↓reduceIte,reduceCtorEq,hlt,hg,kq2,kq4];refine aM [0,1,2,3] t1 rfl rfl rfl rfl ?_;simp -implicitDefEqProofs only[oS.d,J0,J1,J2,J3,J4,J5,J6,J7,J8,↓reduceIte,reduceCtorEq,hcap,htk,hw];rw[hrow];refine⟨i+1,by omega,by omega,?_⟩;exact(aP [0,1,2,3,4,5,6,7,8,9] rfl rfl rfl rfl)
 have hlt:((i:Int)<(x2.length:Int))=False:=by simp;omega
 have hie:i=x2.length:=by omega
 subst hie;have hfin:((x2.map (iR A B)).take x2.length)=x2.map (iR A B):=kq6 (by simp);rw[hfin];clear hw h5 hi hfin ht;simp -implicitDefEqProofs only[oS.d,J0,J1,J2,J3,J4,J5,J6,J7,J8,↓reduceIte,reduceCtorEq,hlt];clear hlt;refine nZ [(7,2,6)] _ [.box [.own 1 vf A.length,.own 2 vt B.length,.fn 99 [.ptr 3 0]],.arr false 1 vf (nums A++XF),.arr false 1 vt (nums B++XT),.box [.ptr 0 0],.box [.ptr 0 0],.box [.d (.sl (x1.map aD)),.d (.sl (x2.map aE)),.d (.sl (kq7 x3)),.d (.sl (kq8 x4)),.d (.sl (kq9 x5))],.box [.nils,.nils,.nils,.nils,.nils],.box [.own 8 x1.length x1.length,.own 9 x2.length x2.length,.own 10 0 0,.nils,.nils],.arr false 5 x1.length ((x1.map (gO A B)).map aD),.arr false 5 x2.length ((x2.map (iR A B)).map aE),.arr false 6 0 (kq7 [])] [] rfl (ko6 _) (ko1 _) (zj2 x1 x2 x3 x4 x5) rfl rfl rfl ?_;rintro _ _ ⟨rfl,rfl⟩;refine⟨_,_,rfl,?_⟩;simp -implicitDefEqProofs only[oS.d,J0,J1,J2,J3,J4,J5,J6,J7,J8,↓reduceIte,reduceCtorEq];show vwp _ _ _ _ _ _;refine⟨229,[.ptr 11 0],20,_,rfl,rfl,zi9,by decide,?_⟩;refine zK4 (α:=(Nat×List (List D))×(Nat×List (List D))×List (ByteArray×Stx)) (N:=12) (by omega) (fun s=>[.box [.own 1 s.1.1 A.length,.own 2 s.2.1.1 B.length,.fn 99 [.ptr 3 0]],.arr false 1 s.1.1 (nums A++s.1.2),.arr false 1 s.2.1.1 (nums B++s.2.1.2),.box [.ptr 0 0],.box [.ptr 0 0],.box [.d (.sl (x1.map aD)),.d (.sl (x2.map aE)),.d (.sl (kq7 x3)),.d (.sl (kq8 x4)),.d (.sl (kq9 x5))],.box [.nils,.nils,.nils,.nils,.nils],.box [.own 8 x1.length x1.length,.own 9 x2.length x2.length,.own 10 s.2.2.length s.2.2.length,.nils,.nils],.arr false 5 x1.length ((x1.map (gO A B)).map aD),.arr false 5 x2.length ((x2.map (iR A B)).map aE),.arr false 6 s.2.2.length (kq7 s.2.2),.box [.d (.sl (x1.map aD)),.d (.sl (x2.map aE)),.d (.sl (kq7 x3)),.d (.sl (kq8 x4)),.d (.sl (kq9 x5))]])
  (fun i s=>s.2.2.length=i∧aW.goS A B (x3.take i) s.2.2) (id:=11) (fun _=>rfl) (show 11<12 by decide) (ks0 12) (fun _=>rfl) (fun _=>rfl) ?_ ?_ ((vf,XF),(vt,XT),[]) ⟨rfl,by rw[kw1,aW.goS]⟩
 ·rintro i x ⟨⟨v1,X1⟩,⟨w1,Y1⟩,dn⟩ hx ⟨g1,g2⟩ K' hK;refine⟨rfl,?_⟩;rw[aO];dsimp only at g1 g2 ⊢;have hmem:=kq0 hx;have hmu:=dB (f:=eZ) hmem;have hcu:=tU x;have hil:=(List.getElem?_eq_some_iff.1 hx).1;have t1:=i3 x hmem A B (by omega) hAB (by omega) v1 w1 X1 Y1;have hg2:∀y',aW A B x.2 y'→aW.goS A B (x3.take (i+1)) (dn++[(x.1,y')]):=fun y' hy=>by
   rw[kw0,hx];exact jc2 hy g2
  have hcap:(dn.length+1)*136≤aV∧dn.length+1≤aV:=by simp[aV];omega
  clear hx hmem hmu hcu;obtain⟨xn,⟨u1,u2,u3,u4,u5⟩⟩:=x;simp only[stW,cA,aA,kq1,kq5,rH]at t1 ⊢;simp -implicitDefEqProofs only[oS.d,J0,J1,J2,J3,J4,J5,J6,J7,J8,↓reduceIte,reduceCtorEq,mG];rw[tX,aO];have htk:(kq7 dn).take dn.length=kq7 dn:=kq6 (by rw[kJ];exact ks0 _);have hget:∀z,(kq7 dn++[z])[dn.length]?=some z:=fun z=>by rw[kr5 (by rw[kJ];exact ks0 _),kJ];simp
  have hset:∀z z',(kq7 dn++[z]).set dn.length z'=kq7 dn++[z']:=fun z z'=>by rw[kx2 _ _ (by rw[kJ];exact ks0 _),kJ];simp
  have hlt:(dn.length:Int)<((dn.length+1:Nat):Int):=by omega
  simp -implicitDefEqProofs only[oS.d,J0,J1,J2,J3,J4,J5,J6,J7,J8,↓reduceIte,reduceCtorEq,hcap,zj0];refine⟨?_,?_⟩;all_goals
   refine bJ [0,1,2,3] t1 rfl rfl rfl ?_;rintro _ _ ⟨⟨m1,m2,m3,m4,m5⟩,rfl,h2,v2,w2,X2,Y2,rfl⟩;refine⟨_,_,rfl,?_⟩;simp only[aA,kq1,kq5];have hrow:kq7 dn++[[.str xn,.sl (m1.map aD),.sl (m2.map aE),.sl (kq7 m3),.sl (kq8 m4),.sl (kq9 m5)]]=kq7 (dn++[(xn,.mk m1 m2 m3 m4 m5)]):=by simp[qA,cA,aA]
   have hln:dn.length+1=(dn++[(xn,Stx.mk m1 m2 m3 m4 m5)]).length:=by simp
   simp -implicitDefEqProofs only[oS.d,J0,J1,J2,J3,J4,J5,J6,J7,J8,↓reduceIte,reduceCtorEq,hcap,htk,zj0,hlt,hget,hset,kq2,kq4];rw[hrow,hln];exact hK ((v2,X2),(w2,Y2),dn++[(xn,.mk m1 m2 m3 m4 m5)]) [_,_,_] ⟨by simp[g1],hg2 _ h2⟩
 ·rintro⟨⟨v1,X1⟩,⟨w1,Y1⟩,d3⟩ ⟨g1,g2⟩;dsimp only at g1 g2 ⊢;rw[kv2]at g2;have hl3:=kJ d3;simp -implicitDefEqProofs only[oS.d,J0,J1,J2,J3,J4,J5,J6,J7,J8,↓reduceIte,reduceCtorEq,l4,l5];refine bE (α:=(Nat×List (List D))×(Nat×List (List D))×List (ByteArray×List Int×Stx×List Int×Stx)) (fun s=>[(104,.one (.d (.int .i64 s.2.2.length))),(103,.one (.d (.int .i64 x4.length))),(102,.one (.d (.sl (kq8 x4)))),(2,.one (.ptr 4 0)),(3,.one (.ptr 5 0)),(4,.one (.ptr 6 0)),(5,.one (.ptr 7 0))]) (fun s=>[.box [.own 1 s.1.1 A.length,.own 2 s.2.1.1 B.length,.fn 99 [.ptr 3 0]],.arr false 1 s.1.1 (nums A++s.1.2),.arr false 1 s.2.1.1 (nums B++s.2.1.2),.box [.ptr 0 0],.box [.ptr 0 0],.box [.d (.sl (x1.map aD)),.d (.sl (x2.map aE)),.d (.sl (kq7 x3)),.d (.sl (kq8 x4)),.d (.sl (kq9 x5))],.box [.nils,.nils,.nils,.nils,.nils],.box [.own 8 x1.length x1.length,.own 9 x2.length x2.length,.own 10 d3.length d3.length,.own 12 s.2.2.length s.2.2.length,.nils],.arr false 5 x1.length ((x1.map (gO A B)).map aD),.arr false 5 x2.length ((x2.map (iR A B)).map aE),.arr false 6 d3.length (kq7 d3),.box [.d (.sl (x1.map aD)),.d (.sl (x2.map aE)),.d (.sl (kq7 x3)),.d (.sl (kq8 x4)),.d (.sl (kq9 x5))],.arr false 13 s.2.2.length (kq8 s.2.2)])
   (fun s=>s.2.2.length≤x4.length∧aW.goF A B (x4.take s.2.2.length) s.2.2) (fun s=>x4.length-s.2.2.length) ((v1,X1),(w1,Y1),[])
   (oC [] [(7,3,13)] [0,1,2,3,4,5,6,7,8,9,10,11,12] rfl rfl rfl rfl rfl rfl) ⟨kt1 _,by show aW.goF A B (x4.take 0) [];rw[kw1,aW.goF]⟩ ?_
  rintro⟨⟨v1,X1⟩,⟨w1,Y1⟩,d4⟩ ⟨hi,k2⟩;dsimp only at hi k2 ⊢;have hw:=bQ (a:=d4.length) rfl (by omega);rcases ks3 d4.length x4.length with h5|h5
  ·have hlt:((d4.length:Int)<(x4.length:Int))=True:=by simp;omega
   obtain⟨u,hu⟩:=bK h5;have hmem:=kq0 hu;have hmu:=dB (f:=eQ) hmem;have hcu:=qH u;have hg:(kq8 x4)[d4.length]?=some (bW u):=by rw[lR,ks1,hu];rfl
   have t1:=j51 (x:=u.2.2.1) (y:=u.2.2.2.2) (p:=u.2.1) (q:=u.2.2.2.1) (A:=A) (B:=B) (fun out ho=>(i4 u hmem).1 _ _ (by omega) (by simp only[kq3];omega) (by simp only[kq3];omega)) (fun o1 o2 h1 h2=>(i4 u hmem).2 _ _ (by omega) (by simp only[kq3];omega) (by simp only[kq3];omega)) hAB (by omega) (by omega) (by omega) (by omega) v1 w1 X1 Y1;have hg2:∀p' x' q' y',eJ A B u.2.1 p' (fun n=>aL u.2.2.1 n∨(n∉u.2.2.2.1∧aL u.2.2.2.2 n))→aW (A++u.2.1) (B++p') u.2.2.1 x'→eJ (A++u.2.1) (B++p') u.2.2.2.1 q' (aL u.2.2.2.2)→aW (A++u.2.1++u.2.2.2.1) (B++p'++q') u.2.2.2.2 y'→aW.goF A B (x4.take (d4.length+1)) (d4++[(u.1,p',x',q',y')]):=fun p' x' q' y' b1 b2 b3 b4=>by
    rw[kw0,hu];exact jc3 b1 b2 b3 b4 k2
   clear hu hmem;obtain⟨un,up,⟨u1,u2,u3,u4,u5⟩,uq,⟨y1,y2,y3,y4,y5⟩⟩:=u;simp only at hg2;simp only[bW,cU,aA,kq1,kq5,kr0,kr2,rH]at t1 hg;have hcap:(d4.length+1)*304≤aV∧d4.length+1≤aV:=by simp[aV];omega
   have htk:(kq8 d4).take d4.length=kq8 d4:=kq6 (by rw[lT];exact ks0 _);have hget:∀z,(kq8 d4++[z])[d4.length]?=some z:=fun z=>by rw[kr5 (by rw[lT];exact ks0 _),lT];simp
   have hset:∀z z',(kq8 d4++[z]).set d4.length z'=kq8 d4++[z']:=fun z z'=>by rw[kx2 _ _ (by rw[lT];exact ks0 _),lT];simp
   have hlt2:(d4.length:Int)<((d4.length+1:Nat):Int):=by omega
   simp -implicitDefEqProofs only[oS.d,J0,J1,J2,J3,J4,J5,J6,J7,J8,↓reduceIte,reduceCtorEq,hlt,hg,hcap,zK5,kq2,kq4];refine⟨?_,?_⟩;all_goals
    refine bJ [0,1,2,3] t1 rfl rfl rfl ?_;rintro _ _ ⟨p',⟨m1,m2,m3,m4,m5⟩,q',⟨n1,n2,n3,n4,n5⟩,rfl,b1,b2,b3,b4,v2,w2,X2,Y2,rfl⟩;refine⟨_,_,rfl,?_⟩;simp only[aA,kq1,kq5,kr0,kr2];have hrow:kq8 d4++[[.str un,.sl (nums p'),.sl (m1.map aD),.sl (m2.map aE),.sl (kq7 m3),.sl (kq8 m4),.sl (kq9 m5),.sl (nums q'),.sl (n1.map aD),.sl (n2.map aE),.sl (kq7 n3),.sl (kq8 n4),.sl (kq9 n5)]]=kq8 (d4++[(un,p',(Stx.mk m1 m2 m3 m4 m5),q',(Stx.mk n1 n2 n3 n4 n5))]):=by simp[lR,bW,cU,aA]
    have hln:d4.length+1=(d4++[(un,p',(Stx.mk m1 m2 m3 m4 m5),q',(Stx.mk n1 n2 n3 n4 n5))]).length:=by simp
    have hg3:=hg2 _ _ _ _ b1 b2 b3 b4;rw[hln]at hg3;simp -implicitDefEqProofs only[oS.d,J0,J1,J2,J3,J4,J5,J6,J7,J8,↓reduceIte,reduceCtorEq,hcap,htk,zK5,hlt2,hget,hset,hw,kq2,kq4];rw[hrow,hln];refine⟨((v2,X2),(w2,Y2),(d4++[(un,p',(Stx.mk m1 m2 m3 m4 m5),q',(Stx.mk n1 n2 n3 n4 n5))])),⟨by rw[←hln];exact h5,hg3⟩,by show x4.length-(d4++[(un,p',(Stx.mk m1 m2 m3 m4 m5),q',(Stx.mk n1 n2 n3 n4 n5))]).length<x4.length-d4.length;rw[←hln];omega,?_⟩;exact(aP [0,1,2,3,4,5,6,7,8,9,10,11,12] rfl rfl rfl rfl)
  have hlt:((d4.length:Int)<(x4.length:Int))=False:=by simp;omega
  have hie:d4.length=x4.length:=by omega
  rw[hie,kv2]at k2;clear hw h5 hi;have e4:=k2;have hie4:=hie;clear k2 hie;simp -implicitDefEqProofs only[oS.d,J0,J1,J2,J3,J4,J5,J6,J7,J8,↓reduceIte,reduceCtorEq,hlt,l4,l5];clear hlt;refine bE (α:=(Nat×List (List D))×(Nat×List (List D))×List (ByteArray×List Int×Stx)) (fun s=>[(126,.one (.d (.int .i64 s.2.2.length))),(125,.one (.d (.int .i64 x5.length))),(124,.one (.d (.sl (kq9 x5)))),(2,.one (.ptr 4 0)),(3,.one (.ptr 5 0)),(4,.one (.ptr 6 0)),(5,.one (.ptr 7 0))]) (fun s=>[.box [.own 1 s.1.1 A.length,.own 2 s.2.1.1 B.length,.fn 99 [.ptr 3 0]],.arr false 1 s.1.1 (nums A++s.1.2),.arr false 1 s.2.1.1 (nums B++s.2.1.2),.box [.ptr 0 0],.box [.ptr 0 0],.box [.d (.sl (x1.map aD)),.d (.sl (x2.map aE)),.d (.sl (kq7 x3)),.d (.sl (kq8 x4)),.d (.sl (kq9 x5))],.box [.nils,.nils,.nils,.nils,.nils],.box [.own 8 x1.length x1.length,.own 9 x2.length x2.length,.own 10 d3.length d3.length,.own 12 d4.length d4.length,.own 13 s.2.2.length s.2.2.length],.arr false 5 x1.length ((x1.map (gO A B)).map aD),.arr false 5 x2.length ((x2.map (iR A B)).map aE),.arr false 6 d3.length (kq7 d3),.box [.d (.sl (x1.map aD)),.d (.sl (x2.map aE)),.d (.sl (kq7 x3)),.d (.sl (kq8 x4)),.d (.sl (kq9 x5))],.arr false 13 d4.length (kq8 d4),.arr false 7 s.2.2.length (kq9 s.2.2)])
   (fun s=>s.2.2.length≤x5.length∧aW.goG A B (x5.take s.2.2.length) s.2.2) (fun s=>x5.length-s.2.2.length) ((v1,X1),(w1,Y1),[])
   (oC [] [(7,4,7)] [0,1,2,3,4,5,6,7,8,9,10,11,12,13] rfl rfl rfl rfl rfl rfl) ⟨kt1 _,by show aW.goG A B (x5.take 0) [];rw[kw1,aW.goG]⟩ ?_
  rintro⟨⟨v1,X1⟩,⟨w1,Y1⟩,d5⟩ ⟨hi,k2⟩;dsimp only at hi k2 ⊢;have hw:=bQ (a:=d5.length) rfl (by omega);rcases ks3 d5.length x5.length with h5|h5
  ·have hlt:((d5.length:Int)<(x5.length:Int))=True:=by simp;omega
   obtain⟨u,hu⟩:=bK h5;have hmem:=kq0 hu;have hmu:=dB (f:=fJ) hmem;have hcu:=tV u;have hg:(kq9 x5)[d5.length]?=some (cB u):=by rw[lS,ks1,hu];rfl
   have t1:=zK6 (y:=u.2.2) (q:=u.2.1) (A:=A) (B:=B) (fun out ho=>i5 u hmem _ _ (by omega) (by simp only[kq3];omega) (by simp only[kq3];omega)) hAB (by omega) (by omega) (by omega) v1 w1 X1 Y1;have hg2:∀q' y',eJ A B u.2.1 q' (aL u.2.2)→aW (A++u.2.1) (B++q') u.2.2 y'→aW.goG A B (x5.take (d5.length+1)) (d5++[(u.1,q',y')]):=fun q' y' b1 b2=>by
    rw[kw0,hu];exact jc4 b1 b2 k2
   clear hu hmem;obtain⟨un,uq,⟨u1,u2,u3,u4,u5⟩⟩:=u;simp only at hg2;simp only[abW,cB,aA,kq1,kq5,kr0,kr2,rH]at t1 hg;have hcap:(d5.length+1)*160≤aV∧d5.length+1≤aV:=by simp[aV];omega
   have htk:(kq9 d5).take d5.length=kq9 d5:=kq6 (by rw[lU];exact ks0 _);have hget:∀z,(kq9 d5++[z])[d5.length]?=some z:=fun z=>by rw[kr5 (by rw[lU];exact ks0 _),lU];simp
   have hset:∀z z',(kq9 d5++[z]).set d5.length z'=kq9 d5++[z']:=fun z z'=>by rw[kx2 _ _ (by rw[lU];exact ks0 _),lU];simp
   have hlt2:(d5.length:Int)<((d5.length+1:Nat):Int):=by omega
   simp -implicitDefEqProofs only[oS.d,J0,J1,J2,J3,J4,J5,J6,J7,J8,↓reduceIte,reduceCtorEq,hlt,hg,hcap,zj1,kq2,kq4];refine⟨?_,?_⟩;all_goals
    refine bJ [0,1,2,3] t1 rfl rfl rfl ?_;rintro _ _ ⟨q',⟨m1,m2,m3,m4,m5⟩,rfl,b1,b2,v2,w2,X2,Y2,rfl⟩;refine⟨_,_,rfl,?_⟩;simp only[aA,kq1,kq5,kr0,kr2];have hrow:kq9 d5++[[.str un,.sl (nums q'),.sl (m1.map aD),.sl (m2.map aE),.sl (kq7 m3),.sl (kq8 m4),.sl (kq9 m5)]]=kq9 (d5++[(un,q',(Stx.mk m1 m2 m3 m4 m5))]):=by simp[lS,cB,aA]
    have hln:d5.length+1=(d5++[(un,q',(Stx.mk m1 m2 m3 m4 m5))]).length:=by simp
    have hg3:=hg2 _ _ b1 b2;rw[hln]at hg3;simp -implicitDefEqProofs only[oS.d,J0,J1,J2,J3,J4,J5,J6,J7,J8,↓reduceIte,reduceCtorEq,hcap,htk,zj1,hlt2,hget,hset,hw,kq2,kq4];rw[hrow,hln];refine⟨((v2,X2),(w2,Y2),(d5++[(un,q',(Stx.mk m1 m2 m3 m4 m5))])),⟨by rw[←hln];exact h5,hg3⟩,by show x5.length-(d5++[(un,q',(Stx.mk m1 m2 m3 m4 m5))]).length<x5.length-d5.length;rw[←hln];omega,?_⟩;exact(aP [0,1,2,3,4,5,6,7,8,9,10,11,12,13] rfl rfl rfl rfl)
  have hlt:((d5.length:Int)<(x5.length:Int))=False:=by simp;omega
  have hie:d5.length=x5.length:=by omega
  rw[hie,kv2]at k2;clear hw h5 hi;have e5:=k2;have hie5:=hie;clear k2 hie;simp -implicitDefEqProofs only[oS.d,J0,J1,J2,J3,J4,J5,J6,J7,J8,↓reduceIte,reduceCtorEq,hlt,l4,l5];clear hlt;have q1:(x1.map (aD∘gO A B)).take x1.length=(x1.map (gO A B)).map aD:=by rw[kK7];exact kq6 (by simp)
  have q2:(x2.map (aE∘iR A B)).take x2.length=(x2.map (iR A B)).map aE:=by rw[kK7];exact kq6 (by simp)
  have q3:(kq7 d3).take d3.length=kq7 d3:=kq6 (by rw[kJ];exact ks0 _);have q4:(kq8 d4).take d4.length=kq8 d4:=kq6 (by rw[lT];exact ks0 _);have q5:(kq9 d5).take d5.length=kq9 d5:=kq6 (by rw[lU];exact ks0 _);apply aH [0,1,2,3]
  ·simp only[dI,iC,kx5,cond_true,cond_false,rQ,rR,mI,wA,rS,rT,pX,ti3,kZ,kG,pT,pU,nI,pV,pW,kI,tQ,nJ,rP,ti9,cN,ks4,kr6,mkV,kw7,kr4,kr7,ks7,ks0,if_true,kv5,kw1,kq1,kq5,kw5];rfl
  ·first|rfl|(simp[fin,bO,bA,cF,bP,cW,bT,idx,dA,aG,cE,bD,ks9];first|exact⟨rfl,rfl⟩|exact⟨rfl,rfl,rfl⟩)
  refine⟨d3,d4,d5,?_,g2,e4,e5,v1,w1,X1,Y1,rfl⟩;rw[q1,q2,q3,q4,q5]
theorem jc5 {l:List Int} {i:Nat} (h:i<l.length):∃x,l[l.length-1-i]?=some x∧l.reverse[i]?=some x:=by
 rw[List.getElem?_reverse h];exact⟨_,kr1 (by omega),kr1 (by omega)⟩
theorem jc6 {l:List Int} {i:Nat} {x:Int} (h:l[i]?=some x):nums (l.take i)++[[.int .i64 x]]=nums (l.take (i+1)):=by
 rw[kw0,h];simp[nums]
theorem j53 (y:Stx) (q fr to:List Int) {n:Nat} {F G:List Int} (hn:n=min fr.length to.length) (hF:F=(fr.take n).reverse) (hG:G=(to.take n).reverse) (hA:fr.length+q.length<100000000) (hq:q.length<10000000) (hy:stn y<10000000) :
  VC kp8 31 [abW q y,.one (.d (.sl (nums fr))),.one (.d (.sl (nums to)))] [] fun r h'=>(∃q' y',r=abW q' y'∧eJ F G q q' (aL y)∧aW (F++q) (G++q') y y')∧h'=[]:=by
 have hFl:F.length=n:=by rw[hF,kI6,kt3];omega
 have hGl:G.length=n:=by rw[hG,kI6,kt3];omega
 have hx:=zK6 (y:=y) (q:=q) (A:=F) (B:=G) (fun out ho=>j52 y _ _ (by omega) (by simp;omega) (by simp;omega)) (by omega) (by omega) hq hy n n [] [];have hRe:∃R:List Int→Stx→Prop,R=fun q' y'=>eJ F G q q' (aL y)∧aW (F++q) (G++q') y y':=⟨_,rfl⟩;obtain⟨R,hR⟩:=hRe;have hx2:VC kp8 103 [.one (.ptr 0 0),abW q y] (rH n n F G [] []) fun r h'=>∃q' y',r=abW q' y'∧R q' y'∧∃vf vt XF XT,h'=rH vf vt F G XF XT:=by
  rw[hR];refine hx.mono ?_;rintro r h' ⟨q',y',a,b,c,d⟩;exact⟨q',y',a,⟨b,c⟩,d⟩
 suffices hs:VC kp8 31 [abW q y,.one (.d (.sl (nums fr))),.one (.d (.sl (nums to)))] [] fun r h'=>(∃q' y',r=abW q' y'∧R q' y')∧h'=[]by
  rw[hR]at hs;exact hs
 clear hx hR;obtain⟨y1,y2,y3,y4,y5⟩:=y;simp only[abW,aA,kq1,kq5,rH,List.append_nil,hFl,hGl]at hx2 ⊢;refine aU mixed jI7 (by simp) ?_;show vwp kp8 0 zv8 _ [(0,.agg [.d (.sl (nums q)),.d (.sl (y1.map aD)),.d (.sl (y2.map aE)),.d (.sl (kq7 y3)),.d (.sl (kq8 y4)),.d (.sl (kq9 y5))]),(1,.one (.d (.sl (nums fr)))),(2,.one (.d (.sl (nums to))))] [];conv in zv8=>cbv
 rw[aO];have hnn:(if (to.length:Int)<(fr.length:Int)then (to.length:Int)else (fr.length:Int))=(n:Int):=by split<;>omega
 simp -implicitDefEqProofs only[oS.d,J0,J1,J2,J3,J4,J5,J6,J7,J8,↓reduceIte,reduceCtorEq,bU,hnn];refine bE (α:=Nat) (fun x=>[(18,.one (.d (.int .i64 x))),(17,.one (.d (.int .i64 n))),(7,.one (.d (.int .i64 n))),(1,.one (.d (.sl (nums fr)))),(2,.one (.d (.sl (nums to)))),(3,.one (.ptr 0 0)),(6,.one (.ptr 1 0)),(8,.one (.ptr 3 0))]) (fun x=>[.box [.d (.sl (nums q)),.d (.sl (y1.map aD)),.d (.sl (y2.map aE)),.d (.sl (kq7 y3)),.d (.sl (kq8 y4)),.d (.sl (kq9 y5))],.box [.nils,.nils,.nils,.nils,.nils,.nils],.box [.own 4 x x,.own 5 x x,.nilf],.box [.ptr 2 0],.arr false 1 x (nums (F.take x)),.arr false 1 x (nums (G.take x))])
  (fun x=>x≤n) (fun x=>n-x) 0
  (oC [] [(2,0,1),(2,1,1)] [0,1,2,3,4,5] rfl rfl rfl rfl rfl rfl) (kt1 _) ?_
 intro i hi;have hw:=bQ (a:=i) rfl (by omega);rcases ks3 i n with h5|h5
 ·have hlt:((i:Int)<(n:Int))=True:=by simp;omega
  obtain⟨u,hu1,hu2⟩:=jc5 (l:=fr.take n) (i:=i) (by rw[kt3];omega);obtain⟨v,hv1,hv2⟩:=jc5 (l:=to.take n) (i:=i) (by rw[kt3];omega);have hl1:(fr.take n).length=n:=by rw[kt3];omega
  have hl2:(to.take n).length=n:=by rw[kt3];omega
  rw[hl1,ks5 (by omega)]at hu1;rw[hl2,ks5 (by omega)]at hv1;rw[←hF]at hu2;rw[←hG]at hv2;have hb1:n-1-i<fr.length:=by omega
  have hb2:n-1-i<to.length:=by omega
  have hs1:IntKind.i64.wrap ((n:Int)-1)=((n-1:Nat):Int):=by rw[rX (by omega) (by omega)];omega
  have hs2:IntKind.i64.wrap (((n-1:Nat):Int)-(i:Int))=((n-1-i:Nat):Int):=by rw[rX (by omega) (by omega)];omega
  have hg1:=iP hu1;have hg2:=iP hv1;have hcap:(i+1)*8≤aV∧i+1≤aV:=by simp[aV];omega
  have htk1:(nums (F.take i)).take i=nums (F.take i):=kq6 (by rw[bU,kt3];omega);have htk2:(nums (G.take i)).take i=nums (G.take i):=kq6 (by rw[bU,kt3];omega);simp -implicitDefEqProofs only[oS.d,J0,J1,J2,J3,J4,J5,J6,J7,J8,↓reduceIte,reduceCtorEq,hlt,hs1,hs2,hb1,hb2,hg1,hg2,hcap,htk1,htk2,hw,kq2,kq4]
  repeat' apply And.intro
  all_goals
   rw[jc6 hu2,jc6 hv2];refine⟨i+1,by omega,by omega,?_⟩;exact(aP [0,1,2,3,4,5] rfl rfl rfl rfl)
 ·have hlt:((n:Int)<(n:Int))=False:=by simp
  have hie:i=n:=by omega
  rw[hie];have t1:F.take n=F:=kq6 (by omega);have t2:G.take n=G:=kq6 (by omega);rw[t1,t2];clear hw h5 hi hie;simp -implicitDefEqProofs only[oS.d,J0,J1,J2,J3,J4,J5,J6,J7,J8,↓reduceIte,reduceCtorEq,hlt];refine bJ [2,4,5,3] hx2 rfl rfl rfl ?_;rintro _ _ ⟨q',⟨m1,m2,m3,m4,m5⟩,rfl,h2,vf,vt,XF,XT,rfl⟩;refine⟨_,_,rfl,?_⟩;simp only[aA,kq1,kq5];simp -implicitDefEqProofs only[oS.d,J0,J1,J2,J3,J4,J5,J6,J7,J8,↓reduceIte,reduceCtorEq];apply aH []
  ·simp only[dI,iC,kx5,cond_true,cond_false,pX,zu9,ti3,iM,nJ,cN,ks4,kr6,mkV,kw7,kr4,kr7,ks7,ks0,if_true,kv5,kw1,kq1,kq5,kw5];rfl
  ·first|rfl|(simp[fin,bO,bA,cF,bP,cW,bT,idx,dA,aG,cE,bD,ks9];first|exact⟨rfl,rfl⟩|exact⟨rfl,rfl,rfl⟩)
  exact⟨⟨q',.mk m1 m2 m3 m4 m5,rfl,h2⟩,rfl⟩
end Go.Vt.Tryz
