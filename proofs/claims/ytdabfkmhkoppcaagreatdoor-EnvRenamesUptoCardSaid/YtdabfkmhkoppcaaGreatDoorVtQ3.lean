import Derived.Test.YtdabfkmhkoppcaaGreatDoorVtQ2
import Derived.Test.YtdabfkmhkoppcaaGreatDoorVtO4
import Derived.Test.YtdabfkmhkoppcaaGreatDoorVtW9
import Derived.Test.YtdabfkmhkoppcaaGreatDoorVtQ1
import Derived.Test.YtdabfkmhkoppcaaGreatDoorVtX11
import Derived.Test.YtdabfkmhkoppcaaGreatDoorVtA8
import Derived.Test.YtdabfkmhkoppcaaGreatDoorVtStep
set_option linter.all false
set_option maxRecDepth 100000
open List renaming length_cons→kf6,map_cons→ke5,map_nil→ke8,reverse_cons→km4,take_of_length_le→ke0,take_succ_cons→ki2
open Nat renaming le_refl→kf2
open Go.Proofs.Tryz renaming prog→kd5
open Go.Vt.aA renaming funs→ke2,sigs→ke4,subs→ke3
open Go.Vt renaming mkV→J1
open Nat renaming reduceBEq→J2,reduceLeDiff→J5,reduceAdd→J6,reduceSub→J8
namespace Go.Vt.Tryz
open Go.Proofs Go.Vt.Al
theorem j80 (u v:Stx) (h1:stn u<90000000) (h2:stn v<90000000) (i3:∀a∈u.subs,∀b∈v.subs,StB a.2 b.2) (i4:∀a∈u.funs,∀b∈v.funs,StB a.2.2.1 b.2.2.1∧StB a.2.2.2.2 b.2.2.2.2) (i5:∀a∈u.sigs,∀b∈v.sigs,StB a.2.2 b.2.2):VC kd5 155 [stW u,stW v] [] fun r h'=>r = .one (.d (.bool (eqB u v)))∧h'=[]:=by
 obtain⟨z3,z2,z1,z4,z5⟩:=xZ (Nat.le_of_lt h1);have k1:∀{x:Stx},stn x<90000000→(∀a∈x.types,cJ a<100000000)∧(∀a∈x.vals,cO a<100000000)∧(∀a∈x.funs,a.2.1.length<1000000000∧a.2.2.2.1.length<1000000000)∧∀a∈x.sigs,a.2.1.length<1000000000:=fun {x} h=>by
  obtain⟨a,b,c,d,e⟩:=x;simp only[stn]at h;simp only[Stx.types,Stx.vals,Stx.funs,Stx.sigs];exact⟨fun y hy=>by have:=cY (f:=cJ) hy;omega,fun y hy=>by have:=cY (f:=cO) hy;omega,fun y hy=>by have:=iX hy;omega,fun y hy=>by have:=nF hy;omega⟩
 obtain⟨a1,a2,a4,a5⟩:=k1 h1;obtain⟨b1,b2,b4,b5⟩:=k1 h2;have n0:u.types≠v.types→u≠v:=fun h e=>h (e▸rfl);have n1:u.vals≠v.vals→u≠v:=fun h e=>h (e▸rfl);have n2:u.subs≠v.subs→u≠v:=fun h e=>h (e▸rfl);have n3:u.funs≠v.funs→u≠v:=fun h e=>h (e▸rfl);have n4:u.sigs≠v.sigs→u≠v:=fun h e=>h (e▸rfl);have hy:u.types=v.types→u.vals=v.vals→u.subs=v.subs→u.funs=v.funs→u.sigs=v.sigs→u=v:=by cases u;cases v;simp_all [Stx.types,Stx.vals,Stx.subs,Stx.funs,Stx.sigs]
 have t0:=jP9 (g:=208) u.types v.types (by omega) fun a ha b hb=>jP7 a b (a1 a ha) (b1 b hb);generalize hB:eqB u.types v.types=B0 at t0;have n0:=fun h=>n0 (dP (hB.trans h));have hb0:B0=true→u.types=v.types:=fun h=>dO (hB.trans h);clear hB;have t1:=jQ0 (g:=214) u.vals v.vals (by omega) fun a ha b hb=>jP8 a b (a2 a ha) (b2 b hb);generalize hB:eqB u.vals v.vals=B1 at t1;have n1:=fun h=>n1 (dP (hB.trans h));have hb1:B1=true→u.vals=v.vals:=fun h=>dO (hB.trans h);clear hB;have t2:=jQ1 (g:=217) u.subs v.subs (by omega) fun a ha b hb=>jQ4 a b (i3 a ha b hb);generalize hB:eqB u.subs v.subs=B2 at t2;have n2:=fun h=>n2 (dP (hB.trans h));have hb2:B2=true→u.subs=v.subs:=fun h=>dO (hB.trans h);clear hB;have t3:=jQ2 (g:=219) u.funs v.funs (by omega) fun a ha b hb=>jQ5 a b (a4 a ha).1 (a4 a ha).2 (i4 a ha b hb).1 (i4 a ha b hb).2;generalize hB:eqB u.funs v.funs=B3 at t3;have n3:=fun h=>n3 (dP (hB.trans h));have hb3:B3=true→u.funs=v.funs:=fun h=>dO (hB.trans h);clear hB;have t4:=jQ3 (g:=221) u.sigs v.sigs (by omega) fun a ha b hb=>jQ6 a b (a5 a ha) (i5 a ha b hb);generalize hB:eqB u.sigs v.sigs=B4 at t4;have n4:=fun h=>n4 (dP (hB.trans h));have hb4:B4=true→u.sigs=v.sigs:=fun h=>dO (hB.trans h);clear hB;obtain⟨u1,u2,u3,u4,u5⟩:=u;obtain⟨v1,v2,v3,v4,v5⟩:=v;simp only[aA,stW,Stx.types,Stx.vals,Stx.subs,Stx.funs,Stx.sigs,ke5,ke8]at t0 t1 t2 t3 t4 ⊢;refine aS aR jE1 (by simp) ?_;show vwp kd5 0 zu7 _ [(0,.agg [.d (.sl (u1.map aD)),.d (.sl (u2.map aE)),.d (.sl (ke3 u3)),.d (.sl (ke2 u4)),.d (.sl (ke4 u5))]),(1,.agg [.d (.sl (v1.map aD)),.d (.sl (v2.map aE)),.d (.sl (ke3 v3)),.d (.sl (ke2 v4)),.d (.sl (ke4 v5))])] [];conv in zu7=>cbv
 rw[aO];simp -implicitDefEqProofs only[oS.d,J1,J2,J5,J6,↓reduceIte,reduceCtorEq];refine aQ [] t0 rfl rfl rfl rfl ?_;cases B0 with
 |false=>
  simp -implicitDefEqProofs only[oS.d,J2];apply aI [];rfl;rfl;exact⟨by rw[cD (n0 rfl)],rfl⟩
 |true=>
  simp -implicitDefEqProofs only[oS.d,J1,J2,J5,J6,↓reduceIte,reduceCtorEq];refine aQ [] t1 rfl rfl rfl rfl ?_;cases B1 with
  |false=>
   simp -implicitDefEqProofs only[oS.d,J2];apply aI [];rfl;rfl;exact⟨by rw[cD (n1 rfl)],rfl⟩
  |true=>
   simp -implicitDefEqProofs only[oS.d,J1,J2,J5,J6,↓reduceIte,reduceCtorEq];refine aQ [] t2 rfl rfl rfl rfl ?_;cases B2 with
   |false=>
    simp -implicitDefEqProofs only[oS.d,J2];apply aI [];rfl;rfl;exact⟨by rw[cD (n2 rfl)],rfl⟩
   |true=>
    simp -implicitDefEqProofs only[oS.d,J1,J2,J5,J6,↓reduceIte,reduceCtorEq];refine aQ [] t3 rfl rfl rfl rfl ?_;cases B3 with
    |false=>
     simp -implicitDefEqProofs only[oS.d,J2];apply aI [];rfl;rfl;exact⟨by rw[cD (n3 rfl)],rfl⟩
    |true=>
     simp -implicitDefEqProofs only[oS.d,J1,J2,J5,J6,↓reduceIte,reduceCtorEq];refine aQ [] t4 rfl rfl rfl rfl ?_;cases B4 with
     |false=>
      simp -implicitDefEqProofs only[oS.d,J2];apply aI [];rfl;rfl;exact⟨by rw[cD (n4 rfl)],rfl⟩
     |true=>
      simp -implicitDefEqProofs only[oS.d,J2];apply aI [];rfl;rfl;exact⟨by rw[gH (hy (hb0 rfl) (hb1 rfl) (hb2 rfl) (hb3 rfl) (hb4 rfl))],rfl⟩
theorem j81:∀u v:Stx,stn u<90000000→stn v<90000000→StB u v:=by
 intro u;induction u using Stx.ind with
 |h x1 x2 x3 x4 x5 i3 i4 i5=>
 intro v h1 h2;have g1:=h1;simp only[stn]at g1;obtain⟨y1,y2,y3,y4,y5⟩:=v;have g2:=h2;simp only[stn]at g2;exact j80 _ _ h1 h2 (fun a ha b hb=>i3 a ha b.2 (by have:=pH (l:=x3) ha;omega) (by have:=pH (l:=y3) hb;omega))
  (fun a ha b hb=>⟨(i4 a ha).1 _ (by have:=iX (l:=x4) ha;omega) (by have:=iX (l:=y4) hb;omega),(i4 a ha).2 _ (by have:=iX (l:=x4) ha;omega) (by have:=iX (l:=y4) hb;omega)⟩)
  (fun a ha b hb=>i5 a ha _ (by have:=nF (l:=x5) ha;omega) (by have:=nF (l:=y5) hb;omega))
theorem zI2 (l:List Int) (s:Stx):(dW ltN (l,s)).1.length≤l.length∧stn (dW ltN (l,s)).2≤stn s:=by
 have b1:=zE9 (tk:=cR (l,s)) (sb:=id) (l,bQ ltN s) w0 rfl;have b2:=zE8 (tk:=cR (l,s)) (sb:=id) (bQ ltN s) ([]++l) (aY l.length w0) (by simp[aY,w0]);rw[zf2]at b2;exact⟨b1,b2⟩
theorem jc3 (l l':List Int) (s s':Stx) (hl:l.length<10000000) (hs:stn s<10000000) (hl':l'.length<10000000) (hs':stn s'<10000000) :
  VC kd5 33 [abW l s,abW l' s'] [] fun r h'=>r = .one (.d (.bool (eqB (dW ltN (l,s)) (dW ltN (l',s')))))∧h'=[]:=by
 have c1:=jc2 l s hl hs;have c2:=jc2 l' s' hl' hs';obtain⟨d1,d2⟩:=zI2 l s;obtain⟨d3,d4⟩:=zI2 l' s';have c3:=zC0 (dW ltN (l,s)) (dW ltN (l',s')) (by omega) (j81 _ _ (by omega) (by omega));generalize eqB (dW ltN (l,s)) (dW ltN (l',s'))=B at c3 ⊢;generalize dW ltN (l,s)=R at c1 c3;generalize dW ltN (l',s')=R' at c2 c3;obtain⟨q,⟨t1,t2,t3,t4,t5⟩⟩:=R;obtain⟨q',⟨w1,w2,w3,w4,w5⟩⟩:=R';obtain⟨s1,s2,s3,s4,s5⟩:=s;obtain⟨u1,u2,u3,u4,u5⟩:=s';simp only[abW,aA,ke5,ke8]at c1 c2 c3 ⊢;refine aS aR jA2 (by simp) ?_;show vwp kd5 0 zq8 _ [(0,.agg [.d (.sl (nums l)),.d (.sl (s1.map aD)),.d (.sl (s2.map aE)),.d (.sl (ke3 s3)),.d (.sl (ke2 s4)),.d (.sl (ke4 s5))]),(1,.agg [.d (.sl (nums l')),.d (.sl (u1.map aD)),.d (.sl (u2.map aE)),.d (.sl (ke3 u3)),.d (.sl (ke2 u4)),.d (.sl (ke4 u5))])] [];conv in zq8=>cbv
 rw[aO];simp -implicitDefEqProofs only[oS.d,J1,J2,J6,↓reduceIte];refine aQ [] c1 rfl rfl rfl rfl ?_;simp -implicitDefEqProofs only[oS.d,J1,J2,J6,↓reduceIte];refine aQ [] c2 rfl rfl rfl rfl ?_;simp -implicitDefEqProofs only[oS.d,J2];refine aQ [] c3 rfl rfl rfl rfl ?_;simp -implicitDefEqProofs only[oS.d,J2];apply aI [];rfl;rfl;exact⟨rfl,rfl⟩
theorem j82 (l l':List Int) (s s':Stx) (hl:l.length<10000000) (hs:stn s<10000000) (hn:cK s) (hl':l'.length<10000000) (hs':stn s'<10000000) (hn':cK s') :
  VC kd5 30 [abW l s,abW l' s'] [] fun r h'=>r = .one (.d (.bool (eqB (dW ltN (l,s)) (dW ltN (l',s')))))∧h'=[]:=by
 have c1:=zf3 l s hl hs hn;have c2:=zf3 l' s' hl' hs' hn';obtain⟨d1,d2⟩:=zI2 l s;have c3:=zB6 (dW ltN (l,s)) (dW ltN (l',s')) (by omega) (jO7 _ _ (by omega));generalize eqB (dW ltN (l,s)) (dW ltN (l',s'))=B at c3 ⊢;generalize dW ltN (l,s)=R at c1 c3;generalize dW ltN (l',s')=R' at c2 c3;obtain⟨q,⟨t1,t2,t3,t4,t5⟩⟩:=R;obtain⟨q',⟨w1,w2,w3,w4,w5⟩⟩:=R';obtain⟨s1,s2,s3,s4,s5⟩:=s;obtain⟨u1,u2,u3,u4,u5⟩:=s';simp only[abW,aA,ke5,ke8]at c1 c2 c3 ⊢;refine aS aR zU9 (by simp) ?_;show vwp kd5 0 xM _ [(0,.agg [.d (.sl (nums l)),.d (.sl (s1.map aD)),.d (.sl (s2.map aE)),.d (.sl (ke3 s3)),.d (.sl (ke2 s4)),.d (.sl (ke4 s5))]),(1,.agg [.d (.sl (nums l')),.d (.sl (u1.map aD)),.d (.sl (u2.map aE)),.d (.sl (ke3 u3)),.d (.sl (ke2 u4)),.d (.sl (ke4 u5))])] [];conv in xM=>cbv
 rw[aO];simp -implicitDefEqProofs only[oS.d,J1,J2,J6,↓reduceIte];refine aQ [] c1 rfl rfl rfl rfl ?_;simp -implicitDefEqProofs only[oS.d,J1,J2,J6,↓reduceIte];refine aQ [] c2 rfl rfl rfl rfl ?_;simp -implicitDefEqProofs only[oS.d,J2];refine aQ [] c3 rfl rfl rfl rfl ?_;simp -implicitDefEqProofs only[oS.d,J2];apply aI [];rfl;rfl;exact⟨rfl,rfl⟩
open Go.Vt.Al
theorem zI3 {A B:List Int}:∀t:Ty,tyn (dC A B t)=tyn t:=by
 intro t;induction t using Ty.ind with
 |h k n l ih=>
 have g:∀l:List Ty,(∀t∈l,tyn (dC A B t)=tyn t)→tyn.go (dC.go A B l)=tyn.go l:=by
  intro l;induction l with
  |nil=>intro _;rfl
  |cons t r ih2=>
   intro hi;simp only[dC.go,tyn.go];rw[hi t (by simp),ih2 fun t ht=>hi t (by simp[ht])]
 simp only[dC,tyn];rw[g l ih]
theorem jc4 {A B:List Int}:∀l:List Ty,tyn.go (dC.go A B l)=tyn.go l
 |[]=>rfl
 |t::r=>by simp only[dC.go,tyn.go,zI3,jc4 r]
theorem zh3 {α β:Type} {f:β→Nat} {g:α→Nat} {h:α→β} (e:∀a,f (h a)=g a):∀l:List α,aT f (l.map h)=aT g l
 |[]=>rfl
 |a::l=>by simp only[ke5,aT,e a,zh3 e l]
theorem j83 {A B:List Int} (m:Tym):cJ (gV A B m)=cJ m:=by
 simp only[cJ,gV];rw[zI3,zh3 (g:=ctn) fun c=>by simp only[ctn,nK,jc4]]
theorem zI4 {α:Type} {R:α→α→Prop}:∀{l r:List α} {b:α},cV R l r→b∈r→∃a∈l,R a b
 |[],[],_,_,h=>by cases h
 |a::l,c::r,b,⟨h1,h2⟩,hb=>by
  rcases List.mem_cons.1 hb with rfl|hb
  ·exact⟨a,by simp,h1⟩
  ·obtain⟨x,hx,h⟩:=zI4 h2 hb;exact⟨x,by simp[hx],h⟩
 |[],_::_,_,h,_=>h.elim
 |_::_,[],_,h,_=>h.elim
theorem j84:∀(s s':Stx) (A B:List Int),bG A B s s'→stn s'=stn s:=by
 intro s;induction s using Stx.ind with
 |h ts vs ss fs gs i1 i2 i3=>
 rintro⟨ts',vs',ss',fs',gs'⟩ A B hst;rw[bG]at hst;obtain⟨h1,h2,h3,h4,h5⟩:=hst;have e3:stn.goS ss'=stn.goS ss:=by
  have g:∀(l r:List (ByteArray×Stx)),(∀x∈l,∀s' A B,bG A B x.2 s'→stn s'=stn x.2)→bG.goS A B l r→stn.goS r=stn.goS l:=by
   intro l;induction l with
   |nil=>intro r _ h;rw[bG.goS]at h;rw[h]
   |cons x l ih=>
    obtain⟨s,x⟩:=x;intro r hi h;rw[bG.goS]at h;obtain⟨x',r',rfl,k1,k2⟩:=h;simp only[stn.goS];rw[hi (s,x) (by simp) x' A B k1,ih r' (fun y hy=>hi y (by simp[hy])) k2]
  exact g ss ss' i1 h3
 have e4:stn.goF fs'=stn.goF fs:=by
  have g:∀(l r:List (ByteArray×List Int×Stx×List Int×Stx)),(∀x∈l,(∀s' A B,bG A B x.2.2.1 s'→stn s'=stn x.2.2.1)∧(∀s' A B,bG A B x.2.2.2.2 s'→stn s'=stn x.2.2.2.2))→bG.goF A B l r→stn.goF r=stn.goF l:=by
   intro l;induction l with
   |nil=>intro r _ h;rw[bG.goF]at h;rw[h]
   |cons x l ih=>
    obtain⟨s,p,x,q,y⟩:=x;intro r hi h;rw[bG.goF]at h;obtain⟨p',x',q',y',r',rfl,e1,k1,e2,k2,k3⟩:=h;have k:=hi (s,p,x,q,y) (by simp);simp only[stn.goF];rw[k.1 x' _ _ k1,k.2 y' _ _ k2,ih r' (fun y hy=>hi y (by simp[hy])) k3,e1.1,e2.1]
  exact g fs fs' i2 h4
 have e5:stn.goG gs'=stn.goG gs:=by
  have g:∀(l r:List (ByteArray×List Int×Stx)),(∀x∈l,∀s' A B,bG A B x.2.2 s'→stn s'=stn x.2.2)→bG.goG A B l r→stn.goG r=stn.goG l:=by
   intro l;induction l with
   |nil=>intro r _ h;rw[bG.goG]at h;rw[h]
   |cons x l ih=>
    obtain⟨s,q,y⟩:=x;intro r hi h;rw[bG.goG]at h;obtain⟨q',y',r',rfl,e1,k1,k2⟩:=h;simp only[stn.goG];rw[hi (s,q,y) (by simp) y' _ _ k1,ih r' (fun y hy=>hi y (by simp[hy])) k2,e1.1]
  exact g gs gs' i3 h5
 subst h1;subst h2;simp only[stn];rw[zh3 (g:=cJ) j83,zh3 (g:=cO) fun m=>by simp only[cO,jB,zI3],e3,e4,e5]
theorem jc5 {σ:Int→Int}:∀(s s':Stx) (A B:List Int) (p:Nat→Nat→Prop),aV σ A B p s s'→cK s→cK s':=by
 intro s;induction s using Stx.ind with
 |h ts vs ss fs gs i1 i2 i3=>
 rintro⟨ts',vs',ss',fs',gs'⟩ A B p hst hn;rw[aV]at hst;obtain⟨h1,h2,h3,h4,h5⟩:=hst;simp only[cK]at hn ⊢;obtain⟨n1,n2,n3,n4,n5⟩:=hn;refine⟨fun m hm=>?_,fun m hm=>?_,?_,?_,?_⟩
 ·obtain⟨a,ha,h⟩:=zI4 h1 hm;rw[←h.1];exact n1 a ha
 ·obtain⟨a,ha,h⟩:=zI4 h2 hm;rw[←h.1];exact n2 a ha
 ·have g:∀(l r:List (ByteArray×Stx)),(∀x∈l,∀s' A B p,aV σ A B p x.2 s'→cK x.2→cK s')→aV.goS σ A B p l r→cK.goS l→cK.goS r:=by
   intro l;induction l with
   |nil=>intro r _ h _;rw[aV.goS]at h;rw[h];trivial
   |cons x l ih=>
    obtain⟨s,x⟩:=x;intro r hi h hn;rw[aV.goS]at h;obtain⟨x',r',rfl,k1,k2⟩:=h;simp only[cK.goS]at hn ⊢;exact⟨hn.1,hi (s,x) (by simp) x' A B _ k1 hn.2.1,ih r' (fun y hy=>hi y (by simp[hy])) k2 hn.2.2⟩
  exact g ss ss' i1 h3 n3
 ·have g:∀(l r:List (ByteArray×List Int×Stx×List Int×Stx)),(∀x∈l,(∀s' A B p,aV σ A B p x.2.2.1 s'→cK x.2.2.1→cK s')∧(∀s' A B p,aV σ A B p x.2.2.2.2 s'→cK x.2.2.2.2→cK s'))→aV.goF σ A B p l r→cK.goF l→cK.goF r:=by
   intro l;induction l with
   |nil=>intro r _ h _;rw[aV.goF]at h;rw[h];trivial
   |cons x l ih=>
    obtain⟨s,p,x,q,y⟩:=x;intro r hi h hn;rw[aV.goF]at h;obtain⟨p',x',q',y',r',p1,p2,rfl,e1,e2,k1,k2,k3⟩:=h;have k:=hi (s,p,x,q,y) (by simp);simp only[cK.goF]at hn ⊢;exact⟨hn.1,k.1 x' _ _ _ k1 hn.2.1,k.2 y' _ _ _ k2 hn.2.2.1,ih r' (fun y hy=>hi y (by simp[hy])) k3 hn.2.2.2⟩
  exact g fs fs' i2 h4 n4
 ·have g:∀(l r:List (ByteArray×List Int×Stx)),(∀x∈l,∀s' A B p,aV σ A B p x.2.2 s'→cK x.2.2→cK s')→aV.goG σ A B p l r→cK.goG l→cK.goG r:=by
   intro l;induction l with
   |nil=>intro r _ h _;rw[aV.goG]at h;rw[h];trivial
   |cons x l ih=>
    obtain⟨s,q,y⟩:=x;intro r hi h hn;rw[aV.goG]at h;obtain⟨q',y',r',p2,rfl,e1,k1,k2⟩:=h;simp only[cK.goG]at hn ⊢;exact⟨hn.1,hi (s,q,y) (by simp) y' _ _ _ k1 hn.2.1,ih r' (fun y hy=>hi y (by simp[hy])) k2 hn.2.2⟩
  exact g gs gs' i3 h5 n5
end Go.Vt.Tryz
namespace Go.Vt
theorem VC.frame {P:Program} {f:FuncId} {avs:List V} {h1 h2:aB} {K:V→aB→Prop} (step:∀(w:World) (μ:Pl),aW w μ h1→∃μ',aW w μ' h2∧Good w μ h1 w μ' h2) (hcb:jY P f=true) (hv:zj6 P f avs h2 K):VC P f avs h1 K:=by
 refine⟨hcb,fun w μ args H hl ha=>?_⟩;obtain⟨μ',H',g⟩:=step w μ H;refine(zM5 hv H' hl (fun j v x a b=>(ha j v x a b).good g)).mono ?_;rintro e w' ⟨r,x,h',μ2,e1,e2,e3,e4,e5⟩;exact⟨r,x,h',μ2,e1,e2,e3,e4,g.trans e5⟩
theorem j85 {w:World} {μ:Pl} {h:aB} {id a k:Nat} {l:L} {ty:Option TypeId} {cs:List L} {x:D} (H:aW w μ h) (h1:(fzOne h a)[id]?=some (.bx ty cs)) (h2:cs[k]?=some l) (h3:toD (fzOne h a) l=some x) :
  ∃μ',aW w μ' ((fzOne h a).set id (.bx ty (cs.set k (.d x))))∧Good w μ h w μ' ((fzOne h a).set id (.bx ty (cs.set k (.d x)))):=by
 have H1:=H.fzOne a;have g1:=kc3 w μ h a;obtain⟨b,vs,T,b1,b2,b3,b4,b5⟩:=H1.box id cs h1;have g2:Good w μ (fzOne h a) w μ ((fzOne h a).set id (.bx ty (cs.set k (.d x)))):=
  Good.row (o':=.bx ty (cs.set k (.d x))) h1 rfl (by simp[kQ]) b1 b2 ⟨rfl,rfl,rfl,rfl,fun _ _=>rfl,b2⟩ rfl
 refine⟨μ,H1.row (o':=.bx ty (cs.set k (.d x))) h1 rfl (by simp[kQ]) b1 b2 ⟨rfl,rfl,rfl,rfl,fun _ _=>rfl,b2⟩ rfl ⟨by simp[b3],b4,?_⟩,g1.trans g2⟩;intro j l' v hj hv;have hklt:=(List.getElem?_eq_some_iff.1 h2).1;by_cases e:j=k
 ·subst e;simp[hklt]at hj;subst hj;exact .d ((zJ8 H1 (b5 j l v h2 hv) h3).good g2)
 ·rw[List.getElem?_set_ne (Ne.symm e)]at hj;exact(b5 j l' v hj hv).good g2
end Go.Vt
namespace Go.Vt.Tryz
open Go.Proofs Go.Vt.Al
theorem jc6:∀(fr to:List Int) (n:Int),aF fr to n=n∨aF fr to n∈to
 |[],_,_=>.inl rfl
 |_::_,[],_=>.inl rfl
 |a::r,b::q,n=>by
  simp only[aF];split
  ·exact .inr (by simp)
  ·rcases jc6 r q n with h|h
   ·exact .inl h
   ·exact .inr (by simp[h])
theorem jc7:∀(fr to:List Int) (n:Int),aF fr to n=im (fr.take (min fr.length to.length)).reverse (to.take (min fr.length to.length)).reverse n
 |[],to,n=>by simp[aF,im,cE]
 |a::r,[],n=>by simp[aF,im,cE]
 |a::r,b::q,n=>by
  have h1:min (a::r).length (b::q).length=min r.length q.length+1:=by simp only[kf6];omega
  rw[h1,ki2,ki2,km4,km4];have hl:(r.take (min r.length q.length)).reverse.length=(q.take (min r.length q.length)).reverse.length:=by simp
  simp only[aF];split
  ·rename_i h;subst h;have h2:cE [a] a=some 0:=lO.2 ⟨rfl,fun j hj=>by rw[List.getElem?_eq_none (by simp;omega)];simp⟩;unfold im;rw[gU,h2];simp only[List.getD_eq_getElem?_getD,Nat.add_zero];rw[hl,List.getElem?_append_right (kf2 _),Nat.sub_self];rfl
  ·rename_i h;rw[z19 hl (by simpa using fun e=>h e.symm),jc7 r q n]
theorem j86 (l fr to:List Int) (s:Stx) (hl:l.length<10000000) (hs:stn s<10000000) (hf:fr.length<5000000) (ht:to.length<5000000) (hs2:stn s<5000000) :
  VC kd5 32 [abW l s,.one (.d (.sl (nums fr))),.one (.d (.sl (nums to)))] [] fun r h'=>r=abW (bU (cR (l,s)++to) (aF fr to) [] (l,s) w0).1.1 (bU (cR (l,s)++to) (aF fr to) [] (l,s) w0).1.2∧h'=[]:=by
 have c1:=jW8 l s hl hs;have hfl:(cR (l,s)).length≤stn s:=(qX (tk:=[]) (sb:=id) (l,s) hs (by simp)).2;have hb:=qX (tk:=cR (l,s)++to) (sb:=aF fr to) (l,s) hs (by simp;omega);have c3:=vA fr to (cR (l,s)++to) (zf0 fr to (cR (l,s)++to) (by omega) (by omega) (by simp;omega) s (by omega)) l [] w0 0 [] rfl (by simp;omega) (by simp[w0];omega) (Int.le_refl _) hb.1;have e1:nums (cR (l,s))++nums to=nums (cR (l,s)++to):=by simp[nums]
 generalize bU (cR (l,s)++to) (aF fr to) [] (l,s) w0=R at c3 ⊢;generalize cR (l,s)=G at c1 c3 e1 hfl;obtain⟨⟨r0,⟨r1,r2,r3,r4,r5⟩⟩,w1⟩:=R;obtain⟨s1,s2,s3,s4,s5⟩:=s;simp only[wb,wa,wf]at c3;simp only[abW,aA,ke5,ke8]at c1 c3 ⊢;have hcap:(G.length+to.length)*8≤aM∧G.length+to.length≤aM:=by simp[aM];omega
 have hal:((nums to).all fun e=>e.length == 1)=true:=by simp[nums]
 have hal2:((nums G).all fun e=>e.length == 1)=true:=by simp[nums]
 refine aS aR jA1 (by simp) ?_;show vwp kd5 0 zq7 _ [(0,.agg [.d (.sl (nums l)),.d (.sl (s1.map aD)),.d (.sl (s2.map aE)),.d (.sl (ke3 s3)),.d (.sl (ke2 s4)),.d (.sl (ke4 s5))]),(1,.one (.d (.sl (nums fr)))),(2,.one (.d (.sl (nums to))))] [];conv in zq7=>cbv
 rw[aO];simp -implicitDefEqProofs only[oS.d,J1,J2,J6,↓reduceIte];refine aQ [] c1 rfl rfl rfl rfl ?_;simp -implicitDefEqProofs only[oS.d,J1,J2,J5,J6,J8,↓reduceIte,reduceCtorEq,hcap,hal,bW];have ht:(nums G).take G.length=nums G:=ke0 (by rw[bW];exact kf2 _);have ht2:(nums (G++to)).take (G.length+to.length)=nums (G++to):=ke0 (by rw[bW,List.length_append];exact kf2 _);rw[ht,e1];have c4:VC kd5 105 [.one (.ptr 0 0),.agg [.d (.sl (nums l)),.d (.sl (s1.map aD)),.d (.sl (s2.map aE)),.d (.sl (ke3 s3)),.d (.sl (ke2 s4)),.d (.sl (ke4 s5))]]
   [.box [.own 1 0 0,.d (.sl (nums fr)),.d (.sl (nums to)),.d (.int .i64 0),.own 3 (fv G+1) (G.length+to.length),.own 2 0 0],.arr false 2 0 [],.arr false 1 0 [],.arr false 1 (fv G+1) (nums (G++to))]
   fun r h'=>r = .agg [.d (.sl (nums r0)),.d (.sl (r1.map aD)),.d (.sl (r2.map aE)),.d (.sl (ke3 r3)),.d (.sl (ke2 r4)),.d (.sl (ke4 r5))]∧∃o1 o2,h'=[.box [.own 1 o1 0,.d (.sl (nums fr)),.d (.sl (nums to)),.d (.int .i64 w1.next),.d (.sl (nums (G++to))),.own 2 (fv w1.free) w1.free.length],.arr false 2 o1 o2,.arr false 1 (fv w1.free) (nums w1.free),.arr true 1 (fv G+1) (nums (G++to))]:=by
  refine VC.frame (fun w μ H=>j85 (id:=0) (a:=3) (k:=4) (x:=.sl (nums (G++to))) H rfl rfl (by simp[toD,fzOne,aN.freeze,ht2])) c3.1 ⟨[0,1,2],_,_,_,rfl,rfl,rfl,c3,?_⟩;rintro _ _ ⟨rfl,v1,X1,rfl⟩;exact⟨_,_,rfl,rfl,_,_,rfl⟩
 refine mF [(3,0,2),(3,5,1)] _ [.box [.d (.sl (nums l)),.d (.sl (s1.map aD)),.d (.sl (s2.map aE)),.d (.sl (ke3 s3)),.d (.sl (ke2 s4)),.d (.sl (ke4 s5))],.box [.nils,.nils,.nils,.nils,.nils,.nils],.arr false 1 (fv G+1) (nums (G++to)),
   .box [.own 4 0 0,.d (.sl (nums fr)),.d (.sl (nums to)),.d (.int .i64 0),.own 2 (fv G+1) (G.length+to.length),.own 5 0 0],.arr false 2 0 [],.arr false 1 0 []] [3,4,5,2] rfl (kc4 _) (kb5 _) c4 rfl rfl rfl ?_
 rintro _ _ ⟨rfl,o1,o2,rfl⟩;refine⟨_,_,rfl,?_⟩;simp -implicitDefEqProofs only[oS.d,J2,J6,↓reduceIte];apply aI []
 ·simp only[cX,eH,Nat.reduceBEq,cond_true,cond_false,lI,cI,List.getElem?_cons_succ,List.getElem?_cons_zero,mkV,List.drop_zero,kf6,List.length_nil,Nat.reduceAdd,kf2,if_true,ki2,List.take_zero];rfl
 ·first|rfl|(simp[fin,bK,bB,bR,bM,dG,bO,idx,cM,aJ,cL,bH,aJ.renLs];first|exact⟨rfl,rfl⟩|exact⟨rfl,rfl,rfl⟩)
 exact⟨rfl,rfl⟩
end Go.Vt.Tryz
