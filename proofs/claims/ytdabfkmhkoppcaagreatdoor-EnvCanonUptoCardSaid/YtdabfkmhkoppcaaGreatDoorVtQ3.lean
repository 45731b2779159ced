import Derived.Test.YtdabfkmhkoppcaaGreatDoorVtD13
import Derived.Test.YtdabfkmhkoppcaaGreatDoorVtO4
import Derived.Test.YtdabfkmhkoppcaaGreatDoorVtW1
import Derived.Test.YtdabfkmhkoppcaaGreatDoorVtA1
import Derived.Test.YtdabfkmhkoppcaaGreatDoorVtC9
set_option linter.all false
set_option maxRecDepth 100000
open List renaming getD_eq_getElem?_getD→ku6,getElem?_append_right→kr5,getElem?_eq_some_iff→kp9,getElem?_of_mem→kw9,getElem?_reverse→kE1,length_append→kq3,map_cons→kq1,map_nil→kq5,mem_cons→kt6,mem_reverse→ky6,nil_append→kr2,nodup_cons→kE0,reverse_reverse→kE7
open Nat renaming add_sub_cancel_left→kv3
open Go.Proofs.Tryz renaming prog→kp8
open Go.Vt.aA renaming funs→kq8,sigs→kq9,subs→kq7
open Go.Vt renaming dL→J0,mkV→J1
open Nat renaming reduceBEq→J2,reduceEqDiff→J3,reduceLT→J4,reduceLeDiff→J5,reduceAdd→J6,reduceMul→J7,reduceSub→J8
namespace Go.Vt.Tryz
open Go.Proofs Go.Vt.Al
theorem kc5 (u v:Stx) (h1:stn u<90000000) (h2:stn v<90000000) (i3:∀a∈u.subs,∀b∈v.subs,StB a.2 b.2) (i4:∀a∈u.funs,∀b∈v.funs,StB a.2.2.1 b.2.2.1∧StB a.2.2.2.2 b.2.2.2.2) (i5:∀a∈u.sigs,∀b∈v.sigs,StB a.2.2 b.2.2):VC kp8 155 [stW u,stW v] [] fun r h'=>r = .one (.d (.bool (eqB u v)))∧h'=[]:=by
 obtain⟨z3,z2,z1,z4,z5⟩:=zg6 (Nat.le_of_lt h1);have k1:∀{x:Stx},stn x<90000000→(∀a∈x.types,dC a<100000000)∧(∀a∈x.vals,dJ a<100000000)∧(∀a∈x.funs,a.2.1.length<1000000000∧a.2.2.2.1.length<1000000000)∧∀a∈x.sigs,a.2.1.length<1000000000:=fun {x} h=>by
  obtain⟨a,b,c,d,e⟩:=x;simp only[stn]at h;simp only[Stx.types,Stx.vals,Stx.funs,Stx.sigs];exact⟨fun y hy=>by have:=dB (f:=dC) hy;omega,fun y hy=>by have:=dB (f:=dJ) hy;omega,fun y hy=>by have:=oF hy;omega,fun y hy=>by have:=tT hy;omega⟩
 obtain⟨a1,a2,a4,a5⟩:=k1 h1;obtain⟨b1,b2,b4,b5⟩:=k1 h2;have n0:u.types≠v.types→u≠v:=fun h e=>h (e▸rfl);have n1:u.vals≠v.vals→u≠v:=fun h e=>h (e▸rfl);have n2:u.subs≠v.subs→u≠v:=fun h e=>h (e▸rfl);have n3:u.funs≠v.funs→u≠v:=fun h e=>h (e▸rfl);have n4:u.sigs≠v.sigs→u≠v:=fun h e=>h (e▸rfl);have hy:u.types=v.types→u.vals=v.vals→u.subs=v.subs→u.funs=v.funs→u.sigs=v.sigs→u=v:=by cases u;cases v;simp_all [Stx.types,Stx.vals,Stx.subs,Stx.funs,Stx.sigs]
 have t0:=jX6 (g:=208) u.types v.types (by omega) fun a ha b hb=>jX4 a b (a1 a ha) (b1 b hb);generalize hB:eqB u.types v.types=B0 at t0;have n0:=fun h=>n0 (gM (hB.trans h));have hb0:B0=true→u.types=v.types:=fun h=>gL (hB.trans h);clear hB;have t1:=jX7 (g:=214) u.vals v.vals (by omega) fun a ha b hb=>jX5 a b (a2 a ha) (b2 b hb);generalize hB:eqB u.vals v.vals=B1 at t1;have n1:=fun h=>n1 (gM (hB.trans h));have hb1:B1=true→u.vals=v.vals:=fun h=>gL (hB.trans h);clear hB;have t2:=jX8 (g:=217) u.subs v.subs (by omega) fun a ha b hb=>jY1 a b (i3 a ha b hb);generalize hB:eqB u.subs v.subs=B2 at t2;have n2:=fun h=>n2 (gM (hB.trans h));have hb2:B2=true→u.subs=v.subs:=fun h=>gL (hB.trans h);clear hB;have t3:=jX9 (g:=219) u.funs v.funs (by omega) fun a ha b hb=>jY2 a b (a4 a ha).1 (a4 a ha).2 (i4 a ha b hb).1 (i4 a ha b hb).2;generalize hB:eqB u.funs v.funs=B3 at t3;have n3:=fun h=>n3 (gM (hB.trans h));have hb3:B3=true→u.funs=v.funs:=fun h=>gL (hB.trans h);clear hB;have t4:=jY0 (g:=221) u.sigs v.sigs (by omega) fun a ha b hb=>jY3 a b (a5 a ha) (i5 a ha b hb);generalize hB:eqB u.sigs v.sigs=B4 at t4;have n4:=fun h=>n4 (gM (hB.trans h));have hb4:B4=true→u.sigs=v.sigs:=fun h=>gL (hB.trans h);clear hB;obtain⟨u1,u2,u3,u4,u5⟩:=u;obtain⟨v1,v2,v3,v4,v5⟩:=v;simp only[aF,bC,aD,aE,cZ,cA,bW,cU,cB,aA,tyV,scV,stW,abW,Stx.types,Stx.vals,Stx.subs,Stx.funs,Stx.sigs,kq1,kq5,List.cons_append,kr2]at t0 t1 t2 t3 t4 ⊢;refine aU mixed jM5 (by simp) ?_;show vwp kp8 0 zz6 _ [(0,.agg [.d (.sl (u1.map aD)),.d (.sl (u2.map aE)),.d (.sl (kq7 u3)),.d (.sl (kq8 u4)),.d (.sl (kq9 u5))]),(1,.agg [.d (.sl (v1.map aD)),.d (.sl (v2.map aE)),.d (.sl (kq7 v3)),.d (.sl (kq8 v4)),.d (.sl (kq9 v5))])] [];conv in zz6=>cbv
 rw[aO];simp -implicitDefEqProofs only[oS.d,J0,J1,J2,J3,J4,J5,J6,J7,J8,↓reduceIte,reduceCtorEq];refine aM [] t0 rfl rfl rfl rfl ?_;cases B0 with
 |false=>
  simp -implicitDefEqProofs only[oS.d,J0,J1,J2,J3,J4,J5,J6,J7,J8,↓reduceIte,reduceCtorEq];apply aH [];rfl;rfl;exact⟨by rw[dD (n0 rfl)],rfl⟩
 |true=>
  simp -implicitDefEqProofs only[oS.d,J0,J1,J2,J3,J4,J5,J6,J7,J8,↓reduceIte,reduceCtorEq];refine aM [] t1 rfl rfl rfl rfl ?_;cases B1 with
  |false=>
   simp -implicitDefEqProofs only[oS.d,J0,J1,J2,J3,J4,J5,J6,J7,J8,↓reduceIte,reduceCtorEq];apply aH [];rfl;rfl;exact⟨by rw[dD (n1 rfl)],rfl⟩
  |true=>
   simp -implicitDefEqProofs only[oS.d,J0,J1,J2,J3,J4,J5,J6,J7,J8,↓reduceIte,reduceCtorEq];refine aM [] t2 rfl rfl rfl rfl ?_;cases B2 with
   |false=>
    simp -implicitDefEqProofs only[oS.d,J0,J1,J2,J3,J4,J5,J6,J7,J8,↓reduceIte,reduceCtorEq];apply aH [];rfl;rfl;exact⟨by rw[dD (n2 rfl)],rfl⟩
   |true=>
    simp -implicitDefEqProofs only[oS.d,J0,J1,J2,J3,J4,J5,J6,J7,J8,↓reduceIte,reduceCtorEq];refine aM [] t3 rfl rfl rfl rfl ?_;cases B3 with
    |false=>
     simp -implicitDefEqProofs only[oS.d,J0,J1,J2,J3,J4,J5,J6,J7,J8,↓reduceIte,reduceCtorEq];apply aH [];rfl;rfl;exact⟨by rw[dD (n3 rfl)],rfl⟩
    |true=>
     simp -implicitDefEqProofs only[oS.d,J0,J1,J2,J3,J4,J5,J6,J7,J8,↓reduceIte,reduceCtorEq];refine aM [] t4 rfl rfl rfl rfl ?_;cases B4 with
     |false=>
      simp -implicitDefEqProofs only[oS.d,J0,J1,J2,J3,J4,J5,J6,J7,J8,↓reduceIte,reduceCtorEq];apply aH [];rfl;rfl;exact⟨by rw[dD (n4 rfl)],rfl⟩
     |true=>
      simp -implicitDefEqProofs only[oS.d,J0,J1,J2,J3,J4,J5,J6,J7,J8,↓reduceIte,reduceCtorEq];apply aH [];rfl;rfl;exact⟨by rw[jP (hy (hb0 rfl) (hb1 rfl) (hb2 rfl) (hb3 rfl) (hb4 rfl))],rfl⟩
theorem kc6:∀u v:Stx,stn u<90000000→stn v<90000000→StB u v:=by
 intro u;induction u using Stx.ind with
 |h x1 x2 x3 x4 x5 i3 i4 i5=>
 intro v h1 h2;have g1:=h1;simp only[stn]at g1;obtain⟨y1,y2,y3,y4,y5⟩:=v;have g2:=h2;simp only[stn]at g2;exact kc5 _ _ h1 h2 (fun a ha b hb=>i3 a ha b.2 (by have:=wC (l:=x3) ha;omega) (by have:=wC (l:=y3) hb;omega))
  (fun a ha b hb=>⟨(i4 a ha).1 _ (by have:=oF (l:=x4) ha;omega) (by have:=oF (l:=y4) hb;omega),(i4 a ha).2 _ (by have:=oF (l:=x4) ha;omega) (by have:=oF (l:=y4) hb;omega)⟩)
  (fun a ha b hb=>i5 a ha _ (by have:=tT (l:=x5) ha;omega) (by have:=tT (l:=y5) hb;omega))
theorem jh2 (l:List Int) (s:Stx):(cG ltN (l,s)).1.length≤l.length∧stn (cG ltN (l,s)).2≤stn s:=by
 have b1:=zJ5 (tk:=bX (l,s)) (sb:=id) (l,bH ltN s) w0 rfl;have b2:=zJ4 (tk:=bX (l,s)) (sb:=id) (bH ltN s) ([]++l) (aQ l.length w0) (by simp[aQ,w0]);rw[zP]at b2;exact⟨b1,b2⟩
theorem kc7 (l l':List Int) (s s':Stx) (hl:l.length<10000000) (hs:stn s<10000000) (hl':l'.length<10000000) (hs':stn s'<10000000) :
  VC kp8 33 [abW l s,abW l' s'] [] fun r h'=>r = .one (.d (.bool (eqB (cG ltN (l,s)) (cG ltN (l',s')))))∧h'=[]:=by
 have c1:=zb0 l s hl hs;have c2:=zb0 l' s' hl' hs';obtain⟨d1,d2⟩:=jh2 l s;obtain⟨d3,d4⟩:=jh2 l' s';have c3:=zG7 (cG ltN (l,s)) (cG ltN (l',s')) (by omega) (kc6 _ _ (by omega) (by omega));generalize eqB (cG ltN (l,s)) (cG ltN (l',s'))=B at c3 ⊢;generalize cG ltN (l,s)=R at c1 c3;generalize cG ltN (l',s')=R' at c2 c3;obtain⟨q,⟨t1,t2,t3,t4,t5⟩⟩:=R;obtain⟨q',⟨w1,w2,w3,w4,w5⟩⟩:=R';obtain⟨s1,s2,s3,s4,s5⟩:=s;obtain⟨u1,u2,u3,u4,u5⟩:=s';simp only[abW,aA,kq1,kq5]at c1 c2 c3 ⊢;refine aU mixed jI8 (by simp) ?_;show vwp kp8 0 zv9 _ [(0,.agg [.d (.sl (nums l)),.d (.sl (s1.map aD)),.d (.sl (s2.map aE)),.d (.sl (kq7 s3)),.d (.sl (kq8 s4)),.d (.sl (kq9 s5))]),(1,.agg [.d (.sl (nums l')),.d (.sl (u1.map aD)),.d (.sl (u2.map aE)),.d (.sl (kq7 u3)),.d (.sl (kq8 u4)),.d (.sl (kq9 u5))])] [];conv in zv9=>cbv
 rw[aO];simp -implicitDefEqProofs only[oS.d,J0,J1,J2,J3,J4,J5,J6,J7,J8,↓reduceIte,reduceCtorEq];refine aM [] c1 rfl rfl rfl rfl ?_;simp -implicitDefEqProofs only[oS.d,J0,J1,J2,J3,J4,J5,J6,J7,J8,↓reduceIte,reduceCtorEq];refine aM [] c2 rfl rfl rfl rfl ?_;simp -implicitDefEqProofs only[oS.d,J0,J1,J2,J3,J4,J5,J6,J7,J8,↓reduceIte,reduceCtorEq];refine aM [] c3 rfl rfl rfl rfl ?_;simp -implicitDefEqProofs only[oS.d,J0,J1,J2,J3,J4,J5,J6,J7,J8,↓reduceIte,reduceCtorEq];apply aH [];rfl;rfl;exact⟨rfl,rfl⟩
open Go.Vt.Al
theorem zN0 {A B:List Int}:∀t:Ty,tyn (cI A B t)=tyn t:=by
 intro t;induction t using Ty.ind with
 |h k n l ih=>
 have g:∀l:List Ty,(∀t∈l,tyn (cI A B t)=tyn t)→tyn.go (cI.go A B l)=tyn.go l:=by
  intro l;induction l with
  |nil=>intro _;rfl
  |cons t r ih2=>
   intro hi;simp only[cI.go,tyn.go];rw[hi t (by simp),ih2 fun t ht=>hi t (by simp[ht])]
 simp only[cI,tyn];rw[g l ih]
theorem jh3 {A B:List Int}:∀l:List Ty,tyn.go (cI.go A B l)=tyn.go l
 |[]=>rfl
 |t::r=>by simp only[cI.go,tyn.go,zN0,jh3 r]
theorem zk4 {α β:Type} {f:β→Nat} {g:α→Nat} {h:α→β} (e:∀a,f (h a)=g a):∀l:List α,aK f (l.map h)=aK g l
 |[]=>rfl
 |a::l=>by simp only[kq1,aK,e a,zk4 e l]
theorem kc8 {A B:List Int} (m:Tym):dC (gO A B m)=dC m:=by
 simp only[dC,gO];rw[zN0,zk4 (g:=ctn) fun c=>by simp only[ctn,lW,jh3]]
theorem kc9:∀(s s':Stx) (A B:List Int),aW A B s s'→stn s'=stn s:=by
 intro s;induction s using Stx.ind with
 |h ts vs ss fs gs i1 i2 i3=>
 rintro⟨ts',vs',ss',fs',gs'⟩ A B hst;rw[aW]at hst;obtain⟨h1,h2,h3,h4,h5⟩:=hst;have e3:stn.goS ss'=stn.goS ss:=by
  have g:∀(l r:List (ByteArray×Stx)),(∀x∈l,∀s' A B,aW A B x.2 s'→stn s'=stn x.2)→aW.goS A B l r→stn.goS r=stn.goS l:=by
   intro l;induction l with
   |nil=>intro r _ h;rw[aW.goS]at h;rw[h]
   |cons x l ih=>
    obtain⟨s,x⟩:=x;intro r hi h;rw[aW.goS]at h;obtain⟨x',r',rfl,k1,k2⟩:=h;simp only[stn.goS];rw[hi (s,x) (by simp) x' A B k1,ih r' (fun y hy=>hi y (by simp[hy])) k2]
  exact g ss ss' i1 h3
 have e4:stn.goF fs'=stn.goF fs:=by
  have g:∀(l r:List (ByteArray×List Int×Stx×List Int×Stx)),(∀x∈l,(∀s' A B,aW A B x.2.2.1 s'→stn s'=stn x.2.2.1)∧(∀s' A B,aW A B x.2.2.2.2 s'→stn s'=stn x.2.2.2.2))→aW.goF A B l r→stn.goF r=stn.goF l:=by
   intro l;induction l with
   |nil=>intro r _ h;rw[aW.goF]at h;rw[h]
   |cons x l ih=>
    obtain⟨s,p,x,q,y⟩:=x;intro r hi h;rw[aW.goF]at h;obtain⟨p',x',q',y',r',rfl,e1,k1,e2,k2,k3⟩:=h;have k:=hi (s,p,x,q,y) (by simp);simp only[stn.goF];rw[k.1 x' _ _ k1,k.2 y' _ _ k2,ih r' (fun y hy=>hi y (by simp[hy])) k3,e1.1,e2.1]
  exact g fs fs' i2 h4
 have e5:stn.goG gs'=stn.goG gs:=by
  have g:∀(l r:List (ByteArray×List Int×Stx)),(∀x∈l,∀s' A B,aW A B x.2.2 s'→stn s'=stn x.2.2)→aW.goG A B l r→stn.goG r=stn.goG l:=by
   intro l;induction l with
   |nil=>intro r _ h;rw[aW.goG]at h;rw[h]
   |cons x l ih=>
    obtain⟨s,q,y⟩:=x;intro r hi h;rw[aW.goG]at h;obtain⟨q',y',r',rfl,e1,k1,k2⟩:=h;simp only[stn.goG];rw[hi (s,q,y) (by simp) y' _ _ k1,ih r' (fun y hy=>hi y (by simp[hy])) k2,e1.1]
  exact g gs gs' i3 h5
 subst h1;subst h2;simp only[stn];rw[zk4 (g:=dC) kc8,zk4 (g:=dJ) fun m=>by simp only[dJ,iR,zN0],e3,e4,e5]
section
variable {lt:ByteArray→ByteArray→Bool}
theorem jh4 {α:Type} (h:eK lt) (nm:α→ByteArray) (l:List α):dV lt nm (dV lt nm l)=dV lt nm l:=(z93 h (zh7 h l).1 kn8).symm
theorem zN1 {α:Type} (h:eK lt) (nm:α→ByteArray) (f:α→α) (hk:∀a,nm (f a)=nm a) (l:List α) (hf:∀a∈l,f (f a)=f a):dV lt nm ((dV lt nm (l.map f)).map f)=dV lt nm (l.map f):=by
 have e:∀l:List α,dV lt nm (l.map f)=(dV lt nm l).map f:=fun l=>by
  rw[z99];have:(fun a=>nm (f a))=nm:=funext hk;rw[this]
 rw[e (dV lt nm (l.map f)),jh4 h,←e,List.map_map]
 congr 1
 exact List.map_congr_left hf
theorem kd0 (h:eK lt):∀s,bH lt (bH lt s)=bH lt s:=by
 intro s;induction s using Stx.ind with
 |h ts vs ss fs gs i1 i2 i3=>
 simp only[bH,sB,sC,sD,jh4 h];rw[zN1 h (·.1) (fun a:ByteArray×Stx=>(a.1,bH lt a.2)) (fun _=>rfl) ss (fun a ha=>by simp only[i1 a ha]),
  zN1 h (·.1) (fun a:ByteArray×List Int×Stx×List Int×Stx=>(a.1,a.2.1,bH lt a.2.2.1,a.2.2.2.1,bH lt a.2.2.2.2)) (fun _=>rfl) fs (fun a ha=>by simp only[(i2 a ha).1,(i2 a ha).2]),
  zN1 h (·.1) (fun a:ByteArray×List Int×Stx=>(a.1,a.2.1,bH lt a.2.2)) (fun _=>rfl) gs (fun a ha=>by simp only[i3 a ha])]
theorem jh5:∀{l r:List Int},iS l→iS r→(∀m,m∈l↔m∈r)→l=r
 |[],[],_,_,_=>rfl
 |[],y::r,_,_,h=>by have:=(h y).2 (by simp);simp at this
 |x::l,[],_,_,h=>by have:=(h x).1 (by simp);simp at this
 |x::l,y::r,h1,h2,h=>by
  have hxy:x=y:=by
   rcases kt6.1 ((h x).1 (by simp))with e|e
   ·exact e
   ·rcases kt6.1 ((h y).2 (by simp))with g|g
    ·exact g.symm
    ·have a:=h2.1 x e;have b:=h1.1 y g;omega
  subst hxy;rw[jh5 h1.2 h2.2 fun m=>?_];constructor
  ·intro hm;rcases kt6.1 ((h m).1 (by simp[hm]))with e|e
   ·have:=h1.1 m hm;omega
   ·exact e
  ·intro hm;rcases kt6.1 ((h m).2 (by simp[hm]))with e|e
   ·have:=h2.1 m hm;omega
   ·exact e
theorem jh6 (l:List Int) (s:Stx):bX (l,bH lt s)=bX (l,s):=by
 have h1:=wQ l (bH lt s);have h2:=wQ l s;have:=jh5 h1.2 h2.2 fun m=>by rw[ky6,ky6,h1.1,h2.1,zI2]
 rw[←kE7 (bX (l,bH lt s)),this,kE7]
theorem kd1 (h:eK lt) (l:List Int) (s:Stx):cG lt (l,bH lt s)=cG lt (l,s):=by
 unfold cG;simp only[jh6,kd0 h]
theorem kd2 (h:eK lt) (a:List Int×Stx):cG lt (cG lt a)=cG lt a:=by
 rw[←z83 (z89 lt a)];exact kd1 h a.1 a.2
theorem jh7 (h:eK lt) (a:List Int×Stx):bX (cG lt a)=bX a:=by
 rw[←z82 (z89 lt a)];exact jh6 a.1 a.2
end
section
variable {A B A' B':List Int}
theorem zN2 (h:∀n,im A B n=im A' B' n):∀t:Ty,cI A B t=cI A' B' t:=by
 intro t;induction t using Ty.ind with
 |h k n l ih=>
 have g:∀l:List Ty,(∀t∈l,cI A B t=cI A' B' t)→cI.go A B l=cI.go A' B' l:=by
  intro l;induction l with
  |nil=>intro _;rfl
  |cons t r ih2=>
   intro hi;simp only[cI.go];rw[hi t (by simp),ih2 fun t ht=>hi t (by simp[ht])]
 simp only[cI];rw[g l ih,h n]
theorem jh8 (h:∀n,im A B n=im A' B' n):∀l:List Ty,cI.go A B l=cI.go A' B' l
 |[]=>rfl
 |t::r=>by simp only[cI.go,zN2 h t,jh8 h r]
theorem kd3 (h:∀n,im A B n=im A' B' n):lW A B=lW A' B':=funext fun c=>by simp only[lW,jh8 h]
theorem kd4 (h:∀n,im A B n=im A' B' n):gO A B=gO A' B':=funext fun m=>by simp only[gO,zN2 h,kd3 h]
theorem kd5 (h:∀n,im A B n=im A' B' n):iR A B=iR A' B':=funext fun m=>by simp only[iR,zN2 h]
theorem zN3 {own out:List Int} {F:Int→Prop} (h:∀n,im A B n=im A' B' n) (hb:eJ A B own out F):eJ A' B' own out F:=⟨hb.1,fun n h1 h2=>by rw[←h n];exact hb.2.1 n h1 h2,hb.2.2⟩
theorem zN4 {X Y:List Int} (h0:A.length=B.length) (h1:A'.length=B'.length) (h:∀n,im A B n=im A' B' n) (n:Int):im (A++X) (B++Y) n=im (A'++X) (B'++Y) n:=by
 by_cases hm:n∈X
 ·cases e:cC X n with
  |none=>exact absurd hm (iQ.1 e)
  |some j=>
   unfold im;rw[eR,eR,e];simp only[ku6];rw[kr5 (by omega),kr5 (by omega),h0,h1,kv3,kv3]
 ·rw[zH9 h0 hm,zH9 h1 hm,h n]
end
theorem kd6:∀(s s':Stx) (A B A' B':List Int),A.length=B.length→A'.length=B'.length→(∀n,im A B n=im A' B' n)→aW A B s s'→aW A' B' s s':=by
 intro s;induction s using Stx.ind with
 |h ts vs ss fs gs i1 i2 i3=>
 rintro⟨ts',vs',ss',fs',gs'⟩ A B A' B' h0 h1 hi hst;rw[aW]at hst ⊢;obtain⟨e1,e2,e3,e4,e5⟩:=hst;refine⟨by rw[e1,kd4 hi],by rw[e2,kd5 hi],?_,?_,?_⟩
 ·have g:∀(l r:List (ByteArray×Stx)),(∀x∈l,∀s' A B A' B',A.length=B.length→A'.length=B'.length→(∀n,im A B n=im A' B' n)→aW A B x.2 s'→aW A' B' x.2 s')→aW.goS A B l r→aW.goS A' B' l r:=by
   intro l;induction l with
   |nil=>intro r _ h;rw[aW.goS]at h ⊢;exact h
   |cons x l ih=>
    obtain⟨s,x⟩:=x;intro r hx h;rw[aW.goS]at h ⊢;obtain⟨x',r',rfl,k1,k2⟩:=h;exact⟨x',r',rfl,hx (s,x) (by simp) x' A B A' B' h0 h1 hi k1,ih r' (fun y hy=>hx y (by simp[hy])) k2⟩
  exact g ss ss' i1 e3
 ·have g:∀(l r:List (ByteArray×List Int×Stx×List Int×Stx)),(∀x∈l,(∀s' A B A' B',A.length=B.length→A'.length=B'.length→(∀n,im A B n=im A' B' n)→aW A B x.2.2.1 s'→aW A' B' x.2.2.1 s')∧
    (∀s' A B A' B',A.length=B.length→A'.length=B'.length→(∀n,im A B n=im A' B' n)→aW A B x.2.2.2.2 s'→aW A' B' x.2.2.2.2 s'))→aW.goF A B l r→aW.goF A' B' l r:=by
   intro l;induction l with
   |nil=>intro r _ h;rw[aW.goF]at h ⊢;exact h
   |cons x l ih=>
    obtain⟨s,p,x,q,y⟩:=x;intro r hx h;rw[aW.goF]at h ⊢;obtain⟨p',x',q',y',r',rfl,b1,k1,b2,k2,k3⟩:=h;have k:=hx (s,p,x,q,y) (by simp);have i1:=zN4 (X:=p) (Y:=p') h0 h1 hi;have l1:(A++p).length=(B++p').length:=by simp[h0,b1.1]
    have l2:(A'++p).length=(B'++p').length:=by simp[h1,b1.1]
    have i2:=zN4 (X:=q) (Y:=q') l1 l2 i1;exact⟨p',x',q',y',r',rfl,zN3 hi b1,k.1 x' _ _ _ _ l1 l2 i1 k1,zN3 i1 b2,k.2 y' _ _ _ _ (by simp[h0,b1.1,b2.1]) (by simp[h1,b1.1,b2.1]) i2 k2,ih r' (fun y hy=>hx y (by simp[hy])) k3⟩
  exact g fs fs' i2 e4
 ·have g:∀(l r:List (ByteArray×List Int×Stx)),(∀x∈l,∀s' A B A' B',A.length=B.length→A'.length=B'.length→(∀n,im A B n=im A' B' n)→aW A B x.2.2 s'→aW A' B' x.2.2 s')→aW.goG A B l r→aW.goG A' B' l r:=by
   intro l;induction l with
   |nil=>intro r _ h;rw[aW.goG]at h ⊢;exact h
   |cons x l ih=>
    obtain⟨s,q,y⟩:=x;intro r hx h;rw[aW.goG]at h ⊢;obtain⟨q',y',r',rfl,b1,k1,k2⟩:=h;have i1:=zN4 (X:=q) (Y:=q') h0 h1 hi;exact⟨q',y',r',rfl,zN3 hi b1,hx (s,q,y) (by simp) y' _ _ _ _ (by simp[h0,b1.1]) (by simp[h1,b1.1]) i1 k1,ih r' (fun y hy=>hx y (by simp[hy])) k2⟩
  exact g gs gs' i3 e5
theorem jh9 {L:List Int} (h:L.Nodup) {i j:Nat} (hij:i<j) {x:Int} (hi:L[i]?=some x) (hj:L[j]?=some x):False:=by
 obtain⟨a1,a2⟩:=kp9.1 hi;obtain⟨b1,b2⟩:=kp9.1 hj;exact List.pairwise_iff_getElem.1 h i j a1 b1 hij (by rw[a2,b2])
theorem kd7 {L:List Int} (h:L.Nodup):L.reverse.Nodup:=List.pairwise_reverse.2 (List.Pairwise.imp (fun g e=>g e.symm) h)
theorem kd8 {A B:List Int} (h0:A.length=B.length) (hd:A.Nodup) (n:Int):im A.reverse B.reverse n=im A B n:=by
 by_cases hm:n∈A
 ·obtain⟨i,hi⟩:=kw9 hm;have hl:=(kp9.1 hi).1;have hu:∀(L:List Int) (j:Nat),L.Nodup→L[j]?=some n→cC L n=some j:=fun L j hN hj=>mN.2 ⟨hj,fun k hk hc=>jh9 hN hk hj hc⟩;have e1:=hu A i hd hi;have e2:=hu A.reverse (A.length-1-i) (kd7 hd) (by rw[kE1 (by omega)];rw[show A.length-1-(A.length-1-i)=i by omega];exact hi);unfold im;rw[e1,e2];simp only[ku6];rw[kE1 (by omega),show B.length-1-(A.length-1-i)=i by omega]
 ·unfold im;rw[iQ.2 hm,iQ.2 (by simpa using hm)]
theorem kd9 {own to:List Int} {s y:Stx} (h0:own.length=to.length) (hd:own.Nodup) (ht:to.Nodup) (hf:∀n,aL s n→n∉to) (hr:aW own.reverse to.reverse s y):tZ id (own,s) (to,y):=by
 have h1:=kd6 s y _ _ own to (by simp[h0]) h0 (kd8 h0 hd) hr;have hid:im [] []=id:=by funext n;simp[im,cC]
 rw[←hid];refine j03 (A0:=[]) (B0:=[]) rfl ⟨h0.symm,fun n hn _=>?_,fun i j x y u v hij _ _ _ hu hv e=>jh9 ht hij hu (e▸hv)⟩ h1;rw[hid];exact hf n hn
def gD (A:List Int) (P:Int→Prop) (w w':WS):Prop:=
 w.nums.length=A.length→w'.nums.length=A.length∧∀(i:Nat) (k:Int),w'.nums[i]?=some k→0≤k→w.nums[i]?=some k∨∃n,P n∧cC A n=some i
section
variable {A:List Int} {P Q R:Int→Prop} {w w1 w2:WS}
theorem gD.no:gD A P w w:=fun h=>⟨h,fun _ _ h _=>.inl h⟩
theorem gD.cg (h:gD A P w w1) (hR:∀m,P m→R m):gD A R w w1:=fun hl=>⟨(h hl).1,fun i k a b=>by
 rcases(h hl).2 i k a b with e|⟨n,e1,e2⟩
 ·exact .inl e
 ·exact .inr ⟨n,hR n e1,e2⟩⟩
theorem gD.tr (h:gD A P w w1) (g:gD A Q w1 w2):gD A (fun m=>P m∨Q m) w w2:=fun hl=>⟨(g (h hl).1).1,fun i k a b=>by
 rcases(g (h hl).1).2 i k a b with e|⟨n,e1,e2⟩
 ·rcases(h hl).2 i k e b with e|⟨n,e1,e2⟩
  ·exact .inl e
  ·exact .inr ⟨n,.inl e1,e2⟩
 ·exact .inr ⟨n,.inr e1,e2⟩⟩
theorem gD.bd {l:List Int} (h:gD (A++l) P (aQ l.length w) w1):gD A (fun m=>m∉l∧P m) w (dO A.length w1):=fun hl=>by
 have h0:=h (by simp[aQ,hl]);refine⟨by simp[dO,h0.1],fun i k a b=>?_⟩;simp only[dO,List.getElem?_take]at a;split at a
 ·rename_i hi;rcases h0.2 i k a b with e|⟨n,e1,e2⟩
  ·simp only[aQ]at e;rw[List.getElem?_append_left (by omega)]at e;exact .inl e
  ·rw[eR]at e2;cases e3:cC l n with
   |none=>rw[e3]at e2;exact .inr ⟨n,⟨iQ.1 e3,e1⟩,e2⟩
   |some j=>rw[e3]at e2;simp only[Option.some.injEq]at e2;omega
 ·cases a
end
section
variable {tk:List Int} {sb:Int→Int} {A:List Int}
theorem ke0 (n:Int) (w:WS):gD A (fun m=>n=m) w (cK tk sb A n w).2:=by
 unfold cK;cases h:cC A n with
 |none=>exact fun hl=>⟨hl,fun _ _ h _=>.inl h⟩
 |some i=>
  simp only;split
  ·intro hl;refine⟨by simp[hl],fun j k a _=>?_⟩;simp only at a;by_cases e:j=i
   ·subst e;exact .inr ⟨n,rfl,h⟩
   ·rw[List.getElem?_set_ne (Ne.symm e)]at a;exact .inl a
  ·exact gD.no
theorem qT {α β:Type} {f:α→WS→β×WS} {P:α→Int→Prop}:∀(l:List α),(∀a∈l,∀w,gD A (P a) w (f a w).2)→∀w,gD A (fun m=>∃a∈l,P a m) w (aX f l w).2
 |[],_,w=>gD.no
 |a::l,h,w=>((h a (by simp) w).tr (qT l (fun b hb=>h b (by simp[hb])) _)).cg fun m=>by simp
theorem zN5:∀(t:Ty) (w:WS),gD A (bL t) w (tyF tk sb A t w).2:=by
 intro t;induction t using Ty.ind with
 |h k n l ih=>
 intro w;simp only[tyF,lE];have h1:gD A (fun m=>k=gN∧n=m) w (if k=gN then (cK tk sb A n w).2 else w):=by
  split
  ·rename_i h;exact(ke0 n w).cg fun m=>by simp[h]
  ·exact gD.no
 exact(h1.tr (qT l ih _)).cg fun m=>by simp only[bL,sE];exact id
theorem ke1 (t:Tym) (w:WS):gD A (mO t) w (cR tk sb A t w).2:=
 ((zN5 (tk:=tk) (sb:=sb) t.t w).tr (qT (f:=ctF tk sb A) (P:=fun c=>bL.go c.args) t.cts (fun c _ w=>by
  simp only[ctF,lE];exact(qT c.args (fun t _ w=>zN5 t w) w).cg fun m=>sE.2) _)).cg fun m=>id
theorem ke2:∀(s:Stx) (A:List Int) (w:WS),gD A (aL s) w (aS tk sb A s w).2:=by
 intro s;induction s using Stx.ind with
 |h ts vs ss fs gs i1 i2 i3=>
 intro A w;rw[sI];have b1:=qT (A:=A) (f:=cR tk sb A) ts (fun m _ w=>ke1 m w) w;have b2:=b1.tr (qT (A:=A) (f:=dK tk sb A) (P:=fun v=>bL v.s.t) vs (fun m _ w=>zN5 m.s.t w) _);have b3:=b2.tr (qT (A:=A) (f:=eD tk sb A) (P:=fun x=>aL x.2) ss (fun x hx w=>i1 x hx A w) _);have b4:=b3.tr (qT (A:=A) (f:=eT tk sb A) (P:=fun x m=>m∉x.2.1∧(aL x.2.2.1 m∨(m∉x.2.2.2.1∧aL x.2.2.2.2 m))) fs (fun x hx w=>gD.bd (((i2 x hx).1 _ _).tr (gD.bd ((i2 x hx).2 _ _)))) _);have b5:=b4.tr (qT (A:=A) (f:=jB tk sb A) (P:=fun x m=>m∉x.2.1∧aL x.2.2 m) gs (fun x hx w=>gD.bd (i3 x hx _ _)) _);exact b5.cg fun m=>by simp only[aL,uA,uB,uC,or_assoc];exact id
end
section
variable {σ:Int→Int} {A B:List Int} {p:Nat→Nat→Prop}
theorem zN6:∀(t t':Ty),fK σ A B p t t'→∀n,bL t n→∃m,bL t' m∧lg σ A B p n m:=by
 intro t;induction t using Ty.ind with
 |h k v l ih=>
 rintro⟨k',v',l'⟩ h n hn;rw[fK]at h;obtain⟨rfl,h2,h3⟩:=h;simp only[bL]at hn ⊢;rcases hn with⟨hk,rfl⟩|hn
 ·rw[if_pos hk]at h2;exact⟨v',.inl ⟨hk,rfl⟩,h2⟩
 ·have g:∀(l l':List Ty),(∀t∈l,∀t',fK σ A B p t t'→∀n,bL t n→∃m,bL t' m∧lg σ A B p n m)→fK.go σ A B p l l'→∀n,bL.go l n→∃m,bL.go l' m∧lg σ A B p n m:=by
   intro l;induction l with
   |nil=>intro l' _ _ n hn;simp[bL.go]at hn
   |cons t r ih2=>
    intro l' hi h n hn;rw[fK.go]at h;obtain⟨t',r',rfl,h1,h2⟩:=h;simp only[bL.go]at hn ⊢;rcases hn with hn|hn
    ·obtain⟨m,a,b⟩:=hi t (by simp) t' h1 n hn;exact⟨m,.inl a,b⟩
    ·obtain⟨m,a,b⟩:=ih2 r' (fun t ht=>hi t (by simp[ht])) h2 n hn;exact⟨m,.inr a,b⟩
  obtain⟨m,a,b⟩:=g l l' ih h3 n hn;exact⟨m,.inr a,b⟩
theorem ji0:∀(l l':List Ty),fK.go σ A B p l l'→∀n,bL.go l n→∃m,bL.go l' m∧lg σ A B p n m
 |[],_,_,n,hn=>by simp[bL.go]at hn
 |t::r,l',h,n,hn=>by
  rw[fK.go]at h;obtain⟨t',r',rfl,h1,h2⟩:=h;simp only[bL.go]at hn ⊢;rcases hn with hn|hn
  ·obtain⟨m,a,b⟩:=zN6 t t' h1 n hn;exact⟨m,.inl a,b⟩
  ·obtain⟨m,a,b⟩:=ji0 r r' h2 n hn;exact⟨m,.inr a,b⟩
theorem zk5 {α:Type} {R:α→α→Prop}:∀{l r:List α} {a:α},cX R l r→a∈l→∃b∈r,R a b
 |[],[],_,_,h=>by cases h
 |a::l,c::r,b,⟨h1,h2⟩,hb=>by
  rcases kt6.1 hb with rfl|hb
  ·exact⟨c,by simp,h1⟩
  ·obtain⟨x,hx,h⟩:=zk5 h2 hb;exact⟨x,by simp[hx],h⟩
 |[],_::_,_,h,_=>h.elim
 |_::_,[],_,h,_=>h.elim
theorem ke3 {t t':Tym} (h:sG σ A B p t t') {n:Int} (hn:mO t n):∃m,mO t' m∧lg σ A B p n m:=by
 rcases hn with hn|⟨c,hc,hn⟩
 ·obtain⟨m,a,b⟩:=zN6 _ _ h.2.1 n hn;exact⟨m,.inl a,b⟩
 ·obtain⟨c',hc',g⟩:=zk5 h.2.2 hc;obtain⟨m,a,b⟩:=ji0 _ _ g.2 n hn;exact⟨m,.inr ⟨c',hc',a⟩,b⟩
theorem zk6 {a b:List Int} {p2:Nat→Nat→Prop} {n m:Int} (hp:PI A.length B.length p) (hn:n∉a) (h:lg σ (A++a) (B++b) (ext A.length B.length p p2) n m):m∉b∧lg σ A B p n m:=by
 have en:=iQ.2 hn;rcases h with⟨i,j,e1,e2,e3⟩|⟨e1,e2,e3⟩
 ·rw[eR,en]at e1;simp only at e1;have hi:=sA e1;rcases e3 with e3|⟨u,v,rfl,rfl,_⟩
  ·have hj:=(hp.lt i j e3).2;rw[eR]at e2;cases e4:cC b m with
   |none=>rw[e4]at e2;exact⟨iQ.1 e4,.inl ⟨i,j,e1,e2,e3⟩⟩
   |some v=>rw[e4]at e2;simp only[Option.some.injEq]at e2;omega
  ·omega
 ·rw[eR,en]at e1;rw[eR]at e2;cases e4:cC b m with
  |none=>rw[e4]at e2;exact⟨iQ.1 e4,.inr ⟨e1,e2,e3⟩⟩
  |some v=>rw[e4]at e2;cases e2
end
theorem ke4 {σ:Int→Int}:∀(s s':Stx) (A B:List Int) (p:Nat→Nat→Prop),PI A.length B.length p→bB σ A B p s s'→∀n,aL s n→∃m,aL s' m∧lg σ A B p n m:=by
 intro s;induction s using Stx.ind with
 |h ts vs ss fs gs i1 i2 i3=>
 rintro⟨ts',vs',ss',fs',gs'⟩ A B p hp hst n hn;rw[bB]at hst;obtain⟨h1,h2,h3,h4,h5⟩:=hst;simp only[aL]at hn ⊢;rcases hn with⟨t,ht,hn⟩|⟨v,hv,hn⟩|hn|hn|hn
 ·obtain⟨t',ht',g⟩:=zk5 h1 ht;obtain⟨m,a,b⟩:=ke3 g hn;exact⟨m,.inl ⟨t',ht',a⟩,b⟩
 ·obtain⟨v',hv',g⟩:=zk5 h2 hv;obtain⟨m,a,b⟩:=zN6 _ _ g.2.2 n hn;exact⟨m,.inr (.inl ⟨v',hv',a⟩),b⟩
 ·have g:∀(l r:List (ByteArray×Stx)),(∀x∈l,∀s' A B p,PI A.length B.length p→bB σ A B p x.2 s'→∀n,aL x.2 n→∃m,aL s' m∧lg σ A B p n m)→bB.goS σ A B p l r→aL.goS l n→∃m,aL.goS r m∧lg σ A B p n m:=by
   intro l;induction l with
   |nil=>intro r _ _ hn;simp[aL.goS]at hn
   |cons x l ih=>
    obtain⟨s,x⟩:=x;intro r hi h hn;rw[bB.goS]at h;obtain⟨x',r',rfl,k1,k2⟩:=h;simp only[aL.goS]at hn ⊢;rcases hn with hn|hn
    ·obtain⟨m,a,b⟩:=hi (s,x) (by simp) x' A B p hp k1 n hn;exact⟨m,.inl a,b⟩
    ·obtain⟨m,a,b⟩:=ih r' (fun y hy=>hi y (by simp[hy])) k2 hn;exact⟨m,.inr a,b⟩
  obtain⟨m,a,b⟩:=g ss ss' i1 h3 hn;exact⟨m,.inr (.inr (.inl a)),b⟩
 ·have g:∀(l r:List (ByteArray×List Int×Stx×List Int×Stx)),(∀x∈l,(∀s' A B p,PI A.length B.length p→bB σ A B p x.2.2.1 s'→∀n,aL x.2.2.1 n→∃m,aL s' m∧lg σ A B p n m)∧
    (∀s' A B p,PI A.length B.length p→bB σ A B p x.2.2.2.2 s'→∀n,aL x.2.2.2.2 n→∃m,aL s' m∧lg σ A B p n m))→bB.goF σ A B p l r→aL.goF l n→∃m,aL.goF r m∧lg σ A B p n m:=by
   intro l;induction l with
   |nil=>intro r _ _ hn;simp[aL.goF]at hn
   |cons x l ih=>
    obtain⟨s,a,x,b,y⟩:=x;intro r hi h hn;rw[bB.goF]at h;obtain⟨a',x',b',y',r',p1,p2,rfl,e1,e2,k1,k2,k3⟩:=h;have k:=hi (s,a,x,b,y) (by simp);simp only[aL.goF]at hn ⊢;have hpa:PI (A++a).length (B++a').length (ext A.length B.length p p1):=by rw[kq3,kq3];exact hp.ext e1
    have hpb:PI (A++a++b).length (B++a'++b').length (ext (A++a).length (B++a').length (ext A.length B.length p p1) p2):=by
     have h:=hpa.ext e2;rw[←kq3,←kq3]at h;exact h
    rcases hn with⟨hna,hn|⟨hnb,hn⟩⟩|hn
    ·obtain⟨m,c,d⟩:=k.1 x' _ _ _ hpa k1 n hn;obtain⟨d1,d2⟩:=zk6 hp hna d;exact⟨m,.inl ⟨d1,.inl c⟩,d2⟩
    ·obtain⟨m,c,d⟩:=k.2 y' _ _ _ hpb k2 n hn;obtain⟨d1,d2⟩:=zk6 hpa hnb d;obtain⟨d3,d4⟩:=zk6 hp hna d2;exact⟨m,.inl ⟨d3,.inr ⟨d1,c⟩⟩,d4⟩
    ·obtain⟨m,c,d⟩:=ih r' (fun y hy=>hi y (by simp[hy])) k3 hn;exact⟨m,.inr c,d⟩
  obtain⟨m,a,b⟩:=g fs fs' i2 h4 hn;exact⟨m,.inr (.inr (.inr (.inl a))),b⟩
 ·have g:∀(l r:List (ByteArray×List Int×Stx)),(∀x∈l,∀s' A B p,PI A.length B.length p→bB σ A B p x.2.2 s'→∀n,aL x.2.2 n→∃m,aL s' m∧lg σ A B p n m)→bB.goG σ A B p l r→aL.goG l n→∃m,aL.goG r m∧lg σ A B p n m:=by
   intro l;induction l with
   |nil=>intro r _ _ hn;simp[aL.goG]at hn
   |cons x l ih=>
    obtain⟨s,b,y⟩:=x;intro r hi h hn;rw[bB.goG]at h;obtain⟨b',y',r',p2,rfl,e1,k1,k2⟩:=h;simp only[aL.goG]at hn ⊢;have hpa:PI (A++b).length (B++b').length (ext A.length B.length p p2):=by rw[kq3,kq3];exact hp.ext e1
    rcases hn with⟨hnb,hn⟩|hn
    ·obtain⟨m,c,d⟩:=hi (s,b,y) (by simp) y' _ _ _ hpa k1 n hn;obtain⟨d1,d2⟩:=zk6 hp hnb d;exact⟨m,.inl ⟨d1,c⟩,d2⟩
    ·obtain⟨m,c,d⟩:=ih r' (fun y hy=>hi y (by simp[hy])) k2 hn;exact⟨m,.inr c,d⟩
  obtain⟨m,a,b⟩:=g gs gs' i3 h5 hn;exact⟨m,.inr (.inr (.inr (.inr a))),b⟩
theorem ke5 {lt:ByteArray→ByteArray→Bool} (a:List Int×Stx) (m:Int) (hm:m∈(cG lt a).1):aL (cG lt a).2 m:=by
 have hF:∀n,aL (bH lt a.2) n→n∉a.1→id n∈bX a:=fun n hn hq=>z88 ((zI2 lt n a.2).1 hn) hq;have k:=z86 (bX a) id (bH lt a.2) a.1 hF;have hok:WOk (bX a) w0:=⟨⟨fun i j k h=>by simp[w0]at h,fun k h=>by simp[w0]at h⟩,fun k h=>by simp[w0]at h,Int.le_refl _⟩;obtain⟨h1,h2,h3⟩:=k (aQ a.1.length w0) (by simp[aQ,w0]) hok.enter;have h4:=h3 _ _ ko2 h2.1 (oH _);have hl:(aS (bX a) id a.1 (bH lt a.2) (aQ a.1.length w0)).2.nums.length=a.1.length:=by rw[h1.len];simp[aQ,w0]
 have hpi:=zN h2.1 (oH _);rw[hl]at hpi;have hg:=ke2 (tk:=bX a) (sb:=id) (bH lt a.2) a.1 (aQ a.1.length w0) (by simp[aQ,w0]);have hm2:m∈dH (aS (bX a) id a.1 (bH lt a.2) (aQ a.1.length w0)).2.nums:=by
  simpa only[cG,cL,kr2,List.length_nil,List.drop_zero]using hm
 have hc:(cG lt a).2=(aS (bX a) id a.1 (bH lt a.2) (aQ a.1.length w0)).1:=by simp only[cG,cL,kr2]
 rw[hc];obtain⟨h0,hmn⟩:=zh3.1 hm2;obtain⟨i,hi⟩:=kw9 hmn;rcases hg.2 i m hi h0 with e|⟨n,e1,e2⟩
 ·simp only[aQ,w0,kr2]at e;have:=List.mem_of_getElem? e;rw[List.mem_replicate]at this;omega
 ·obtain⟨x,g1,g2⟩:=ke4 _ _ _ _ _ hpi h4 n e1;rcases g2 with⟨i',j,f1,f2,z,f3,f4,f5⟩|⟨f1,_⟩
  ·rw[e2]at f1;obtain rfl:=Option.some.inj f1;rw[hi]at f4;obtain rfl:=Option.some.inj f4;have:=(mN.1 f2).1;rw[f5]at this;obtain rfl:=Option.some.inj this;exact g1
  ·rw[e2]at f1;cases f1
theorem zk7:∀{l:List Int},iS l→l.Nodup
 |[],_=>List.nodup_nil
 |x::l,h=>kE0.2 ⟨fun hm=>by have:=h.1 x hm;omega,zk7 h.2⟩
theorem zN7:∀{l r:List Int},l.Nodup→(∀m∈l,m∈r)→l.length≤r.length
 |[],_,_,_=>Nat.zero_le _
 |x::l,r,h,hs=>by
  obtain⟨h1,h2⟩:=kE0.1 h;have hx:=hs x (by simp);have:=zN7 (r:=r.erase x) h2 fun m hm=>(List.mem_erase_of_ne (fun e:m=x=>h1 (e▸hm))).2 (hs m (by simp[hm]));rw[List.length_erase_of_mem hx]at this;have:=List.length_pos_of_mem hx;simp only[List.length_cons];omega
theorem ke6 {lt:ByteArray→ByteArray→Bool} (h:eK lt) (a:List Int×Stx):(bX ([],(cG lt a).2)).length=(bX a).length+(cG lt a).1.length:=by
 have f1:=wQ [] (cG lt a).2;have f2:=wQ (cG lt a).1 (cG lt a).2;have f3:bX ((cG lt a).1,(cG lt a).2)=bX a:=jh7 h a;rw[f3]at f2;have hu:iS (cG lt a).1.reverse:=zL _;have n1:=zk7 f1.2;have n2:=zk7 f2.2;have n3:=zk7 hu;have key:∀m,m∈bX ([],(cG lt a).2)↔m∈bX a∨m∈(cG lt a).1:=fun m=>by
  rw[f1.1,f2.1];constructor
  ·rintro⟨g,_⟩;by_cases e:m∈(cG lt a).1
   ·exact .inr e
   ·exact .inl ⟨g,e⟩
  ·rintro(⟨g,_⟩|g)
   ·exact⟨g,by simp⟩
   ·exact⟨ke5 a m g,by simp⟩
 have n4:((bX a).reverse++(cG lt a).1.reverse).Nodup:=List.nodup_append.2 ⟨n2,n3,fun x hx y hy e=>by
  subst e;exact((f2.1 x).1 (ky6.1 hx)).2 (ky6.1 hy)⟩
 have l1:=zN7 (r:=(bX a).reverse++(cG lt a).1.reverse) n1 fun m hm=>by
  have:=(key m).1 (ky6.1 hm);simpa using this
 have l2:=zN7 (r:=(bX ([],(cG lt a).2)).reverse) n4 fun m hm=>by
  have:=(key m).2 (by simpa using hm);simpa using this
 simp only[kq3,List.length_reverse]at l1 l2;omega
end Go.Vt.Tryz
