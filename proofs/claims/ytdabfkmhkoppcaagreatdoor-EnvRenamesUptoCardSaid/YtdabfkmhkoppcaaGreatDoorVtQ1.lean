import Derived.Test.YtdabfkmhkoppcaaGreatDoorVtD13
set_option linter.all false
set_option maxHeartbeats 4000000
set_option maxRecDepth 100000
open Int renaming natCast_nonneg→kd8,toNat_natCast→kd9
open List renaming cons_append→kg6,getElem?_map→ke6,length_map→ke9,map_cons→ke5,map_nil→ke8,mem_of_getElem?→kd7,nil_append→kh0
open Nat renaming lt_or_ge→kf3,not_lt_zero→kj6,zero_le→kg1
open Go.Proofs.Tryz renaming prog→kd5
open Go.Vt.aA renaming funs→ke2,sigs→ke4,subs→ke3
open Go.Vt.aG renaming encs→kf0
open Go.Vt renaming mkV→J1
open Nat renaming reduceBEq→J2,reduceLeDiff→J5,reduceAdd→J6
namespace Go.Vt.Tryz
open Go.Proofs
theorem zZ7 (l l':List Int) (hl:l.length<1000000000):VC kd5 66 [.one (.d (.sl (nums l))),.one (.d (.sl (nums l')))] [] fun r h'=>r = .one (.d (.bool (eqB l l')))∧h'=[]:=by
 refine aS aR zV5 (by simp) ?_;show vwp kd5 0 xP _ [(0,.one (.d (.sl (nums l)))),(1,.one (.d (.sl (nums l'))))] [];conv in xP=>cbv
 rw[aO];by_cases hn:l.length=l'.length
 case neg=>
  have hc:((l.length:Int)=(l'.length:Int))=False:=by simp;omega
  simp -implicitDefEqProofs only[oS.d,J2,↓reduceIte,bW,hc];apply aI [];rfl;rfl;exact⟨by rw[cD fun e:l=l'=>hn (congrArg List.length e)],rfl⟩
 have hc:((l.length:Int)=(l'.length:Int))=True:=by simp[hn]
 simp -implicitDefEqProofs only[oS.d,J2,↓reduceIte,bW,hc];refine bC (α:=Nat) (fun i=>[(5,.one (.d (.int .i64 i))),(0,.one (.d (.sl (nums l)))),(1,.one (.d (.sl (nums l'))))]) (fun _=>[]) (fun i=>i≤l.length∧∀j,j<i→l[j]?=l'[j]?) (fun i=>l.length-i) 0 (aL [] rfl rfl rfl rfl) ⟨kg1 _,fun j h=>absurd h (kj6 _)⟩ ?_;rintro i ⟨hi,he⟩;have hw:=bJ (a:=i) rfl (by omega);rcases kf3 i l.length with h5|h5
 ·have hc1:((i:Int)<(l.length:Int))=True:=by simp;omega
  have hc2:((i:Int)<(l'.length:Int))=True:=by simp;omega
  have hc3:i<l'.length:=by omega
  obtain⟨u,hu⟩:=bA h5;obtain⟨v,hv⟩:=bA (l:=l') (i:=i) (by omega);have gu:=eL hu;have gv:=eL hv;by_cases e:u=v
  ·have e1:(u=v)=True:=by simp[e]
   simp -implicitDefEqProofs only[oS.d,J1,J2,↓reduceIte,reduceCtorEq,hc1,gu,gv,bW,e1,hw,kd8,kd9];refine⟨i+1,⟨by omega,iZ he hu hv e⟩,by omega,?_⟩;exact(aL [] rfl rfl rfl rfl)
  ·have e1:(u=v)=False:=by simp[e]
   simp -implicitDefEqProofs only[oS.d,J1,J2,↓reduceIte,reduceCtorEq,hc1,gu,gv,bW,e1,kd8,kd9];apply aI [];rfl;rfl;exact⟨by rw[cD (eV hu hv e)],rfl⟩
 ·have hc1:((i:Int)<(l.length:Int))=False:=by simp;omega
  simp -implicitDefEqProofs only[oS.d,J2,↓reduceIte,hc1,bW];apply aI [];rfl;rfl;exact⟨by rw[gH (jA hn fun j hj=>he j (by omega))],rfl⟩
theorem zB4 (m n:Int):VC kd5 119 [.one (.d (.int .i64 m)),.one (.d (.int .i64 n))] [] fun r h'=>∃c:Int,r = .one (.d (.int .i64 c))∧(c=0↔m=n)∧h'=[]:=by
 refine aS aR zW3 (by simp) ?_;show vwp kd5 0 xS _ [(0,.one (.d (.int .i64 m))),(1,.one (.d (.int .i64 n)))] [];conv in xS=>cbv
 rw[aO];rcases Int.lt_trichotomy m n with h|h|h
 ·have h1:(m<n)=True:=by simp[h]
  simp -implicitDefEqProofs only[oS.d,J2,↓reduceIte,reduceCtorEq,h1];apply aI [];rfl;rfl;exact⟨-1,rfl,by omega,rfl⟩
 ·have h1:(m<n)=False:=by simp;omega
  have h2:(n<m)=False:=by simp;omega
  simp -implicitDefEqProofs only[oS.d,J2,↓reduceIte,h1,h2];apply aI [];rfl;rfl;exact⟨0,rfl,by omega,rfl⟩
 ·have h1:(m<n)=False:=by simp;omega
  have h2:(n<m)=True:=by simp[h]
  simp -implicitDefEqProofs only[oS.d,J2,↓reduceIte,reduceCtorEq,h1,h2];apply aI [];rfl;rfl;exact⟨1,rfl,by omega,rfl⟩
theorem jO3:∀(t t':Ty),tyn t<100000000→VC kd5 61 [tyV t,tyV t'] [] fun r h'=>∃c:Int,r = .one (.d (.int .i64 c))∧(c=0↔t=t')∧h'=[]:=by
 intro t;induction t using Ty.ind with
 |h k n l ih=>
 rintro⟨k',n',l'⟩ h1;simp only[tyn]at h1;have m1:=uM l;simp only[tyV,aG,ke5,ke8];refine aS aR zV3 (by simp) ?_;show vwp kd5 0 xN _ [(0,.agg [.d (.int .i64 k),.d (.int .i64 n),.d (.sl (kf0 l))]),(1,.agg [.d (.int .i64 k'),.d (.int .i64 n'),.d (.sl (kf0 l'))])] [];conv in xN=>cbv
 rw[aO];simp -implicitDefEqProofs only[oS.d,J1,J2,J5,J6,↓reduceIte,reduceCtorEq];refine bI [] (zB4 k k') rfl rfl rfl ?_;rintro _ _ ⟨c1,rfl,g1,rfl⟩;refine⟨_,_,rfl,?_⟩;by_cases e1:c1=0
 case neg=>
  have f1:(c1=0)=False:=by simp[e1]
  simp -implicitDefEqProofs only[oS.d,J1,J2,J5,J6,↓reduceIte,reduceCtorEq,f1];apply aI [];rfl;rfl;exact⟨c1,rfl,⟨fun h=>absurd h e1,fun h=>absurd (g1.2 (by injection h)) e1⟩,rfl⟩
 subst e1;simp -implicitDefEqProofs only[oS.d,J1,J2,J5,J6,↓reduceIte,reduceCtorEq];refine bI [] (zB4 n n') rfl rfl rfl ?_;rintro _ _ ⟨c2,rfl,g2,rfl⟩;refine⟨_,_,rfl,?_⟩;by_cases e2:c2=0
 case neg=>
  have f2:(c2=0)=False:=by simp[e2]
  simp -implicitDefEqProofs only[oS.d,J1,J2,J5,J6,↓reduceIte,reduceCtorEq,f2,dA];apply aI [];rfl;rfl;exact⟨c2,rfl,⟨fun h=>absurd h e2,fun h=>absurd (g2.2 (by injection h)) e2⟩,rfl⟩
 subst e2;simp -implicitDefEqProofs only[oS.d,J1,J2,J5,J6,↓reduceIte,reduceCtorEq,dA];refine bI [] (zB4 l.length l'.length) rfl rfl rfl ?_;rintro _ _ ⟨c3,rfl,g3,rfl⟩;refine⟨_,_,rfl,?_⟩;by_cases e3:c3=0
 case neg=>
  have f3:(c3=0)=False:=by simp[e3]
  simp -implicitDefEqProofs only[oS.d,J2,↓reduceIte,f3];apply aI [];rfl;rfl;exact⟨c3,rfl,⟨fun h=>absurd h e3,fun h=>absurd (g3.2 (by injection h with _ _ h;rw[h])) e3⟩,rfl⟩
 subst e3;have hn:l.length=l'.length:=by have:=g3.1 rfl;omega
 have hk:=g1.1 rfl;have hnn:=g2.1 rfl;simp -implicitDefEqProofs only[oS.d,J2,↓reduceIte];refine bC (α:=Nat) (fun i=>[(8,.one (.d (.int .i64 i))),(3,.one (.ptr 1 0)),(2,.one (.ptr 0 0))])
  (fun _=>[.box [.d (.int .i64 k),.d (.int .i64 n),.d (.sl (kf0 l))],.box [.d (.int .i64 k'),.d (.int .i64 n'),.d (.sl (kf0 l'))]])
  (fun i=>i≤l.length∧∀j,j<i→l[j]?=l'[j]?) (fun i=>l.length-i) 0 (aL [0,1] rfl rfl rfl rfl) ⟨kg1 _,fun j h=>absurd h (kj6 _)⟩ ?_
 rintro i ⟨hi,he⟩;have hw:=bJ (a:=i) rfl (by omega);rcases kf3 i l.length with h5|h5
 ·have hc1:((i:Int)<(l.length:Int))=True:=by simp;omega
  have hc2:((i:Int)<(l'.length:Int))=True:=by simp;omega
  have hc3:i<l'.length:=by omega
  obtain⟨u,hu⟩:=bA h5;obtain⟨v,hv⟩:=bA hc3;have gu:(kf0 l)[i]?=some (aG u):=by rw[dN,ke6,hu];rfl
  have gv:(kf0 l')[i]?=some (aG v):=by rw[dN,ke6,hv];rfl
  have t1:=ih u (kd7 hu) v (by have:=uL (kd7 hu);omega);have hN:=eV hu hv;have hY:=iZ he hu hv;clear hu hv;obtain⟨uk,un,ul⟩:=u;obtain⟨vk,vn,vl⟩:=v;simp only[tyV,aG,ke5,ke8]at t1 gu gv;simp -implicitDefEqProofs only[oS.d,J1,J2,J5,J6,↓reduceIte,reduceCtorEq,hc1,gu,gv,dA,kd8,kd9];refine bI [] (t1) rfl rfl rfl ?_;rintro _ _ ⟨c,rfl,hc,rfl⟩;refine⟨_,_,rfl,?_⟩;by_cases e:c=0
  ·subst e;simp -implicitDefEqProofs only[oS.d,J2,↓reduceIte,hw];refine⟨i+1,⟨by omega,hY (hc.1 rfl)⟩,by omega,?_⟩;exact(aL [0,1] rfl rfl rfl rfl)
  ·have e1:(c=0)=False:=by simp[e]
   simp -implicitDefEqProofs only[oS.d,J2,↓reduceIte,e1];apply aI [];rfl;rfl;exact⟨c,rfl,⟨fun h=>absurd h e,fun h=>absurd (by injection h) (hN fun g=>e (hc.2 g))⟩,rfl⟩
 ·have hc1:((i:Int)<(l.length:Int))=False:=by simp;omega
  simp -implicitDefEqProofs only[oS.d,J1,J2,J5,J6,↓reduceIte,reduceCtorEq,hc1,dA];apply aI [];rfl;rfl;exact⟨0,rfl,⟨fun _=>by rw[hk,hnn,jA hn fun j hj=>he j (by omega)],fun _=>rfl⟩,rfl⟩
theorem zB5 (t t':Ty) (h1:tyn t<100000000):VC kd5 16 [tyV t,tyV t'] [] fun r h'=>r = .one (.d (.bool (eqB t t')))∧h'=[]:=by
 have t1:=jO3 t t' h1;have hN:t≠t'→eqB t t'=false:=cD;have hY:t=t'→eqB t t'=true:=gH;generalize eqB t t'=B at hN hY ⊢;generalize hP:(t=t')=Q at t1 hY;have hM:¬Q→B=false:=fun h=>hN (by rw[←hP]at h;exact h);clear hP hN;obtain⟨k,n,l⟩:=t;obtain⟨k',n',l'⟩:=t';simp only[tyV,aG,ke5,ke8]at t1 ⊢;refine aS aR zU4 (by simp) ?_;show vwp kd5 0 xJ _ [(0,.agg [.d (.int .i64 k),.d (.int .i64 n),.d (.sl (kf0 l))]),(1,.agg [.d (.int .i64 k'),.d (.int .i64 n'),.d (.sl (kf0 l'))])] [];conv in xJ=>cbv
 rw[aO];simp -implicitDefEqProofs only[oS.d,J1,J2,J6,↓reduceIte];refine bI [] (t1) rfl rfl rfl ?_;rintro _ _ ⟨c,rfl,g,rfl⟩;refine⟨_,_,rfl,?_⟩;by_cases e:c=0
 ·have e1:(c=0)=True:=by simp[e]
  simp -implicitDefEqProofs only[oS.d,J2,↓reduceIte,e1];apply aI [];rfl;rfl;exact⟨by rw[hY (g.1 e)],rfl⟩
 ·have e1:(c=0)=False:=by simp[e]
  simp -implicitDefEqProofs only[oS.d,J2,↓reduceIte,e1];apply aI [];rfl;rfl;exact⟨by rw[hM fun h=>e (g.2 h)],rfl⟩
theorem jO4 (u v:Sc) (h1:tyn u.t<100000000):VC kd5 11 [scV u,scV v] [] fun r h'=>r = .one (.d (.bool (eqB u v)))∧h'=[]:=by
 have n0:u.gens≠v.gens→u≠v:=fun h e=>h (e▸rfl);have n1:u.t≠v.t→u≠v:=fun h e=>h (e▸rfl);have hy:u.gens=v.gens→u.t=v.t→u=v:=by cases u;cases v;simp_all
 have t0:=zB5 u.t v.t h1;generalize hB:eqB u.t v.t=B0 at t0;have n1:=fun h=>n1 (dP (hB.trans h));have hb0:B0=true→u.t=v.t:=fun h=>dO (hB.trans h);clear hB;obtain⟨u0,⟨u1,u2,u3⟩⟩:=u;obtain⟨v0,⟨v1,v2,v3⟩⟩:=v;simp only[aG,gP,tyV,scV,ke5,ke8]at t0 ⊢;refine aS aR zU3 (by simp) ?_;show vwp kd5 0 xI _ [(0,.agg [.d (.int .i64 u0),.d (.int .i64 u1),.d (.int .i64 u2),.d (.sl (kf0 u3))]),(1,.agg [.d (.int .i64 v0),.d (.int .i64 v1),.d (.int .i64 v2),.d (.sl (kf0 v3))])] [];conv in xI=>cbv
 rw[aO];by_cases e0:u0=v0
 case neg=>
  have e0':(u0=v0)=False:=by simp[e0]
  simp -implicitDefEqProofs only[oS.d,J1,J2,J5,J6,↓reduceIte,reduceCtorEq,e0'];apply aI [];rfl;rfl;exact⟨by rw[cD (n0 e0)],rfl⟩
 have e0':(u0=v0)=True:=by simp[e0]
 simp -implicitDefEqProofs only[oS.d,J1,J2,J5,J6,↓reduceIte,reduceCtorEq,e0'];refine aQ [] t0 rfl rfl rfl rfl ?_;cases B0 with
 |false=>
  simp -implicitDefEqProofs only[oS.d,J2];apply aI [];rfl;rfl;exact⟨by rw[cD (n1 rfl)],rfl⟩
 |true=>
  simp -implicitDefEqProofs only[oS.d,J2];apply aI [];rfl;rfl;exact⟨by rw[gH (hy e0 (hb0 rfl))],rfl⟩
theorem jO5 (l l':List Ct) (h1:aT ctn l<100000000):VC kd5 65 [.one (.d (.sl (l.map bD))),.one (.d (.sl (l'.map bD)))] [] fun r h'=>r = .one (.d (.bool (eqB l l')))∧h'=[]:=by
 have hlen:=dV (f:=ctn) (fun c=>by simp[ctn]) l;refine aS aR zV4 (by simp) ?_;show vwp kd5 0 xO _ [(0,.one (.d (.sl (l.map bD)))),(1,.one (.d (.sl (l'.map bD))))] [];conv in xO=>cbv
 rw[aO];by_cases hn:l.length=l'.length
 case neg=>
  have hc:((l.length:Int)=(l'.length:Int))=False:=by simp;omega
  simp -implicitDefEqProofs only[oS.d,J2,↓reduceIte,ke9,hc];apply aI [];rfl;rfl;exact⟨by rw[cD fun e:l=l'=>hn (congrArg List.length e)],rfl⟩
 have hc:((l.length:Int)=(l'.length:Int))=True:=by simp[hn]
 simp -implicitDefEqProofs only[oS.d,J2,↓reduceIte,ke9,hc];refine bC (α:=Nat) (fun i=>[(5,.one (.d (.int .i64 i))),(0,.one (.d (.sl (l.map bD)))),(1,.one (.d (.sl (l'.map bD))))]) (fun _=>[]) (fun i=>i≤l.length∧∀j,j<i→l[j]?=l'[j]?) (fun i=>l.length-i) 0 (aL [] rfl rfl rfl rfl) ⟨kg1 _,fun j h=>absurd h (kj6 _)⟩ ?_;rintro i ⟨hi,he⟩;have hw:=bJ (a:=i) rfl (by omega);rcases kf3 i l.length with h5|h5
 ·have hc1:((i:Int)<(l.length:Int))=True:=by simp;omega
  have hc2:((i:Int)<(l'.length:Int))=True:=by simp;omega
  have hc3:i<l'.length:=by omega
  obtain⟨u,hu⟩:=bA h5;obtain⟨v,hv⟩:=bA hc3;have gu:(l.map bD)[i]?=some (bD u):=by rw[ke6,hu];rfl
  have gv:(l'.map bD)[i]?=some (bD v):=by rw[ke6,hv];rfl
  have hnu:=cY (f:=ctn) (kd7 hu);rw[qP]at hnu;have hN:=eV hu hv;have hY:=iZ he hu hv;clear hu hv;obtain⟨un,ul⟩:=u;obtain⟨vn,vl⟩:=v;have hcl:=dV (f:=tyn) (fun t=>by cases t;simp[tyn]) ul;simp only[bD]at gu gv hnu;by_cases e0:un=vn
  case neg=>
   have e1:(un=vn)=False:=by simp[e0]
   simp -implicitDefEqProofs only[oS.d,J1,J2,J6,↓reduceIte,reduceCtorEq,hc1,gu,gv,e1,ke9,dA,kd8,kd9];apply aI [];rfl;rfl;exact⟨by rw[cD (hN fun h=>e0 (by injection h))],rfl⟩
  have e1:(un=vn)=True:=by simp[e0]
  by_cases hm:ul.length=vl.length
  case neg=>
   have hc4:((ul.length:Int)=(vl.length:Int))=False:=by simp;omega
   simp -implicitDefEqProofs only[oS.d,J1,J2,J6,↓reduceIte,reduceCtorEq,hc1,gu,gv,e1,hc4,ke9,dA,kd8,kd9];apply aI [];rfl;rfl;exact⟨by rw[cD (hN fun h=>hm (by injection h with _ h;rw[h]))],rfl⟩
  have hc4:((ul.length:Int)=(vl.length:Int))=True:=by simp[hm]
  simp -implicitDefEqProofs only[oS.d,J1,J2,J6,↓reduceIte,reduceCtorEq,hc1,gu,gv,e1,hc4,ke9,dA,kd8,kd9];refine bC (α:=Nat) (fun k=>[(6,.one (.d (.int .i64 k))),(5,.one (.d (.int .i64 i))),(0,.one (.d (.sl (l.map bD)))),(1,.one (.d (.sl (l'.map bD))))]) (fun _=>[]) (fun k=>k≤ul.length∧∀j,j<k→ul[j]?=vl[j]?) (fun k=>ul.length-k) 0 (aL [] rfl rfl rfl rfl) ⟨kg1 _,fun j h=>absurd h (kj6 _)⟩ ?_;rintro k ⟨hk,hek⟩;have hwk:=bJ (a:=k) rfl (by omega);rcases kf3 k ul.length with h6|h6
  ·have hd1:((k:Int)<(ul.length:Int))=True:=by simp;omega
   have hd2:((k:Int)<(vl.length:Int))=True:=by simp;omega
   have hd3:k<vl.length:=by omega
   obtain⟨a,ha⟩:=bA h6;obtain⟨b,hb⟩:=bA hd3;have ga:(kf0 ul)[k]?=some (aG a):=by rw[dN,ke6,ha];rfl
   have gb:(kf0 vl)[k]?=some (aG b):=by rw[dN,ke6,hb];rfl
   have t1:=zB5 a b (by have:=cY (f:=tyn) (kd7 ha);omega);have hN2:=eV ha hb;have hY2:=iZ hek ha hb;clear ha hb;generalize hB:eqB a b=B at t1;have hN2:=fun h=>hN2 (dP (hB.trans h));have hY2:=fun h=>hY2 (dO (hB.trans h));clear hB;obtain⟨ak,an,al⟩:=a;obtain⟨bk,bn,bl⟩:=b;simp only[tyV,aG,ke5,ke8]at t1 ga gb;simp -implicitDefEqProofs only[oS.d,J1,J2,J6,↓reduceIte,reduceCtorEq,hd1,gu,gv,ga,gb,dA,kd8,kd9];refine aQ [] t1 rfl rfl rfl rfl ?_;cases B with
   |false=>
    simp -implicitDefEqProofs only[oS.d,J2];apply aI [];rfl;rfl;exact⟨by rw[cD (hN fun h=>hN2 rfl (by injection h))],rfl⟩
   |true=>
    simp -implicitDefEqProofs only[oS.d,J2,↓reduceIte,hwk];refine⟨k+1,⟨by omega,hY2 rfl⟩,by omega,?_⟩;exact(aL [] rfl rfl rfl rfl)
  ·have hd1:((k:Int)<(ul.length:Int))=False:=by simp;omega
   simp -implicitDefEqProofs only[oS.d,J1,J2,J6,↓reduceIte,reduceCtorEq,hd1,gu,hw,dA,kd8,kd9];refine⟨i+1,⟨by omega,hY (by rw[e0,jA hm fun j hj=>hek j (by omega)])⟩,by omega,?_⟩;exact(aL [] rfl rfl rfl rfl)
 ·have hc1:((i:Int)<(l.length:Int))=False:=by simp;omega
  simp -implicitDefEqProofs only[oS.d,J2,↓reduceIte,hc1,ke9];apply aI [];rfl;rfl;exact⟨by rw[gH (jA hn fun j hj=>he j (by omega))],rfl⟩
def StR (x y:Stx):Prop:=VC kd5 20 [stW x,stW y] [] fun r h'=>r = .one (.d (.bool (eqB x y)))∧h'=[]
theorem zB6 (u v:List Int×Stx) (hl:u.1.length<1000000000) (hs:StR u.2 v.2):VC kd5 24 [abW u.1 u.2,abW v.1 v.2] [] fun r h'=>r = .one (.d (.bool (eqB u v)))∧h'=[]:=by
 unfold StR at hs;have n0:u.1≠v.1→u≠v:=fun h e=>h (e▸rfl);have n1:u.2≠v.2→u≠v:=fun h e=>h (e▸rfl);have hy:u.1=v.1→u.2=v.2→u=v:=by cases u;cases v;simp_all
 have t0:=zZ7 u.1 v.1 hl;generalize hB:eqB u.1 v.1=B0 at t0;have n0:=fun h=>n0 (dP (hB.trans h));have hb0:B0=true→u.1=v.1:=fun h=>dO (hB.trans h);clear hB;have t1:=hs;generalize hB:eqB u.2 v.2=B1 at t1;have n1:=fun h=>n1 (dP (hB.trans h));have hb1:B1=true→u.2=v.2:=fun h=>dO (hB.trans h);clear hB;obtain⟨up,⟨u1,u2,u3,u4,u5⟩⟩:=u;obtain⟨vp,⟨v1,v2,v3,v4,v5⟩⟩:=v;simp only[aA,stW,abW,ke5,ke8]at t0 t1 ⊢;refine aS aR zU6 (by simp) ?_;show vwp kd5 0 xL _ [(0,.agg [.d (.sl (nums up)),.d (.sl (u1.map aD)),.d (.sl (u2.map aE)),.d (.sl (ke3 u3)),.d (.sl (ke2 u4)),.d (.sl (ke4 u5))]),(1,.agg [.d (.sl (nums vp)),.d (.sl (v1.map aD)),.d (.sl (v2.map aE)),.d (.sl (ke3 v3)),.d (.sl (ke2 v4)),.d (.sl (ke4 v5))])] [];conv in xL=>cbv
 rw[aO];simp -implicitDefEqProofs only[oS.d,J1,J2,J5,J6,↓reduceIte,reduceCtorEq];refine aQ [] t0 rfl rfl rfl rfl ?_;cases B0 with
 |false=>
  simp -implicitDefEqProofs only[oS.d,J2];apply aI [];rfl;rfl;exact⟨by rw[cD (n0 rfl)],rfl⟩
 |true=>
  simp -implicitDefEqProofs only[oS.d,J1,J2,J5,J6,↓reduceIte,reduceCtorEq];refine aQ [] t1 rfl rfl rfl rfl ?_;cases B1 with
  |false=>
   simp -implicitDefEqProofs only[oS.d,J2];apply aI [];rfl;rfl;exact⟨by rw[cD (n1 rfl)],rfl⟩
  |true=>
   simp -implicitDefEqProofs only[oS.d,J2];apply aI [];rfl;rfl;exact⟨by rw[gH (hy (hb0 rfl) (hb1 rfl))],rfl⟩
theorem jO6 (x1 y1:List Tym) (x2 y2:List Vam) (x3 y3:List (ByteArray×Stx)) (x4 y4:List (ByteArray×FnE)) (x5 y5:List cN) (hs:stn (.mk x1 x2 x3 x4 x5)<90000000) (i3:∀a∈x3,∀b∈y3,StR a.2 b.2) (i4:∀a∈x4,∀b∈y4,StR a.2.2.1 b.2.2.1∧StR a.2.2.2.2 b.2.2.2.2) (i5:∀a∈x5,∀b∈y5,StR a.2.2 b.2.2):StR (.mk x1 x2 x3 x4 x5) (.mk y1 y2 y3 y4 y5):=by
 have hsz:=xZ (x:=.mk x1 x2 x3 x4 x5) (Nat.le_of_lt hs);simp only[Stx.subs,Stx.vals,Stx.types,Stx.funs,Stx.sigs]at hsz;obtain⟨z3,z2,z1,z4,z5⟩:=hsz;simp only[stn]at hs;unfold StR;have l3:=gT x3;have l4:=iN x4;have l5:=iO x5;have r3:=gT y3;have r4:=iN y4;have r5:=iO y5;have d1:x1≠y1→eqB (Stx.mk x1 x2 x3 x4 x5) (Stx.mk y1 y2 y3 y4 y5)=false:=fun h=>cD fun e=>h (by injection e);have d2:x2≠y2→eqB (Stx.mk x1 x2 x3 x4 x5) (Stx.mk y1 y2 y3 y4 y5)=false:=fun h=>cD fun e=>h (by injection e);have d3:x3≠y3→eqB (Stx.mk x1 x2 x3 x4 x5) (Stx.mk y1 y2 y3 y4 y5)=false:=fun h=>cD fun e=>h (by injection e);have d4:x4≠y4→eqB (Stx.mk x1 x2 x3 x4 x5) (Stx.mk y1 y2 y3 y4 y5)=false:=fun h=>cD fun e=>h (by injection e);have d5:x5≠y5→eqB (Stx.mk x1 x2 x3 x4 x5) (Stx.mk y1 y2 y3 y4 y5)=false:=fun h=>cD fun e=>h (by injection e);have dy:x1=y1→x2=y2→x3=y3→x4=y4→x5=y5→eqB (Stx.mk x1 x2 x3 x4 x5) (Stx.mk y1 y2 y3 y4 y5)=true:=by rintro rfl rfl rfl rfl rfl;exact zB2
 generalize eqB (Stx.mk x1 x2 x3 x4 x5) (Stx.mk y1 y2 y3 y4 y5)=Bx at d1 d2 d3 d4 d5 dy ⊢;simp only[stW,aA,ke5,ke8];refine aS aR zU5 (by simp) ?_;show vwp kd5 0 xK _ [(0,.agg [.d (.sl (x1.map aD)),.d (.sl (x2.map aE)),.d (.sl (ke3 x3)),.d (.sl (ke2 x4)),.d (.sl (ke4 x5))]),(1,.agg [.d (.sl (y1.map aD)),.d (.sl (y2.map aE)),.d (.sl (ke3 y3)),.d (.sl (ke2 y4)),.d (.sl (ke4 y5))])] [];conv in xK=>cbv
 rw[aO];by_cases m1:x1.length=y1.length
 case neg=>
  have q1:((x1.length:Int)=(y1.length:Int))=False:=by simp;omega
  simp -implicitDefEqProofs only[oS.d,J1,J2,J5,J6,↓reduceIte,reduceCtorEq,q1,ke9,l3,l4,l5,r3,r4,r5];apply aI [];rfl;rfl;exact⟨by rw[d1 fun e=>m1 (congrArg List.length e)],rfl⟩
 have q1:((x1.length:Int)=(y1.length:Int))=True:=by simp[m1]
 by_cases m2:x2.length=y2.length
 case neg=>
  have q2:((x2.length:Int)=(y2.length:Int))=False:=by simp;omega
  simp -implicitDefEqProofs only[oS.d,J1,J2,J5,J6,↓reduceIte,reduceCtorEq,q1,q2,ke9,l3,l4,l5,r3,r4,r5];apply aI [];rfl;rfl;exact⟨by rw[d2 fun e=>m2 (congrArg List.length e)],rfl⟩
 have q2:((x2.length:Int)=(y2.length:Int))=True:=by simp[m2]
 by_cases m3:x3.length=y3.length
 case neg=>
  have q3:((x3.length:Int)=(y3.length:Int))=False:=by simp;omega
  simp -implicitDefEqProofs only[oS.d,J1,J2,J5,J6,↓reduceIte,reduceCtorEq,q1,q2,q3,ke9,l3,l4,l5,r3,r4,r5];apply aI [];rfl;rfl;exact⟨by rw[d3 fun e=>m3 (congrArg List.length e)],rfl⟩
 have q3:((x3.length:Int)=(y3.length:Int))=True:=by simp[m3]
 by_cases m4:x4.length=y4.length
 case neg=>
  have q4:((x4.length:Int)=(y4.length:Int))=False:=by simp;omega
  simp -implicitDefEqProofs only[oS.d,J1,J2,J5,J6,↓reduceIte,reduceCtorEq,q1,q2,q3,q4,ke9,l3,l4,l5,r3,r4,r5];apply aI [];rfl;rfl;exact⟨by rw[d4 fun e=>m4 (congrArg List.length e)],rfl⟩
 have q4:((x4.length:Int)=(y4.length:Int))=True:=by simp[m4]
 by_cases m5:x5.length=y5.length
 case neg=>
  have q5:((x5.length:Int)=(y5.length:Int))=False:=by simp;omega
  simp -implicitDefEqProofs only[oS.d,J1,J2,J5,J6,↓reduceIte,reduceCtorEq,q1,q2,q3,q4,q5,ke9,l3,l4,l5,r3,r4,r5];apply aI [];rfl;rfl;exact⟨by rw[d5 fun e=>m5 (congrArg List.length e)],rfl⟩
 have q5:((x5.length:Int)=(y5.length:Int))=True:=by simp[m5]
 simp -implicitDefEqProofs only[oS.d,J1,J2,J5,J6,↓reduceIte,reduceCtorEq,q1,q2,q3,q4,q5,ke9,l3,l4,l5,r3,r4,r5];refine bC (α:=Nat) (fun i=>[(5,.one (.d (.int .i64 i))),(3,.one (.ptr 1 0)),(2,.one (.ptr 0 0))]) (fun _=>[.box [.d (.sl (x1.map aD)),.d (.sl (x2.map aE)),.d (.sl (ke3 x3)),.d (.sl (ke2 x4)),.d (.sl (ke4 x5))],.box [.d (.sl (y1.map aD)),.d (.sl (y2.map aE)),.d (.sl (ke3 y3)),.d (.sl (ke2 y4)),.d (.sl (ke4 y5))]]) (fun i=>i≤x1.length∧∀j,j<i→x1[j]?=y1[j]?) (fun i=>x1.length-i) 0 (aL [0,1] rfl rfl rfl rfl) ⟨kg1 _,fun j h=>absurd h (kj6 _)⟩ ?_;rintro i ⟨hi,he⟩;have hw:=bJ (a:=i) rfl (by omega);rcases kf3 i x1.length with h5|h5
 case inl=>
  have hc1:((i:Int)<(x1.length:Int))=True:=by simp;omega
  have hc2:((i:Int)<(y1.length:Int))=True:=by simp;omega
  have hc3:i<y1.length:=by omega
  obtain⟨u,hu⟩:=bA h5;obtain⟨v,hv⟩:=bA hc3;have gu:(x1.map aD)[i]?=some (aD u):=by rw[ke6,hu];rfl
  have gv:(y1.map aD)[i]?=some (aD v):=by rw[ke6,hv];rfl
  have hmm:=kd7 hu;have hmv:=kd7 hv;have hmu:=cY (f:=cJ) hmm;have n0:u.name≠v.name→Bx=false:=fun h=>d1 (eV hu hv fun e=>h (e▸rfl));have n1:u.t≠v.t→Bx=false:=fun h=>d1 (eV hu hv fun e=>h (e▸rfl));have n2:u.cts≠v.cts→Bx=false:=fun h=>d1 (eV hu hv fun e=>h (e▸rfl));have hy0:u.name=v.name→u.t=v.t→u.cts=v.cts→u=v:=by clear n0 n1 n2 hu hv gu gv hmm hmv hmu hc2 hc3;cases u;cases v;simp_all
  have hY:=fun h=>iZ he hu hv h;have t0:=zB5 u.t v.t (by rw[kV]at hmu;omega)
  skip
  generalize hB:eqB u.t v.t=B0 at t0;have n1:=fun h=>n1 (dP (hB.trans h));have hb0:B0=true→u.t=v.t:=fun h=>dO (hB.trans h);clear hB;have t1:=jO5 u.cts v.cts (by rw[kV]at hmu;omega)
  skip
  generalize hB:eqB u.cts v.cts=B1 at t1;have n2:=fun h=>n2 (dP (hB.trans h));have hb1:B1=true→u.cts=v.cts:=fun h=>dO (hB.trans h);clear hB;clear hu hv hmm hmv hmu;obtain⟨un,⟨u1,u2,u3⟩,uc⟩:=u;obtain⟨vn,⟨v1,v2,v3⟩,vc⟩:=v;simp only[aG,aD,tyV,ke5,ke8,kg6,kh0]at t0 t1 gu gv;by_cases e0:un=vn
  case neg=>
   have e1:(un=vn)=False:=by simp[e0]
   simp -implicitDefEqProofs only[oS.d,J1,J2,J5,J6,↓reduceIte,reduceCtorEq,e1,hc1,gu,gv,ke9,kd8,kd9];apply aI [];rfl;rfl;exact⟨by rw[n0 e0],rfl⟩
  have e1:(un=vn)=True:=by simp[e0]
  simp -implicitDefEqProofs only[oS.d,J1,J2,J5,J6,↓reduceIte,reduceCtorEq,e1,hc1,gu,gv,ke9,kd8,kd9];refine aQ [] t0 rfl rfl rfl rfl ?_;cases B0 with
  |false=>
   simp -implicitDefEqProofs only[oS.d,J2];apply aI [];rfl;rfl;exact⟨by rw[n1 rfl],rfl⟩
  |true=>
   simp -implicitDefEqProofs only[oS.d,J1,J2,J5,J6,↓reduceIte,reduceCtorEq,gu,gv,kd8,kd9];refine aQ [] t1 rfl rfl rfl rfl ?_;cases B1 with
   |false=>
    simp -implicitDefEqProofs only[oS.d,J2];apply aI [];rfl;rfl;exact⟨by rw[n2 rfl],rfl⟩
   |true=>
    simp -implicitDefEqProofs only[oS.d,J2,↓reduceIte,hw];refine⟨i+1,⟨by omega,hY (hy0 e0 (hb0 rfl) (hb1 rfl))⟩,by omega,?_⟩;exact(aL [0,1] rfl rfl rfl rfl)
 have hc1:((i:Int)<(x1.length:Int))=False:=by simp;omega
 have E1:x1=y1:=jA m1 fun j hj=>he j (by omega);clear hi he hw h5;simp -implicitDefEqProofs only[oS.d,J1,J2,J5,J6,↓reduceIte,reduceCtorEq,hc1,ke9];clear hc1;refine bC (α:=Nat) (fun i=>[(6,.one (.d (.int .i64 i))),(3,.one (.ptr 1 0)),(2,.one (.ptr 0 0))]) (fun _=>[.box [.d (.sl (x1.map aD)),.d (.sl (x2.map aE)),.d (.sl (ke3 x3)),.d (.sl (ke2 x4)),.d (.sl (ke4 x5))],.box [.d (.sl (y1.map aD)),.d (.sl (y2.map aE)),.d (.sl (ke3 y3)),.d (.sl (ke2 y4)),.d (.sl (ke4 y5))]]) (fun i=>i≤x2.length∧∀j,j<i→x2[j]?=y2[j]?) (fun i=>x2.length-i) 0 (aL [0,1] rfl rfl rfl rfl) ⟨kg1 _,fun j h=>absurd h (kj6 _)⟩ ?_;rintro i ⟨hi,he⟩;have hw:=bJ (a:=i) rfl (by omega);rcases kf3 i x2.length with h5|h5
 case inl=>
  have hc1:((i:Int)<(x2.length:Int))=True:=by simp;omega
  have hc2:((i:Int)<(y2.length:Int))=True:=by simp;omega
  have hc3:i<y2.length:=by omega
  obtain⟨u,hu⟩:=bA h5;obtain⟨v,hv⟩:=bA hc3;have gu:(x2.map aE)[i]?=some (aE u):=by rw[ke6,hu];rfl
  have gv:(y2.map aE)[i]?=some (aE v):=by rw[ke6,hv];rfl
  have hmm:=kd7 hu;have hmv:=kd7 hv;have hmu:=cY (f:=cO) hmm;have n0:u.name≠v.name→Bx=false:=fun h=>d2 (eV hu hv fun e=>h (e▸rfl));have n1:u.s≠v.s→Bx=false:=fun h=>d2 (eV hu hv fun e=>h (e▸rfl));have hy0:u.name=v.name→u.s=v.s→u=v:=by clear n0 n1 hu hv gu gv hmm hmv hmu hc2 hc3;cases u;cases v;simp_all
  have hY:=fun h=>iZ he hu hv h;have t0:=jO4 u.s v.s (by rw[qO]at hmu;omega)
  skip
  generalize hB:eqB u.s v.s=B0 at t0;have n1:=fun h=>n1 (dP (hB.trans h));have hb0:B0=true→u.s=v.s:=fun h=>dO (hB.trans h);clear hB;clear hu hv hmm hmv hmu;obtain⟨un,u0,⟨u1,u2,u3⟩⟩:=u;obtain⟨vn,v0,⟨v1,v2,v3⟩⟩:=v;simp only[aG,aE,gP,scV,ke5,ke8]at t0 gu gv;by_cases e0:un=vn
  case neg=>
   have e1:(un=vn)=False:=by simp[e0]
   simp -implicitDefEqProofs only[oS.d,J1,J2,J5,J6,↓reduceIte,reduceCtorEq,e1,hc1,gu,gv,ke9,kd8,kd9];apply aI [];rfl;rfl;exact⟨by rw[n0 e0],rfl⟩
  have e1:(un=vn)=True:=by simp[e0]
  simp -implicitDefEqProofs only[oS.d,J1,J2,J5,J6,↓reduceIte,reduceCtorEq,e1,hc1,gu,gv,ke9,kd8,kd9];refine aQ [] t0 rfl rfl rfl rfl ?_;cases B0 with
  |false=>
   simp -implicitDefEqProofs only[oS.d,J2];apply aI [];rfl;rfl;exact⟨by rw[n1 rfl],rfl⟩
  |true=>
   simp -implicitDefEqProofs only[oS.d,J2,↓reduceIte,hw];refine⟨i+1,⟨by omega,hY (hy0 e0 (hb0 rfl))⟩,by omega,?_⟩;exact(aL [0,1] rfl rfl rfl rfl)
 have hc1:((i:Int)<(x2.length:Int))=False:=by simp;omega
 have E2:x2=y2:=jA m2 fun j hj=>he j (by omega);clear hi he hw h5;simp -implicitDefEqProofs only[oS.d,J1,J2,J5,J6,↓reduceIte,reduceCtorEq,hc1,ke9];clear hc1;refine bC (α:=Nat) (fun i=>[(7,.one (.d (.int .i64 i))),(3,.one (.ptr 1 0)),(2,.one (.ptr 0 0))]) (fun _=>[.box [.d (.sl (x1.map aD)),.d (.sl (x2.map aE)),.d (.sl (ke3 x3)),.d (.sl (ke2 x4)),.d (.sl (ke4 x5))],.box [.d (.sl (y1.map aD)),.d (.sl (y2.map aE)),.d (.sl (ke3 y3)),.d (.sl (ke2 y4)),.d (.sl (ke4 y5))]]) (fun i=>i≤x3.length∧∀j,j<i→x3[j]?=y3[j]?) (fun i=>x3.length-i) 0 (aL [0,1] rfl rfl rfl rfl) ⟨kg1 _,fun j h=>absurd h (kj6 _)⟩ ?_;rintro i ⟨hi,he⟩;have hw:=bJ (a:=i) rfl (by omega);rcases kf3 i x3.length with h5|h5
 case inl=>
  have hc1:((i:Int)<(x3.length:Int))=True:=by simp;omega
  have hc2:((i:Int)<(y3.length:Int))=True:=by simp;omega
  have hc3:i<y3.length:=by omega
  obtain⟨u,hu⟩:=bA h5;obtain⟨v,hv⟩:=bA hc3;have gu:(ke3 x3)[i]?=some (bX u):=by rw[kI,ke6,hu];rfl
  have gv:(ke3 y3)[i]?=some (bX v):=by rw[kI,ke6,hv];rfl
  have hmm:=kd7 hu;have hmv:=kd7 hv;have n0:u.1≠v.1→Bx=false:=fun h=>d3 (eV hu hv fun e=>h (e▸rfl));have n1:u.2≠v.2→Bx=false:=fun h=>d3 (eV hu hv fun e=>h (e▸rfl));have hy0:u.1=v.1→u.2=v.2→u=v:=by clear n0 n1 hu hv gu gv hmm hmv hc2 hc3;cases u;cases v;simp_all
  have hY:=fun h=>iZ he hu hv h;have t0:=i3 u hmm v hmv;unfold StR at t0;generalize hB:eqB u.2 v.2=B0 at t0;have n1:=fun h=>n1 (dP (hB.trans h));have hb0:B0=true→u.2=v.2:=fun h=>dO (hB.trans h);clear hB;clear hu hv hmm hmv;obtain⟨un,⟨u1,u2,u3,u4,u5⟩⟩:=u;obtain⟨vn,⟨v1,v2,v3,v4,v5⟩⟩:=v;simp only[bX,aA,stW,ke5,ke8]at t0 gu gv;by_cases e0:un=vn
  case neg=>
   have e1:(un=vn)=False:=by simp[e0]
   simp -implicitDefEqProofs only[oS.d,J1,J2,J5,J6,↓reduceIte,reduceCtorEq,e1,hc1,gu,gv,l3,kd8,kd9];apply aI [];rfl;rfl;exact⟨by rw[n0 e0],rfl⟩
  have e1:(un=vn)=True:=by simp[e0]
  simp -implicitDefEqProofs only[oS.d,J1,J2,J5,J6,↓reduceIte,reduceCtorEq,e1,hc1,gu,gv,l3,kd8,kd9];refine aQ [] t0 rfl rfl rfl rfl ?_;cases B0 with
  |false=>
   simp -implicitDefEqProofs only[oS.d,J2];apply aI [];rfl;rfl;exact⟨by rw[n1 rfl],rfl⟩
  |true=>
   simp -implicitDefEqProofs only[oS.d,J2,↓reduceIte,hw];refine⟨i+1,⟨by omega,hY (hy0 e0 (hb0 rfl))⟩,by omega,?_⟩;exact(aL [0,1] rfl rfl rfl rfl)
 have hc1:((i:Int)<(x3.length:Int))=False:=by simp;omega
 have E3:x3=y3:=jA m3 fun j hj=>he j (by omega);clear hi he hw h5;simp -implicitDefEqProofs only[oS.d,J1,J2,J5,J6,↓reduceIte,reduceCtorEq,hc1,l3];clear hc1;refine bC (α:=Nat) (fun i=>[(8,.one (.d (.int .i64 i))),(3,.one (.ptr 1 0)),(2,.one (.ptr 0 0))]) (fun _=>[.box [.d (.sl (x1.map aD)),.d (.sl (x2.map aE)),.d (.sl (ke3 x3)),.d (.sl (ke2 x4)),.d (.sl (ke4 x5))],.box [.d (.sl (y1.map aD)),.d (.sl (y2.map aE)),.d (.sl (ke3 y3)),.d (.sl (ke2 y4)),.d (.sl (ke4 y5))]]) (fun i=>i≤x4.length∧∀j,j<i→x4[j]?=y4[j]?) (fun i=>x4.length-i) 0 (aL [0,1] rfl rfl rfl rfl) ⟨kg1 _,fun j h=>absurd h (kj6 _)⟩ ?_;rintro i ⟨hi,he⟩;have hw:=bJ (a:=i) rfl (by omega);rcases kf3 i x4.length with h5|h5
 case inl=>
  have hc1:((i:Int)<(x4.length:Int))=True:=by simp;omega
  have hc2:((i:Int)<(y4.length:Int))=True:=by simp;omega
  have hc3:i<y4.length:=by omega
  obtain⟨u,hu⟩:=bA h5;obtain⟨v,hv⟩:=bA hc3;have gu:(ke2 x4)[i]?=some (bT u):=by rw[iL,ke6,hu];rfl
  have gv:(ke2 y4)[i]?=some (bT v):=by rw[iL,ke6,hv];rfl
  have hmm:=kd7 hu;have hmv:=kd7 hv;have hmu:=iX hmm;have n0:u.1≠v.1→Bx=false:=fun h=>d4 (eV hu hv fun e=>h (e▸rfl));have n1:u.2.1≠v.2.1→Bx=false:=fun h=>d4 (eV hu hv fun e=>h (e▸rfl));have n2:u.2.2.1≠v.2.2.1→Bx=false:=fun h=>d4 (eV hu hv fun e=>h (e▸rfl));have n3:u.2.2.2≠v.2.2.2→Bx=false:=fun h=>d4 (eV hu hv fun e=>h (e▸rfl));have hy0:u.1=v.1→u.2.1=v.2.1→u.2.2.1=v.2.2.1→u.2.2.2=v.2.2.2→u=v:=by clear n0 n1 n2 n3 hu hv gu gv hmm hmv hmu hc2 hc3;obtain⟨a,b,c,d⟩:=u;obtain⟨a2,b2,c2,d2⟩:=v;intros;simp_all
  have hY:=fun h=>iZ he hu hv h;have t0:=zZ7 u.2.1 v.2.1 (by omega)
  skip
  generalize hB:eqB u.2.1 v.2.1=B0 at t0;have n1:=fun h=>n1 (dP (hB.trans h));have hb0:B0=true→u.2.1=v.2.1:=fun h=>dO (hB.trans h);clear hB;have t1:=(i4 u hmm v hmv).1;unfold StR at t1;generalize hB:eqB u.2.2.1 v.2.2.1=B1 at t1;have n2:=fun h=>n2 (dP (hB.trans h));have hb1:B1=true→u.2.2.1=v.2.2.1:=fun h=>dO (hB.trans h);clear hB;have t2:=zB6 u.2.2.2 v.2.2.2 (by omega) (i4 u hmm v hmv).2
  skip
  generalize hB:eqB u.2.2.2 v.2.2.2=B2 at t2;have n3:=fun h=>n3 (dP (hB.trans h));have hb2:B2=true→u.2.2.2=v.2.2.2:=fun h=>dO (hB.trans h);clear hB;clear hu hv hmm hmv hmu;obtain⟨un,up,⟨u1,u2,u3,u4,u5⟩,uq,⟨ua,ub,uc,ud,ue⟩⟩:=u;obtain⟨vn,vp,⟨v1,v2,v3,v4,v5⟩,vq,⟨va,vb,vc,vd,ve⟩⟩:=v;simp only[bT,eU,aA,stW,abW,ke5,ke8,kg6,kh0]at t0 t1 t2 gu gv;by_cases e0:un=vn
  case neg=>
   have e1:(un=vn)=False:=by simp[e0]
   simp -implicitDefEqProofs only[oS.d,J1,J2,J5,J6,↓reduceIte,reduceCtorEq,e1,hc1,gu,gv,l4,kd8,kd9];apply aI [];rfl;rfl;exact⟨by rw[n0 e0],rfl⟩
  have e1:(un=vn)=True:=by simp[e0]
  simp -implicitDefEqProofs only[oS.d,J1,J2,J5,J6,↓reduceIte,reduceCtorEq,e1,hc1,gu,gv,l4,kd8,kd9];refine aQ [] t0 rfl rfl rfl rfl ?_;cases B0 with
  |false=>
   simp -implicitDefEqProofs only[oS.d,J2];apply aI [];rfl;rfl;exact⟨by rw[n1 rfl],rfl⟩
  |true=>
   simp -implicitDefEqProofs only[oS.d,J1,J2,J5,J6,↓reduceIte,reduceCtorEq];refine aQ [] t1 rfl rfl rfl rfl ?_;cases B1 with
   |false=>
    simp -implicitDefEqProofs only[oS.d,J2];apply aI [];rfl;rfl;exact⟨by rw[n2 rfl],rfl⟩
   |true=>
    simp -implicitDefEqProofs only[oS.d,J1,J2,J5,J6,↓reduceIte,reduceCtorEq];refine aQ [] t2 rfl rfl rfl rfl ?_;cases B2 with
    |false=>
     simp -implicitDefEqProofs only[oS.d,J2];apply aI [];rfl;rfl;exact⟨by rw[n3 rfl],rfl⟩
    |true=>
     simp -implicitDefEqProofs only[oS.d,J2,↓reduceIte,hw];refine⟨i+1,⟨by omega,hY (hy0 e0 (hb0 rfl) (hb1 rfl) (hb2 rfl))⟩,by omega,?_⟩;exact(aL [0,1] rfl rfl rfl rfl)
 have hc1:((i:Int)<(x4.length:Int))=False:=by simp;omega
 have E4:x4=y4:=jA m4 fun j hj=>he j (by omega);clear hi he hw h5;simp -implicitDefEqProofs only[oS.d,J1,J2,J5,J6,↓reduceIte,reduceCtorEq,hc1,l4];clear hc1;refine bC (α:=Nat) (fun i=>[(11,.one (.d (.int .i64 i))),(3,.one (.ptr 1 0)),(2,.one (.ptr 0 0))]) (fun _=>[.box [.d (.sl (x1.map aD)),.d (.sl (x2.map aE)),.d (.sl (ke3 x3)),.d (.sl (ke2 x4)),.d (.sl (ke4 x5))],.box [.d (.sl (y1.map aD)),.d (.sl (y2.map aE)),.d (.sl (ke3 y3)),.d (.sl (ke2 y4)),.d (.sl (ke4 y5))]]) (fun i=>i≤x5.length∧∀j,j<i→x5[j]?=y5[j]?) (fun i=>x5.length-i) 0 (aL [0,1] rfl rfl rfl rfl) ⟨kg1 _,fun j h=>absurd h (kj6 _)⟩ ?_;rintro i ⟨hi,he⟩;have hw:=bJ (a:=i) rfl (by omega);rcases kf3 i x5.length with h5|h5
 case inl=>
  have hc1:((i:Int)<(x5.length:Int))=True:=by simp;omega
  have hc2:((i:Int)<(y5.length:Int))=True:=by simp;omega
  have hc3:i<y5.length:=by omega
  obtain⟨u,hu⟩:=bA h5;obtain⟨v,hv⟩:=bA hc3;have gu:(ke4 x5)[i]?=some (cA u):=by rw[iM,ke6,hu];rfl
  have gv:(ke4 y5)[i]?=some (cA v):=by rw[iM,ke6,hv];rfl
  have hmm:=kd7 hu;have hmv:=kd7 hv;have hmu:=nF hmm;have n0:u.1≠v.1→Bx=false:=fun h=>d5 (eV hu hv fun e=>h (e▸rfl));have n1:u.2≠v.2→Bx=false:=fun h=>d5 (eV hu hv fun e=>h (e▸rfl));have hy0:u.1=v.1→u.2=v.2→u=v:=by clear n0 n1 hu hv gu gv hmm hmv hmu hc2 hc3;cases u;cases v;simp_all
  have hY:=fun h=>iZ he hu hv h;have t0:=zB6 u.2 v.2 (by show u.2.1.length<_;omega) (i5 u hmm v hmv)
  skip
  generalize hB:eqB u.2 v.2=B0 at t0;have n1:=fun h=>n1 (dP (hB.trans h));have hb0:B0=true→u.2=v.2:=fun h=>dO (hB.trans h);clear hB;clear hu hv hmm hmv hmu;obtain⟨un,up,⟨u1,u2,u3,u4,u5⟩⟩:=u;obtain⟨vn,vp,⟨v1,v2,v3,v4,v5⟩⟩:=v;simp only[cA,aA,abW,ke5,ke8]at t0 gu gv;by_cases e0:un=vn
  case neg=>
   have e1:(un=vn)=False:=by simp[e0]
   simp -implicitDefEqProofs only[oS.d,J1,J2,J5,J6,↓reduceIte,reduceCtorEq,e1,hc1,gu,gv,l5,kd8,kd9];apply aI [];rfl;rfl;exact⟨by rw[n0 e0],rfl⟩
  have e1:(un=vn)=True:=by simp[e0]
  simp -implicitDefEqProofs only[oS.d,J1,J2,J5,J6,↓reduceIte,reduceCtorEq,e1,hc1,gu,gv,l5,kd8,kd9];refine aQ [] t0 rfl rfl rfl rfl ?_;cases B0 with
  |false=>
   simp -implicitDefEqProofs only[oS.d,J2];apply aI [];rfl;rfl;exact⟨by rw[n1 rfl],rfl⟩
  |true=>
   simp -implicitDefEqProofs only[oS.d,J2,↓reduceIte,hw];refine⟨i+1,⟨by omega,hY (hy0 e0 (hb0 rfl))⟩,by omega,?_⟩;exact(aL [0,1] rfl rfl rfl rfl)
 have hc1:((i:Int)<(x5.length:Int))=False:=by simp;omega
 have E5:x5=y5:=jA m5 fun j hj=>he j (by omega);clear hi he hw h5;simp -implicitDefEqProofs only[oS.d,J1,J2,J5,J6,↓reduceIte,reduceCtorEq,hc1,l5];clear hc1;apply aI [];rfl;rfl;exact⟨by rw[dy E1 E2 E3 E4 E5],rfl⟩
theorem jO7:∀u v:Stx,stn u<90000000→StR u v:=by
 intro u;induction u using Stx.ind with
 |h x1 x2 x3 x4 x5 i3 i4 i5=>
 intro v h1;have g1:=h1;simp only[stn]at g1;obtain⟨y1,y2,y3,y4,y5⟩:=v;exact jO6 _ _ _ _ _ _ _ _ _ _ h1 (fun a ha b hb=>i3 a ha b.2 (by have:=pH (l:=x3) ha;omega))
  (fun a ha b hb=>⟨(i4 a ha).1 _ (by have:=iX (l:=x4) ha;omega),(i4 a ha).2 _ (by have:=iX (l:=x4) ha;omega)⟩)
  (fun a ha b hb=>i5 a ha _ (by have:=nF (l:=x5) ha;omega))
end Go.Vt.Tryz
