import Derived.Test.YtdabfkmhkoppcaaGreatDoorVtD13
set_option linter.all false
set_option maxRecDepth 100000
open Int renaming natCast_nonneg→kd8,toNat_natCast→kd9
open List renaming cons_append→kg6,getElem?_map→ke6,length_map→ke9,map_cons→ke5,map_nil→ke8,mem_of_getElem?→kd7,nil_append→kh0
open Nat renaming lt_or_ge→kf3,not_lt_zero→kj6,zero_le→kg1
open Go.Proofs.Tryz renaming prog→kd5
open Go.Vt.aA renaming funs→ke2,sigs→ke4,subs→ke3
open Go.Vt.aG renaming encs→kf0
open Go.Vt renaming mkV→J1
open Nat renaming reduceBEq→J2,reduceLeDiff→J5,reduceAdd→J6,reduceMul→J7
namespace Go.Vt.Tryz
open Go.Proofs
theorem zZ8 (l l':List Int) (hl:l.length<1000000000):VC kd5 154 [.one (.d (.sl (nums l))),.one (.d (.sl (nums l')))] [] fun r h'=>r = .one (.d (.bool (eqB l l')))∧h'=[]:=by
 refine aS aR jE0 (by simp) ?_;show vwp kd5 0 zu6 _ [(0,.one (.d (.sl (nums l)))),(1,.one (.d (.sl (nums l'))))] [];conv in zu6=>cbv
 rw[aO];by_cases hn:l.length=l'.length
 case neg=>
  have hc:((l.length:Int)=(l'.length:Int))=False:=by simp;omega
  simp -implicitDefEqProofs only[oS.d,J2,↓reduceIte,bW,hc];apply aI [];rfl;rfl;exact⟨by rw[cD fun e:l=l'=>hn (congrArg List.length e)],rfl⟩
 have hc:((l.length:Int)=(l'.length:Int))=True:=by simp[hn]
 simp -implicitDefEqProofs only[oS.d,J2,↓reduceIte,bW,hc];refine bC (α:=Nat) (fun i=>[(13,.one (.d (.int .i64 i))),(12,.one (.d (.int .i64 l.length))),(0,.one (.d (.sl (nums l)))),(1,.one (.d (.sl (nums l'))))]) (fun _=>[]) (fun i=>i≤l.length∧∀j,j<i→l[j]?=l'[j]?) (fun i=>l.length-i) 0 (aL [] rfl rfl rfl rfl) ⟨kg1 _,fun j h=>absurd h (kj6 _)⟩ ?_;rintro i ⟨hi,he⟩;have hw:=bJ (a:=i) rfl (by omega);rcases kf3 i l.length with h5|h5
 ·have hc1:((i:Int)<(l.length:Int))=True:=by simp;omega
  have hc2:((i:Int)<(l'.length:Int))=True:=by simp;omega
  have hc3:i<l'.length:=by omega
  obtain⟨u,hu⟩:=bA h5;obtain⟨v,hv⟩:=bA (l:=l') (i:=i) (by omega);have gu:=eL hu;have gv:=eL hv;by_cases e:u=v
  ·have e1:(u=v)=True:=by simp[e]
   simp -implicitDefEqProofs only[oS.d,J1,J2,↓reduceIte,reduceCtorEq,hc1,gu,gv,e1,hw,kd8,kd9];refine⟨i+1,⟨by omega,iZ he hu hv e⟩,by omega,?_⟩;exact(aL [] rfl rfl rfl rfl)
  ·have e1:(u=v)=False:=by simp[e]
   simp -implicitDefEqProofs only[oS.d,J1,J2,↓reduceIte,reduceCtorEq,hc1,gu,gv,e1,kd8,kd9];apply aI [];rfl;rfl;exact⟨by rw[cD (eV hu hv e)],rfl⟩
 ·have hc1:((i:Int)<(l.length:Int))=False:=by simp;omega
  simp -implicitDefEqProofs only[oS.d,J2,↓reduceIte,hc1];apply aI [];rfl;rfl;exact⟨by rw[gH (jA hn fun j hj=>he j (by omega))],rfl⟩
noncomputable def zB7:aC:=aP [] (aX Tryz.f299)
theorem jO8:aK kd5 299 6 zB7 [.tmp 2]:=⟨Tryz.f299,_,[],Tryz.func299,rfl,rfl,rfl,by kernel_rfl,by kernel_rfl,by kernel_rfl⟩
theorem zZ9 (n:Int):VC kd5 299 [.one (.d (.int .i64 n))] [] fun r h'=>r = .one (.d (.bool false))∧h'=[]:=by
 refine aS aR jO8 (by simp) ?_;show vwp kd5 0 zB7 _ [(0,.one (.d (.int .i64 n)))] [];conv in zB7=>cbv
 rw[aO];simp -implicitDefEqProofs only[oS.d,J2,↓reduceIte];apply aI [];rfl;rfl;exact⟨rfl,rfl⟩
theorem zB8 (m n:Int):VC kd5 285 [.one (.d (.int .i64 m)),.one (.d (.int .i64 n))] [] fun r h'=>∃c:Int,r = .one (.d (.int .i64 c))∧(c=0↔m=n)∧h'=[]:=by
 refine aS aR jJ3 (by simp) ?_;show vwp kd5 0 zz8 _ [(0,.one (.d (.int .i64 m))),(1,.one (.d (.int .i64 n)))] [];conv in zz8=>cbv
 rw[aO];simp -implicitDefEqProofs only[oS.d,J2];refine aQ [] (zZ9 m) rfl rfl rfl rfl ?_;simp -implicitDefEqProofs only[oS.d,J2];refine aQ [] (zZ9 n) rfl rfl rfl rfl ?_;rcases Int.lt_trichotomy m n with h|h|h
 ·have h1:(m<n)=True:=by simp[h]
  simp -implicitDefEqProofs only[oS.d,J2,↓reduceIte,reduceCtorEq,h1];apply aI [];rfl;rfl;exact⟨-1,rfl,by omega,rfl⟩
 ·have h1:(m<n)=False:=by simp;omega
  have h2:(n<m)=False:=by simp;omega
  simp -implicitDefEqProofs only[oS.d,J2,↓reduceIte,h1,h2];apply aI [];rfl;rfl;exact⟨0,rfl,by omega,rfl⟩
 ·have h1:(m<n)=False:=by simp;omega
  have h2:(n<m)=True:=by simp[h]
  simp -implicitDefEqProofs only[oS.d,J2,↓reduceIte,reduceCtorEq,h1,h2];apply aI [];rfl;rfl;exact⟨1,rfl,by omega,rfl⟩
theorem jO9 (l:List Int) (hl:l.length<1000000000):VC kd5 284 [.one (.d (.sl (nums l)))] [] fun r h'=>∃c:Int,r = .one (.d (.int .i64 c))∧(c=0↔∀x∈l,x=0)∧h'=[]:=by
 refine aS aR jJ2 (by simp) ?_;show vwp kd5 0 zz7 _ [(0,.one (.d (.sl (nums l))))] [];conv in zz7=>cbv
 rw[aO];simp -implicitDefEqProofs only[oS.d,J2,↓reduceIte,bW];refine bC (α:=Nat) (fun i=>[(8,.one (.d (.int .i64 i))),(7,.one (.d (.int .i64 l.length))),(6,.one (.d (.sl (nums l)))),(3,.one (.d (.int .i64 0)))]) (fun _=>[]) (fun i=>i≤l.length∧∀x∈l.take i,x=0) (fun i=>l.length-i) 0 (aL [] rfl rfl rfl rfl) ⟨kg1 _,by simp⟩ ?_;rintro i ⟨hi,he⟩;have hw:=bJ (a:=i) rfl (by omega);rcases kf3 i l.length with h5|h5
 ·have hc1:((i:Int)<(l.length:Int))=True:=by simp;omega
  obtain⟨u,hu⟩:=bA h5;have gu:=eL hu;by_cases e:u=0
  ·subst e;simp -implicitDefEqProofs only[oS.d,J1,J2,↓reduceIte,reduceCtorEq,hc1,gu,hw,kd8,kd9];refine⟨i+1,⟨by omega,?_⟩,by omega,?_⟩
   ·rw[List.take_add_one,hu];intro x hx;rcases List.mem_append.1 hx with hx|hx
    ·exact he x hx
    ·simpa using hx
   ·exact(aL [] rfl rfl rfl rfl)
  ·have e1:(u=0)=False:=by simp[e]
   simp -implicitDefEqProofs only[oS.d,J1,J2,↓reduceIte,reduceCtorEq,hc1,gu,e1,kd8,kd9];apply aI [];rfl;rfl;exact⟨u,rfl,⟨fun h=>absurd h e,fun h=>h u (kd7 hu)⟩,rfl⟩
 ·have hc1:((i:Int)<(l.length:Int))=False:=by simp;omega
  rw[List.take_of_length_le h5]at he;simp -implicitDefEqProofs only[oS.d,J2,↓reduceIte,hc1];apply aI [];rfl;rfl;exact⟨0,rfl,⟨fun _=>he,fun _=>rfl⟩,rfl⟩
theorem jP0 (l l':List Ty) (hl:l.length<1000000000) (hl':l'.length<1000000000) (hg:∀u∈l,∀v∈l',VC kd5 256 [tyV u,tyV v] [] fun r h'=>∃c:Int,r = .one (.d (.int .i64 c))∧(c=0↔u=v)∧h'=[]) :
  VC kd5 286 [.one (.d (.sl (kf0 l))),.one (.d (.sl (kf0 l'))),.one (.fn 256 [])] [] fun r h'=>∃c:Int,r = .one (.d (.int .i64 c))∧(c=0↔l=l')∧h'=[]:=by
 refine aS aR jJ4 (by simp) ?_;show vwp kd5 0 zz9 _ [(0,.one (.d (.sl (kf0 l)))),(1,.one (.d (.sl (kf0 l')))),(2,.one (.fn 256 []))] [];conv in zz9=>cbv
 rw[aO];simp -implicitDefEqProofs only[oS.d,J2,↓reduceIte,dA];refine bC (α:=Nat) (fun i=>[(13,.one (.d (.int .i64 i))),(12,.one (.d (.int .i64 l.length))),(11,.one (.d (.sl (kf0 l)))),(0,.one (.d (.sl (kf0 l)))),(1,.one (.d (.sl (kf0 l')))),(2,.one (.fn 256 []))]) (fun _=>[]) (fun i=>i≤l.length∧i≤l'.length∧∀j,j<i→l[j]?=l'[j]?) (fun i=>l.length-i) 0 (aL [] rfl rfl rfl rfl) ⟨kg1 _,kg1 _,fun j h=>absurd h (kj6 _)⟩ ?_;rintro i ⟨hi,hi',he⟩;have hw:=bJ (a:=i) rfl (by omega);rcases kf3 i l.length with h5|h5
 ·have hc1:((i:Int)<(l.length:Int))=True:=by simp;omega
  obtain⟨u,hu⟩:=bA h5;have gu:(kf0 l)[i]?=some (aG u):=by rw[dN,ke6,hu];rfl
  rcases kf3 i l'.length with h6|h6
  ·have hc2:((l'.length:Int)≤(i:Int))=False:=by simp;omega
   have hc3:((i:Int)<(l'.length:Int))=True:=by simp;omega
   obtain⟨v,hv⟩:=bA h6;have gv:(kf0 l')[i]?=some (aG v):=by rw[dN,ke6,hv];rfl
   have t1:=hg u (kd7 hu) v (kd7 hv);have hN:=eV hu hv;have hY:=iZ he hu hv;clear hu hv;obtain⟨uk,un,ul⟩:=u;obtain⟨vk,vn,vl⟩:=v;simp only[tyV,aG,ke5,ke8]at t1 gu gv;simp -implicitDefEqProofs only[oS.d,J1,J2,J6,↓reduceIte,reduceCtorEq,hc1,hc2,gu,gv,dA,kd8,kd9];refine bI [] (t1) rfl rfl rfl ?_;rintro _ _ ⟨c,rfl,hc,rfl⟩;refine⟨_,_,rfl,?_⟩;by_cases e:c=0
   ·subst e;simp -implicitDefEqProofs only[oS.d,J2,↓reduceIte,hw];refine⟨i+1,⟨by omega,by omega,hY (hc.1 rfl)⟩,by omega,?_⟩;exact(aL [] rfl rfl rfl rfl)
   ·have e1:(c=0)=False:=by simp[e]
    simp -implicitDefEqProofs only[oS.d,J2,↓reduceIte,e1];apply aI [];rfl;rfl;exact⟨c,rfl,⟨fun h=>absurd h e,fun h=>absurd h (hN fun g=>e (hc.2 g))⟩,rfl⟩
  ·have hc2:((l'.length:Int)≤(i:Int))=True:=by simp;omega
   obtain⟨uk,un,ul⟩:=u;simp only[aG]at gu;simp -implicitDefEqProofs only[oS.d,J1,J2,J6,↓reduceIte,reduceCtorEq,hc1,hc2,gu,dA,kd8,kd9];apply aI [];rfl;rfl;exact⟨1,rfl,⟨fun h=>by omega,fun h=>by subst h;omega⟩,rfl⟩
 ·have hc1:((i:Int)<(l.length:Int))=False:=by simp;omega
  rcases kf3 l.length l'.length with h6|h6
  ·have hc2:((l.length:Int)<(l'.length:Int))=True:=by simp;omega
   simp -implicitDefEqProofs only[oS.d,J2,↓reduceIte,reduceCtorEq,hc1,hc2,dA];apply aI [];rfl;rfl;exact⟨-1,rfl,⟨fun h=>by omega,fun h=>by subst h;omega⟩,rfl⟩
  ·have hc2:((l.length:Int)<(l'.length:Int))=False:=by simp;omega
   simp -implicitDefEqProofs only[oS.d,J2,↓reduceIte,hc1,hc2,dA];apply aI [];rfl;rfl;exact⟨0,rfl,⟨fun _=>jA (by omega) fun j hj=>he j (by omega),fun _=>rfl⟩,rfl⟩
theorem jP1:∀(t t':Ty),tyn t<100000000→tyn t'<100000000→VC kd5 256 [tyV t,tyV t'] [] fun r h'=>∃c:Int,r = .one (.d (.int .i64 c))∧(c=0↔t=t')∧h'=[]:=by
 intro t;induction t using Ty.ind with
 |h k n l ih=>
 rintro⟨k',n',l'⟩ h1 h2;simp only[tyn]at h1 h2;have m1:=uM l;have m2:=uM l';have t4:=jP0 l l' (by omega) (by omega) fun u hu v hv=>ih u hu v (by have:=uL hu;omega) (by have:=uL hv;omega);simp only[tyV,aG,ke5,ke8];refine aS aR jI8 (by simp) ?_;show vwp kd5 0 zz3 _ [(0,.agg [.d (.int .i64 k),.d (.int .i64 n),.d (.sl (kf0 l))]),(1,.agg [.d (.int .i64 k'),.d (.int .i64 n'),.d (.sl (kf0 l'))])] [];conv in zz3=>cbv
 rw[aO];simp -implicitDefEqProofs only[oS.d,J1,J2,J5,J6,↓reduceIte,reduceCtorEq];refine bI [] (zB8 k k') rfl rfl rfl ?_;rintro _ _ ⟨c1,rfl,g1,rfl⟩;refine⟨_,_,rfl,?_⟩;simp -implicitDefEqProofs only[oS.d,J1,J2,J5,J6,↓reduceIte,reduceCtorEq];refine bI [] (zB8 n n') rfl rfl rfl ?_;rintro _ _ ⟨c2,rfl,g2,rfl⟩;refine⟨_,_,rfl,?_⟩;simp -implicitDefEqProofs only[oS.d,J1,J2,J5,J6,↓reduceIte,reduceCtorEq,dA];refine bI [] (zB8 l.length l'.length) rfl rfl rfl ?_;rintro _ _ ⟨c3,rfl,g3,rfl⟩;refine⟨_,_,rfl,?_⟩;simp -implicitDefEqProofs only[oS.d,J1,J2,J5,J6,↓reduceIte,reduceCtorEq];refine bI [] (t4) rfl rfl rfl ?_;rintro _ _ ⟨c4,rfl,g4,rfl⟩;refine⟨_,_,rfl,?_⟩;simp -implicitDefEqProofs only[oS.d,J2,J5,J6,J7,↓reduceIte];refine bI [] (jO9 [c1,c2,c3,c4] (by simp)) rfl (by simp[cL,bM,bO,idx,nums]) rfl ?_;rintro _ _ ⟨c,rfl,g,rfl⟩;refine⟨_,_,rfl,?_⟩;simp -implicitDefEqProofs only[oS.d,J2];apply aI [];rfl;rfl;refine⟨c,rfl,?_,rfl⟩;rw[g];simp only[List.mem_cons,List.not_mem_nil,or_false,forall_eq_or_imp,forall_eq,g1,g2,g4,Ty.mk.injEq];constructor
 ·rintro⟨a,b,_,d⟩;exact⟨a,b,d⟩
 ·rintro⟨a,b,d⟩;exact⟨a,b,g3.2 (by rw[d]),d⟩
theorem zB9 (t t':Ty) (h1:tyn t<100000000) (h2:tyn t'<100000000):VC kd5 209 [tyV t,tyV t'] [] fun r h'=>r = .one (.d (.bool (eqB t t')))∧h'=[]:=by
 have t1:=jP1 t t' h1 h2;have hN:t≠t'→eqB t t'=false:=cD;have hY:t=t'→eqB t t'=true:=gH;generalize eqB t t'=B at hN hY ⊢;generalize hP:(t=t')=Q at t1 hY;have hM:¬Q→B=false:=fun h=>hN (by rw[←hP]at h;exact h);clear hP hN;obtain⟨k,n,l⟩:=t;obtain⟨k',n',l'⟩:=t';simp only[tyV,aG,ke5,ke8]at t1 ⊢;refine aS aR jG5 (by simp) ?_;show vwp kd5 0 zx2 _ [(0,.agg [.d (.int .i64 k),.d (.int .i64 n),.d (.sl (kf0 l))]),(1,.agg [.d (.int .i64 k'),.d (.int .i64 n'),.d (.sl (kf0 l'))])] [];conv in zx2=>cbv
 rw[aO];simp -implicitDefEqProofs only[oS.d,J1,J2,J6,↓reduceIte];refine bI [] (t1) rfl rfl rfl ?_;rintro _ _ ⟨c,rfl,g,rfl⟩;refine⟨_,_,rfl,?_⟩;by_cases e:c=0
 ·have e1:(c=0)=True:=by simp[e]
  simp -implicitDefEqProofs only[oS.d,J2,↓reduceIte,e1];apply aI [];rfl;rfl;exact⟨by rw[hY (g.1 e)],rfl⟩
 ·have e1:(c=0)=False:=by simp[e]
  simp -implicitDefEqProofs only[oS.d,J2,↓reduceIte,e1];apply aI [];rfl;rfl;exact⟨by rw[hM fun h=>e (g.2 h)],rfl⟩
theorem jP2 (u v:Sc) (h1:tyn u.t<100000000) (h2:tyn v.t<100000000):VC kd5 215 [scV u,scV v] [] fun r h'=>r = .one (.d (.bool (eqB u v)))∧h'=[]:=by
 have n0:u.gens≠v.gens→u≠v:=fun h e=>h (e▸rfl);have n1:u.t≠v.t→u≠v:=fun h e=>h (e▸rfl);have hy:u.gens=v.gens→u.t=v.t→u=v:=by cases u;cases v;simp_all
 have t0:=zB9 u.t v.t h1 h2;generalize hB:eqB u.t v.t=B0 at t0;have n1:=fun h=>n1 (dP (hB.trans h));have hb0:B0=true→u.t=v.t:=fun h=>dO (hB.trans h);clear hB;obtain⟨u0,⟨u1,u2,u3⟩⟩:=u;obtain⟨v0,⟨v1,v2,v3⟩⟩:=v;simp only[aG,gP,tyV,scV,ke5,ke8]at t0 ⊢;refine aS aR jH1 (by simp) ?_;show vwp kd5 0 zx8 _ [(0,.agg [.d (.int .i64 u0),.d (.int .i64 u1),.d (.int .i64 u2),.d (.sl (kf0 u3))]),(1,.agg [.d (.int .i64 v0),.d (.int .i64 v1),.d (.int .i64 v2),.d (.sl (kf0 v3))])] [];conv in zx8=>cbv
 rw[aO];by_cases e0:u0=v0
 case neg=>
  have e0':(u0=v0)=False:=by simp[e0]
  simp -implicitDefEqProofs only[oS.d,J1,J2,J5,J6,↓reduceIte,reduceCtorEq,e0'];apply aI [];rfl;rfl;exact⟨by rw[cD (n0 e0)],rfl⟩
 have e0':(u0=v0)=True:=by simp[e0]
 simp -implicitDefEqProofs only[oS.d,J1,J2,J5,J6,↓reduceIte,reduceCtorEq,e0'];refine aQ [] t0 rfl rfl rfl rfl ?_;cases B0 with
 |false=>
  simp -implicitDefEqProofs only[oS.d,J2];apply aI [];rfl;rfl;exact⟨by rw[cD (n1 rfl)],rfl⟩
 |true=>
  simp -implicitDefEqProofs only[oS.d,J2];apply aI [];rfl;rfl;exact⟨by rw[gH (hy e0 (hb0 rfl))],rfl⟩
theorem jP3 {g:FuncId} (l l':List Ty) (hl:l.length<1000000000) (hg:∀u∈l,∀v∈l',VC kd5 g [.agg ((aG u).map .d),.agg ((aG v).map .d)] [] fun r h'=>r = .one (.d (.bool (eqB u v)))∧h'=[]):VC kd5 257 [.one (.d (.sl (kf0 l))),.one (.d (.sl (kf0 l'))),.one (.fn g [])] [] fun r h'=>r = .one (.d (.bool (eqB l l')))∧h'=[]:=by
 have m1:(kf0 l).length=l.length:=by simp only[dA]
 have m2:(kf0 l').length=l'.length:=by simp only[dA]
 refine aS aR jI9 (by simp) ?_;show vwp kd5 0 zz4 _ [(0,.one (.d (.sl (kf0 l)))),(1,.one (.d (.sl (kf0 l')))),(2,.one (.fn g []))] [];conv in zz4=>cbv
 rw[aO];by_cases hn:l.length=l'.length
 case neg=>
  have hc:((l.length:Int)=(l'.length:Int))=False:=by simp;omega
  simp -implicitDefEqProofs only[oS.d,J2,↓reduceIte,m1,m2,hc];apply aI [];rfl;rfl;exact⟨by rw[cD fun e:l=l'=>hn (congrArg List.length e)],rfl⟩
 have hc:((l.length:Int)=(l'.length:Int))=True:=by simp[hn]
 simp -implicitDefEqProofs only[oS.d,J2,↓reduceIte,m1,m2,hc];refine bC (α:=Nat) (fun i=>[(17,.one (.d (.int .i64 i))),(16,.one (.d (.int .i64 l.length))),(15,.one (.d (.sl (kf0 l)))),(1,.one (.d (.sl (kf0 l')))),(2,.one (.fn g []))]) (fun _=>[]) (fun i=>i≤l.length∧∀j,j<i→l[j]?=l'[j]?) (fun i=>l.length-i) 0 (aL [] rfl rfl rfl rfl) ⟨kg1 _,fun j h=>absurd h (kj6 _)⟩ ?_;rintro i ⟨hi,he⟩;have hw:=bJ (a:=i) rfl (by omega);rcases kf3 i l.length with h5|h5
 ·have hc1:((i:Int)<(l.length:Int))=True:=by simp;omega
  have hc2:((i:Int)<(l'.length:Int))=True:=by simp;omega
  have hc3:i<l'.length:=by omega
  obtain⟨u,hu⟩:=bA h5;obtain⟨v,hv⟩:=bA (l:=l') (i:=i) (by omega);have t1:=hg u (kd7 hu) v (kd7 hv);have gu:(kf0 l)[i]?=some (aG u):=by rw[dN,ke6,hu];rfl
  have gv:(kf0 l')[i]?=some (aG v):=by rw[dN,ke6,hv];rfl
  have hN:=eV hu hv;have hY:=iZ he hu hv;clear hu hv;generalize hB:eqB u v=B at t1;have hN:=fun h=>hN (dP (hB.trans h));have hY:=fun h=>hY (dO (hB.trans h));clear hB;obtain⟨uk,un,ul⟩:=u;obtain⟨vk,vn,vl⟩:=v;simp only[aG,ke5,ke8]at t1 gu gv;simp -implicitDefEqProofs only[oS.d,J1,J2,J6,↓reduceIte,reduceCtorEq,hc1,gu,gv,kd8,kd9];refine aQ [] t1 rfl rfl rfl rfl ?_;cases B with
  |false=>
   simp -implicitDefEqProofs only[oS.d,J2];apply aI [];rfl;rfl;exact⟨by rw[cD (hN rfl)],rfl⟩
  |true=>
   simp -implicitDefEqProofs only[oS.d,J2,↓reduceIte,hw];refine⟨i+1,⟨by omega,hY rfl⟩,by omega,?_⟩;exact(aL [] rfl rfl rfl rfl)
 ·have hc1:((i:Int)<(l.length:Int))=False:=by simp;omega
  simp -implicitDefEqProofs only[oS.d,J2,↓reduceIte,hc1];apply aI [];rfl;rfl;exact⟨by rw[gH (jA hn fun j hj=>he j (by omega))],rfl⟩
theorem jP4 (l l':List Ty) (h1:aT tyn l<100000000) (h2:aT tyn l'<100000000):VC kd5 212 [.one (.d (.sl (kf0 l))),.one (.d (.sl (kf0 l')))] [] fun r h'=>r = .one (.d (.bool (eqB l l')))∧h'=[]:=by
 have m1:=dV (f:=tyn) (fun t=>by cases t;simp[tyn]) l;have t1:=jP3 (g:=209) l l' (by omega) fun u hu v hv=>zB9 u v (by have:=cY (f:=tyn) hu;omega) (by have:=cY (f:=tyn) hv;omega);refine aS aR jG8 (by simp) ?_;show vwp kd5 0 zx5 _ [(0,.one (.d (.sl (kf0 l)))),(1,.one (.d (.sl (kf0 l'))))] [];conv in zx5=>cbv
 rw[aO];simp -implicitDefEqProofs only[oS.d,J2];refine aQ [] t1 rfl rfl rfl rfl ?_;simp -implicitDefEqProofs only[oS.d,J2];apply aI [];rfl;rfl;exact⟨rfl,rfl⟩
theorem jP5 (u v:Ct) (h1:ctn u<100000000) (h2:ctn v<100000000):VC kd5 211 [.agg ((bD u).map .d),.agg ((bD v).map .d)] [] fun r h'=>r = .one (.d (.bool (eqB u v)))∧h'=[]:=by
 have n0:u.name≠v.name→u≠v:=fun h e=>h (e▸rfl);have n1:u.args≠v.args→u≠v:=fun h e=>h (e▸rfl);have hy:u.name=v.name→u.args=v.args→u=v:=by cases u;cases v;simp_all
 have t0:=jP4 u.args v.args (by rw[qP]at h1;omega) (by rw[qP]at h2;omega);generalize hB:eqB u.args v.args=B0 at t0;have n1:=fun h=>n1 (dP (hB.trans h));have hb0:B0=true→u.args=v.args:=fun h=>dO (hB.trans h);clear hB;obtain⟨un,ul⟩:=u;obtain⟨vn,vl⟩:=v;simp only[bD,ke5,ke8]at t0 ⊢;refine aS aR jG7 (by simp) ?_;show vwp kd5 0 zx4 _ [(0,.agg [.d (.str un),.d (.sl (kf0 ul))]),(1,.agg [.d (.str vn),.d (.sl (kf0 vl))])] [];conv in zx4=>cbv
 rw[aO];by_cases e0:un=vn
 case neg=>
  have e0':(un=vn)=False:=by simp[e0]
  simp -implicitDefEqProofs only[oS.d,J1,J2,J5,J6,↓reduceIte,reduceCtorEq,e0'];apply aI [];rfl;rfl;exact⟨by rw[cD (n0 e0)],rfl⟩
 have e0':(un=vn)=True:=by simp[e0]
 simp -implicitDefEqProofs only[oS.d,J1,J2,J5,J6,↓reduceIte,reduceCtorEq,e0'];refine aQ [] t0 rfl rfl rfl rfl ?_;cases B0 with
 |false=>
  simp -implicitDefEqProofs only[oS.d,J2];apply aI [];rfl;rfl;exact⟨by rw[cD (n1 rfl)],rfl⟩
 |true=>
  simp -implicitDefEqProofs only[oS.d,J2];apply aI [];rfl;rfl;exact⟨by rw[gH (hy e0 (hb0 rfl))],rfl⟩
theorem jP6 {g:FuncId} (l l':List Ct) (hl:l.length<1000000000) (hg:∀u∈l,∀v∈l',VC kd5 g [.agg ((bD u).map .d),.agg ((bD v).map .d)] [] fun r h'=>r = .one (.d (.bool (eqB u v)))∧h'=[]):VC kd5 210 [.one (.d (.sl (l.map bD))),.one (.d (.sl (l'.map bD))),.one (.fn g [])] [] fun r h'=>r = .one (.d (.bool (eqB l l')))∧h'=[]:=by
 have m1:(l.map bD).length=l.length:=by simp only[ke9]
 have m2:(l'.map bD).length=l'.length:=by simp only[ke9]
 refine aS aR jG6 (by simp) ?_;show vwp kd5 0 zx3 _ [(0,.one (.d (.sl (l.map bD)))),(1,.one (.d (.sl (l'.map bD)))),(2,.one (.fn g []))] [];conv in zx3=>cbv
 rw[aO];by_cases hn:l.length=l'.length
 case neg=>
  have hc:((l.length:Int)=(l'.length:Int))=False:=by simp;omega
  simp -implicitDefEqProofs only[oS.d,J2,↓reduceIte,m1,m2,hc];apply aI [];rfl;rfl;exact⟨by rw[cD fun e:l=l'=>hn (congrArg List.length e)],rfl⟩
 have hc:((l.length:Int)=(l'.length:Int))=True:=by simp[hn]
 simp -implicitDefEqProofs only[oS.d,J2,↓reduceIte,m1,m2,hc];refine bC (α:=Nat) (fun i=>[(17,.one (.d (.int .i64 i))),(16,.one (.d (.int .i64 l.length))),(15,.one (.d (.sl (l.map bD)))),(1,.one (.d (.sl (l'.map bD)))),(2,.one (.fn g []))]) (fun _=>[]) (fun i=>i≤l.length∧∀j,j<i→l[j]?=l'[j]?) (fun i=>l.length-i) 0 (aL [] rfl rfl rfl rfl) ⟨kg1 _,fun j h=>absurd h (kj6 _)⟩ ?_;rintro i ⟨hi,he⟩;have hw:=bJ (a:=i) rfl (by omega);rcases kf3 i l.length with h5|h5
 ·have hc1:((i:Int)<(l.length:Int))=True:=by simp;omega
  have hc2:((i:Int)<(l'.length:Int))=True:=by simp;omega
  have hc3:i<l'.length:=by omega
  obtain⟨u,hu⟩:=bA h5;obtain⟨v,hv⟩:=bA (l:=l') (i:=i) (by omega);have t1:=hg u (kd7 hu) v (kd7 hv);have gu:(l.map bD)[i]?=some (bD u):=by rw[ke6,hu];rfl
  have gv:(l'.map bD)[i]?=some (bD v):=by rw[ke6,hv];rfl
  have hN:=eV hu hv;have hY:=iZ he hu hv;clear hu hv;generalize hB:eqB u v=B at t1;have hN:=fun h=>hN (dP (hB.trans h));have hY:=fun h=>hY (dO (hB.trans h));clear hB;obtain⟨un,ul⟩:=u;obtain⟨vn,vl⟩:=v;simp only[bD,ke5,ke8]at t1 gu gv;simp -implicitDefEqProofs only[oS.d,J1,J2,J6,↓reduceIte,reduceCtorEq,hc1,gu,gv,kd8,kd9];refine aQ [] t1 rfl rfl rfl rfl ?_;cases B with
  |false=>
   simp -implicitDefEqProofs only[oS.d,J2];apply aI [];rfl;rfl;exact⟨by rw[cD (hN rfl)],rfl⟩
  |true=>
   simp -implicitDefEqProofs only[oS.d,J2,↓reduceIte,hw];refine⟨i+1,⟨by omega,hY rfl⟩,by omega,?_⟩;exact(aL [] rfl rfl rfl rfl)
 ·have hc1:((i:Int)<(l.length:Int))=False:=by simp;omega
  simp -implicitDefEqProofs only[oS.d,J2,↓reduceIte,hc1];apply aI [];rfl;rfl;exact⟨by rw[gH (jA hn fun j hj=>he j (by omega))],rfl⟩
theorem jP7 (u v:Tym) (h1:cJ u<100000000) (h2:cJ v<100000000):VC kd5 208 [.agg ((aD u).map .d),.agg ((aD v).map .d)] [] fun r h'=>r = .one (.d (.bool (eqB u v)))∧h'=[]:=by
 have n0:u.name≠v.name→u≠v:=fun h e=>h (e▸rfl);have n1:u.t≠v.t→u≠v:=fun h e=>h (e▸rfl);have n2:u.cts≠v.cts→u≠v:=fun h e=>h (e▸rfl);have hy:u.name=v.name→u.t=v.t→u.cts=v.cts→u=v:=by cases u;cases v;simp_all
 have t0:=zB9 u.t v.t (by rw[kV]at h1;omega) (by rw[kV]at h2;omega);generalize hB:eqB u.t v.t=B0 at t0;have n1:=fun h=>n1 (dP (hB.trans h));have hb0:B0=true→u.t=v.t:=fun h=>dO (hB.trans h);clear hB;have t1:=jP6 (g:=211) u.cts v.cts (by rw[kV]at h1;have:=dV (f:=ctn) (fun t=>by unfold ctn;omega) u.cts;omega) fun a ha b hb=>jP5 a b (by rw[kV]at h1;have:=cY (f:=ctn) ha;omega) (by rw[kV]at h2;have:=cY (f:=ctn) hb;omega);generalize hB:eqB u.cts v.cts=B1 at t1;have n2:=fun h=>n2 (dP (hB.trans h));have hb1:B1=true→u.cts=v.cts:=fun h=>dO (hB.trans h);clear hB;obtain⟨un,⟨u1,u2,u3⟩,uc⟩:=u;obtain⟨vn,⟨v1,v2,v3⟩,vc⟩:=v;simp only[aG,aD,tyV,ke5,ke8,kg6,kh0]at t0 t1 ⊢;refine aS aR jG4 (by simp) ?_;show vwp kd5 0 zx1 _ [(0,.agg [.d (.str un),.d (.int .i64 u1),.d (.int .i64 u2),.d (.sl (kf0 u3)),.d (.sl (uc.map bD))]),(1,.agg [.d (.str vn),.d (.int .i64 v1),.d (.int .i64 v2),.d (.sl (kf0 v3)),.d (.sl (vc.map bD))])] [];conv in zx1=>cbv
 rw[aO];by_cases e0:un=vn
 case neg=>
  have e0':(un=vn)=False:=by simp[e0]
  simp -implicitDefEqProofs only[oS.d,J1,J2,J5,J6,↓reduceIte,reduceCtorEq,e0'];apply aI [];rfl;rfl;exact⟨by rw[cD (n0 e0)],rfl⟩
 have e0':(un=vn)=True:=by simp[e0]
 simp -implicitDefEqProofs only[oS.d,J1,J2,J5,J6,↓reduceIte,reduceCtorEq,e0'];refine aQ [] t0 rfl rfl rfl rfl ?_;cases B0 with
 |false=>
  simp -implicitDefEqProofs only[oS.d,J2];apply aI [];rfl;rfl;exact⟨by rw[cD (n1 rfl)],rfl⟩
 |true=>
  simp -implicitDefEqProofs only[oS.d,J1,J2,J5,J6,↓reduceIte,reduceCtorEq];refine aQ [] t1 rfl rfl rfl rfl ?_;cases B1 with
  |false=>
   simp -implicitDefEqProofs only[oS.d,J2];apply aI [];rfl;rfl;exact⟨by rw[cD (n2 rfl)],rfl⟩
  |true=>
   simp -implicitDefEqProofs only[oS.d,J2];apply aI [];rfl;rfl;exact⟨by rw[gH (hy e0 (hb0 rfl) (hb1 rfl))],rfl⟩
theorem jP8 (u v:Vam) (h1:cO u<100000000) (h2:cO v<100000000):VC kd5 214 [.agg ((aE u).map .d),.agg ((aE v).map .d)] [] fun r h'=>r = .one (.d (.bool (eqB u v)))∧h'=[]:=by
 have n0:u.name≠v.name→u≠v:=fun h e=>h (e▸rfl);have n1:u.s≠v.s→u≠v:=fun h e=>h (e▸rfl);have hy:u.name=v.name→u.s=v.s→u=v:=by cases u;cases v;simp_all
 have t0:=jP2 u.s v.s (by rw[qO]at h1;omega) (by rw[qO]at h2;omega);generalize hB:eqB u.s v.s=B0 at t0;have n1:=fun h=>n1 (dP (hB.trans h));have hb0:B0=true→u.s=v.s:=fun h=>dO (hB.trans h);clear hB;obtain⟨un,u0,⟨u1,u2,u3⟩⟩:=u;obtain⟨vn,v0,⟨v1,v2,v3⟩⟩:=v;simp only[aG,aE,gP,scV,ke5,ke8]at t0 ⊢;refine aS aR jH0 (by simp) ?_;show vwp kd5 0 zx7 _ [(0,.agg [.d (.str un),.d (.int .i64 u0),.d (.int .i64 u1),.d (.int .i64 u2),.d (.sl (kf0 u3))]),(1,.agg [.d (.str vn),.d (.int .i64 v0),.d (.int .i64 v1),.d (.int .i64 v2),.d (.sl (kf0 v3))])] [];conv in zx7=>cbv
 rw[aO];by_cases e0:un=vn
 case neg=>
  have e0':(un=vn)=False:=by simp[e0]
  simp -implicitDefEqProofs only[oS.d,J1,J2,J5,J6,↓reduceIte,reduceCtorEq,e0'];apply aI [];rfl;rfl;exact⟨by rw[cD (n0 e0)],rfl⟩
 have e0':(un=vn)=True:=by simp[e0]
 simp -implicitDefEqProofs only[oS.d,J1,J2,J5,J6,↓reduceIte,reduceCtorEq,e0'];refine aQ [] t0 rfl rfl rfl rfl ?_;cases B0 with
 |false=>
  simp -implicitDefEqProofs only[oS.d,J2];apply aI [];rfl;rfl;exact⟨by rw[cD (n1 rfl)],rfl⟩
 |true=>
  simp -implicitDefEqProofs only[oS.d,J2];apply aI [];rfl;rfl;exact⟨by rw[gH (hy e0 (hb0 rfl))],rfl⟩
theorem jP9 {g:FuncId} (l l':List Tym) (hl:l.length<1000000000) (hg:∀u∈l,∀v∈l',VC kd5 g [.agg ((aD u).map .d),.agg ((aD v).map .d)] [] fun r h'=>r = .one (.d (.bool (eqB u v)))∧h'=[]):VC kd5 207 [.one (.d (.sl (l.map aD))),.one (.d (.sl (l'.map aD))),.one (.fn g [])] [] fun r h'=>r = .one (.d (.bool (eqB l l')))∧h'=[]:=by
 have m1:(l.map aD).length=l.length:=by simp only[ke9]
 have m2:(l'.map aD).length=l'.length:=by simp only[ke9]
 refine aS aR jG3 (by simp) ?_;show vwp kd5 0 zx0 _ [(0,.one (.d (.sl (l.map aD)))),(1,.one (.d (.sl (l'.map aD)))),(2,.one (.fn g []))] [];conv in zx0=>cbv
 rw[aO];by_cases hn:l.length=l'.length
 case neg=>
  have hc:((l.length:Int)=(l'.length:Int))=False:=by simp;omega
  simp -implicitDefEqProofs only[oS.d,J2,↓reduceIte,m1,m2,hc];apply aI [];rfl;rfl;exact⟨by rw[cD fun e:l=l'=>hn (congrArg List.length e)],rfl⟩
 have hc:((l.length:Int)=(l'.length:Int))=True:=by simp[hn]
 simp -implicitDefEqProofs only[oS.d,J2,↓reduceIte,m1,m2,hc];refine bC (α:=Nat) (fun i=>[(17,.one (.d (.int .i64 i))),(16,.one (.d (.int .i64 l.length))),(15,.one (.d (.sl (l.map aD)))),(1,.one (.d (.sl (l'.map aD)))),(2,.one (.fn g []))]) (fun _=>[]) (fun i=>i≤l.length∧∀j,j<i→l[j]?=l'[j]?) (fun i=>l.length-i) 0 (aL [] rfl rfl rfl rfl) ⟨kg1 _,fun j h=>absurd h (kj6 _)⟩ ?_;rintro i ⟨hi,he⟩;have hw:=bJ (a:=i) rfl (by omega);rcases kf3 i l.length with h5|h5
 ·have hc1:((i:Int)<(l.length:Int))=True:=by simp;omega
  have hc2:((i:Int)<(l'.length:Int))=True:=by simp;omega
  have hc3:i<l'.length:=by omega
  obtain⟨u,hu⟩:=bA h5;obtain⟨v,hv⟩:=bA (l:=l') (i:=i) (by omega);have t1:=hg u (kd7 hu) v (kd7 hv);have gu:(l.map aD)[i]?=some (aD u):=by rw[ke6,hu];rfl
  have gv:(l'.map aD)[i]?=some (aD v):=by rw[ke6,hv];rfl
  have hN:=eV hu hv;have hY:=iZ he hu hv;clear hu hv;generalize hB:eqB u v=B at t1;have hN:=fun h=>hN (dP (hB.trans h));have hY:=fun h=>hY (dO (hB.trans h));clear hB;obtain⟨un,⟨u1,u2,u3⟩,uc⟩:=u;obtain⟨vn,⟨v1,v2,v3⟩,vc⟩:=v;simp only[aG,aD,ke5,ke8,kg6,kh0]at t1 gu gv;simp -implicitDefEqProofs only[oS.d,J1,J2,J6,↓reduceIte,reduceCtorEq,hc1,gu,gv,kd8,kd9];refine aQ [] t1 rfl rfl rfl rfl ?_;cases B with
  |false=>
   simp -implicitDefEqProofs only[oS.d,J2];apply aI [];rfl;rfl;exact⟨by rw[cD (hN rfl)],rfl⟩
  |true=>
   simp -implicitDefEqProofs only[oS.d,J2,↓reduceIte,hw];refine⟨i+1,⟨by omega,hY rfl⟩,by omega,?_⟩;exact(aL [] rfl rfl rfl rfl)
 ·have hc1:((i:Int)<(l.length:Int))=False:=by simp;omega
  simp -implicitDefEqProofs only[oS.d,J2,↓reduceIte,hc1];apply aI [];rfl;rfl;exact⟨by rw[gH (jA hn fun j hj=>he j (by omega))],rfl⟩
theorem jQ0 {g:FuncId} (l l':List Vam) (hl:l.length<1000000000) (hg:∀u∈l,∀v∈l',VC kd5 g [.agg ((aE u).map .d),.agg ((aE v).map .d)] [] fun r h'=>r = .one (.d (.bool (eqB u v)))∧h'=[]):VC kd5 213 [.one (.d (.sl (l.map aE))),.one (.d (.sl (l'.map aE))),.one (.fn g [])] [] fun r h'=>r = .one (.d (.bool (eqB l l')))∧h'=[]:=by
 have m1:(l.map aE).length=l.length:=by simp only[ke9]
 have m2:(l'.map aE).length=l'.length:=by simp only[ke9]
 refine aS aR jG9 (by simp) ?_;show vwp kd5 0 zx6 _ [(0,.one (.d (.sl (l.map aE)))),(1,.one (.d (.sl (l'.map aE)))),(2,.one (.fn g []))] [];conv in zx6=>cbv
 rw[aO];by_cases hn:l.length=l'.length
 case neg=>
  have hc:((l.length:Int)=(l'.length:Int))=False:=by simp;omega
  simp -implicitDefEqProofs only[oS.d,J2,↓reduceIte,m1,m2,hc];apply aI [];rfl;rfl;exact⟨by rw[cD fun e:l=l'=>hn (congrArg List.length e)],rfl⟩
 have hc:((l.length:Int)=(l'.length:Int))=True:=by simp[hn]
 simp -implicitDefEqProofs only[oS.d,J2,↓reduceIte,m1,m2,hc];refine bC (α:=Nat) (fun i=>[(17,.one (.d (.int .i64 i))),(16,.one (.d (.int .i64 l.length))),(15,.one (.d (.sl (l.map aE)))),(1,.one (.d (.sl (l'.map aE)))),(2,.one (.fn g []))]) (fun _=>[]) (fun i=>i≤l.length∧∀j,j<i→l[j]?=l'[j]?) (fun i=>l.length-i) 0 (aL [] rfl rfl rfl rfl) ⟨kg1 _,fun j h=>absurd h (kj6 _)⟩ ?_;rintro i ⟨hi,he⟩;have hw:=bJ (a:=i) rfl (by omega);rcases kf3 i l.length with h5|h5
 ·have hc1:((i:Int)<(l.length:Int))=True:=by simp;omega
  have hc2:((i:Int)<(l'.length:Int))=True:=by simp;omega
  have hc3:i<l'.length:=by omega
  obtain⟨u,hu⟩:=bA h5;obtain⟨v,hv⟩:=bA (l:=l') (i:=i) (by omega);have t1:=hg u (kd7 hu) v (kd7 hv);have gu:(l.map aE)[i]?=some (aE u):=by rw[ke6,hu];rfl
  have gv:(l'.map aE)[i]?=some (aE v):=by rw[ke6,hv];rfl
  have hN:=eV hu hv;have hY:=iZ he hu hv;clear hu hv;generalize hB:eqB u v=B at t1;have hN:=fun h=>hN (dP (hB.trans h));have hY:=fun h=>hY (dO (hB.trans h));clear hB;obtain⟨un,u0,⟨u1,u2,u3⟩⟩:=u;obtain⟨vn,v0,⟨v1,v2,v3⟩⟩:=v;simp only[aG,aE,gP,ke5,ke8]at t1 gu gv;simp -implicitDefEqProofs only[oS.d,J1,J2,J6,↓reduceIte,reduceCtorEq,hc1,gu,gv,kd8,kd9];refine aQ [] t1 rfl rfl rfl rfl ?_;cases B with
  |false=>
   simp -implicitDefEqProofs only[oS.d,J2];apply aI [];rfl;rfl;exact⟨by rw[cD (hN rfl)],rfl⟩
  |true=>
   simp -implicitDefEqProofs only[oS.d,J2,↓reduceIte,hw];refine⟨i+1,⟨by omega,hY rfl⟩,by omega,?_⟩;exact(aL [] rfl rfl rfl rfl)
 ·have hc1:((i:Int)<(l.length:Int))=False:=by simp;omega
  simp -implicitDefEqProofs only[oS.d,J2,↓reduceIte,hc1];apply aI [];rfl;rfl;exact⟨by rw[gH (jA hn fun j hj=>he j (by omega))],rfl⟩
theorem jQ1 {g:FuncId} (l l':List (ByteArray×Stx)) (hl:l.length<1000000000) (hg:∀u∈l,∀v∈l',VC kd5 g [.agg ((bX u).map .d),.agg ((bX v).map .d)] [] fun r h'=>r = .one (.d (.bool (eqB u v)))∧h'=[]):VC kd5 216 [.one (.d (.sl (ke3 l))),.one (.d (.sl (ke3 l'))),.one (.fn g [])] [] fun r h'=>r = .one (.d (.bool (eqB l l')))∧h'=[]:=by
 have m1:(ke3 l).length=l.length:=by simp only[gT]
 have m2:(ke3 l').length=l'.length:=by simp only[gT]
 refine aS aR jH2 (by simp) ?_;show vwp kd5 0 zx9 _ [(0,.one (.d (.sl (ke3 l)))),(1,.one (.d (.sl (ke3 l')))),(2,.one (.fn g []))] [];conv in zx9=>cbv
 rw[aO];by_cases hn:l.length=l'.length
 case neg=>
  have hc:((l.length:Int)=(l'.length:Int))=False:=by simp;omega
  simp -implicitDefEqProofs only[oS.d,J2,↓reduceIte,m1,m2,hc];apply aI [];rfl;rfl;exact⟨by rw[cD fun e:l=l'=>hn (congrArg List.length e)],rfl⟩
 have hc:((l.length:Int)=(l'.length:Int))=True:=by simp[hn]
 simp -implicitDefEqProofs only[oS.d,J2,↓reduceIte,m1,m2,hc];refine bC (α:=Nat) (fun i=>[(17,.one (.d (.int .i64 i))),(16,.one (.d (.int .i64 l.length))),(15,.one (.d (.sl (ke3 l)))),(1,.one (.d (.sl (ke3 l')))),(2,.one (.fn g []))]) (fun _=>[]) (fun i=>i≤l.length∧∀j,j<i→l[j]?=l'[j]?) (fun i=>l.length-i) 0 (aL [] rfl rfl rfl rfl) ⟨kg1 _,fun j h=>absurd h (kj6 _)⟩ ?_;rintro i ⟨hi,he⟩;have hw:=bJ (a:=i) rfl (by omega);rcases kf3 i l.length with h5|h5
 ·have hc1:((i:Int)<(l.length:Int))=True:=by simp;omega
  have hc2:((i:Int)<(l'.length:Int))=True:=by simp;omega
  have hc3:i<l'.length:=by omega
  obtain⟨u,hu⟩:=bA h5;obtain⟨v,hv⟩:=bA (l:=l') (i:=i) (by omega);have t1:=hg u (kd7 hu) v (kd7 hv);have gu:(ke3 l)[i]?=some (bX u):=by rw[kI,ke6,hu];rfl
  have gv:(ke3 l')[i]?=some (bX v):=by rw[kI,ke6,hv];rfl
  have hN:=eV hu hv;have hY:=iZ he hu hv;clear hu hv;generalize hB:eqB u v=B at t1;have hN:=fun h=>hN (dP (hB.trans h));have hY:=fun h=>hY (dO (hB.trans h));clear hB;obtain⟨un,⟨u1,u2,u3,u4,u5⟩⟩:=u;obtain⟨vn,⟨v1,v2,v3,v4,v5⟩⟩:=v;simp only[bX,aA,ke5,ke8]at t1 gu gv;simp -implicitDefEqProofs only[oS.d,J1,J2,J6,↓reduceIte,reduceCtorEq,hc1,gu,gv,kd8,kd9];refine aQ [] t1 rfl rfl rfl rfl ?_;cases B with
  |false=>
   simp -implicitDefEqProofs only[oS.d,J2];apply aI [];rfl;rfl;exact⟨by rw[cD (hN rfl)],rfl⟩
  |true=>
   simp -implicitDefEqProofs only[oS.d,J2,↓reduceIte,hw];refine⟨i+1,⟨by omega,hY rfl⟩,by omega,?_⟩;exact(aL [] rfl rfl rfl rfl)
 ·have hc1:((i:Int)<(l.length:Int))=False:=by simp;omega
  simp -implicitDefEqProofs only[oS.d,J2,↓reduceIte,hc1];apply aI [];rfl;rfl;exact⟨by rw[gH (jA hn fun j hj=>he j (by omega))],rfl⟩
theorem jQ2 {g:FuncId} (l l':List (ByteArray×FnE)) (hl:l.length<1000000000) (hg:∀u∈l,∀v∈l',VC kd5 g [.agg ((bT u).map .d),.agg ((bT v).map .d)] [] fun r h'=>r = .one (.d (.bool (eqB u v)))∧h'=[]):VC kd5 218 [.one (.d (.sl (ke2 l))),.one (.d (.sl (ke2 l'))),.one (.fn g [])] [] fun r h'=>r = .one (.d (.bool (eqB l l')))∧h'=[]:=by
 have m1:(ke2 l).length=l.length:=by simp only[iN]
 have m2:(ke2 l').length=l'.length:=by simp only[iN]
 refine aS aR jH4 (by simp) ?_;show vwp kd5 0 zy1 _ [(0,.one (.d (.sl (ke2 l)))),(1,.one (.d (.sl (ke2 l')))),(2,.one (.fn g []))] [];conv in zy1=>cbv
 rw[aO];by_cases hn:l.length=l'.length
 case neg=>
  have hc:((l.length:Int)=(l'.length:Int))=False:=by simp;omega
  simp -implicitDefEqProofs only[oS.d,J2,↓reduceIte,m1,m2,hc];apply aI [];rfl;rfl;exact⟨by rw[cD fun e:l=l'=>hn (congrArg List.length e)],rfl⟩
 have hc:((l.length:Int)=(l'.length:Int))=True:=by simp[hn]
 simp -implicitDefEqProofs only[oS.d,J2,↓reduceIte,m1,m2,hc];refine bC (α:=Nat) (fun i=>[(17,.one (.d (.int .i64 i))),(16,.one (.d (.int .i64 l.length))),(15,.one (.d (.sl (ke2 l)))),(1,.one (.d (.sl (ke2 l')))),(2,.one (.fn g []))]) (fun _=>[]) (fun i=>i≤l.length∧∀j,j<i→l[j]?=l'[j]?) (fun i=>l.length-i) 0 (aL [] rfl rfl rfl rfl) ⟨kg1 _,fun j h=>absurd h (kj6 _)⟩ ?_;rintro i ⟨hi,he⟩;have hw:=bJ (a:=i) rfl (by omega);rcases kf3 i l.length with h5|h5
 ·have hc1:((i:Int)<(l.length:Int))=True:=by simp;omega
  have hc2:((i:Int)<(l'.length:Int))=True:=by simp;omega
  have hc3:i<l'.length:=by omega
  obtain⟨u,hu⟩:=bA h5;obtain⟨v,hv⟩:=bA (l:=l') (i:=i) (by omega);have t1:=hg u (kd7 hu) v (kd7 hv);have gu:(ke2 l)[i]?=some (bT u):=by rw[iL,ke6,hu];rfl
  have gv:(ke2 l')[i]?=some (bT v):=by rw[iL,ke6,hv];rfl
  have hN:=eV hu hv;have hY:=iZ he hu hv;clear hu hv;generalize hB:eqB u v=B at t1;have hN:=fun h=>hN (dP (hB.trans h));have hY:=fun h=>hY (dO (hB.trans h));clear hB;obtain⟨un,up,⟨u1,u2,u3,u4,u5⟩,uq,⟨ua,ub,uc,ud,ue⟩⟩:=u;obtain⟨vn,vp,⟨v1,v2,v3,v4,v5⟩,vq,⟨va,vb,vc,vd,ve⟩⟩:=v;simp only[bT,eU,aA,ke5,ke8,kg6,kh0]at t1 gu gv;simp -implicitDefEqProofs only[oS.d,J1,J2,J6,↓reduceIte,reduceCtorEq,hc1,gu,gv,kd8,kd9];refine aQ [] t1 rfl rfl rfl rfl ?_;cases B with
  |false=>
   simp -implicitDefEqProofs only[oS.d,J2];apply aI [];rfl;rfl;exact⟨by rw[cD (hN rfl)],rfl⟩
  |true=>
   simp -implicitDefEqProofs only[oS.d,J2,↓reduceIte,hw];refine⟨i+1,⟨by omega,hY rfl⟩,by omega,?_⟩;exact(aL [] rfl rfl rfl rfl)
 ·have hc1:((i:Int)<(l.length:Int))=False:=by simp;omega
  simp -implicitDefEqProofs only[oS.d,J2,↓reduceIte,hc1];apply aI [];rfl;rfl;exact⟨by rw[gH (jA hn fun j hj=>he j (by omega))],rfl⟩
theorem jQ3 {g:FuncId} (l l':List cN) (hl:l.length<1000000000) (hg:∀u∈l,∀v∈l',VC kd5 g [.agg ((cA u).map .d),.agg ((cA v).map .d)] [] fun r h'=>r = .one (.d (.bool (eqB u v)))∧h'=[]):VC kd5 220 [.one (.d (.sl (ke4 l))),.one (.d (.sl (ke4 l'))),.one (.fn g [])] [] fun r h'=>r = .one (.d (.bool (eqB l l')))∧h'=[]:=by
 have m1:(ke4 l).length=l.length:=by simp only[iO]
 have m2:(ke4 l').length=l'.length:=by simp only[iO]
 refine aS aR jH6 (by simp) ?_;show vwp kd5 0 zy3 _ [(0,.one (.d (.sl (ke4 l)))),(1,.one (.d (.sl (ke4 l')))),(2,.one (.fn g []))] [];conv in zy3=>cbv
 rw[aO];by_cases hn:l.length=l'.length
 case neg=>
  have hc:((l.length:Int)=(l'.length:Int))=False:=by simp;omega
  simp -implicitDefEqProofs only[oS.d,J2,↓reduceIte,m1,m2,hc];apply aI [];rfl;rfl;exact⟨by rw[cD fun e:l=l'=>hn (congrArg List.length e)],rfl⟩
 have hc:((l.length:Int)=(l'.length:Int))=True:=by simp[hn]
 simp -implicitDefEqProofs only[oS.d,J2,↓reduceIte,m1,m2,hc];refine bC (α:=Nat) (fun i=>[(17,.one (.d (.int .i64 i))),(16,.one (.d (.int .i64 l.length))),(15,.one (.d (.sl (ke4 l)))),(1,.one (.d (.sl (ke4 l')))),(2,.one (.fn g []))]) (fun _=>[]) (fun i=>i≤l.length∧∀j,j<i→l[j]?=l'[j]?) (fun i=>l.length-i) 0 (aL [] rfl rfl rfl rfl) ⟨kg1 _,fun j h=>absurd h (kj6 _)⟩ ?_;rintro i ⟨hi,he⟩;have hw:=bJ (a:=i) rfl (by omega);rcases kf3 i l.length with h5|h5
 ·have hc1:((i:Int)<(l.length:Int))=True:=by simp;omega
  have hc2:((i:Int)<(l'.length:Int))=True:=by simp;omega
  have hc3:i<l'.length:=by omega
  obtain⟨u,hu⟩:=bA h5;obtain⟨v,hv⟩:=bA (l:=l') (i:=i) (by omega);have t1:=hg u (kd7 hu) v (kd7 hv);have gu:(ke4 l)[i]?=some (cA u):=by rw[iM,ke6,hu];rfl
  have gv:(ke4 l')[i]?=some (cA v):=by rw[iM,ke6,hv];rfl
  have hN:=eV hu hv;have hY:=iZ he hu hv;clear hu hv;generalize hB:eqB u v=B at t1;have hN:=fun h=>hN (dP (hB.trans h));have hY:=fun h=>hY (dO (hB.trans h));clear hB;obtain⟨un,up,⟨u1,u2,u3,u4,u5⟩⟩:=u;obtain⟨vn,vp,⟨v1,v2,v3,v4,v5⟩⟩:=v;simp only[cA,aA,ke5,ke8]at t1 gu gv;simp -implicitDefEqProofs only[oS.d,J1,J2,J6,↓reduceIte,reduceCtorEq,hc1,gu,gv,kd8,kd9];refine aQ [] t1 rfl rfl rfl rfl ?_;cases B with
  |false=>
   simp -implicitDefEqProofs only[oS.d,J2];apply aI [];rfl;rfl;exact⟨by rw[cD (hN rfl)],rfl⟩
  |true=>
   simp -implicitDefEqProofs only[oS.d,J2,↓reduceIte,hw];refine⟨i+1,⟨by omega,hY rfl⟩,by omega,?_⟩;exact(aL [] rfl rfl rfl rfl)
 ·have hc1:((i:Int)<(l.length:Int))=False:=by simp;omega
  simp -implicitDefEqProofs only[oS.d,J2,↓reduceIte,hc1];apply aI [];rfl;rfl;exact⟨by rw[gH (jA hn fun j hj=>he j (by omega))],rfl⟩
def StB (x y:Stx):Prop:=VC kd5 155 [stW x,stW y] [] fun r h'=>r = .one (.d (.bool (eqB x y)))∧h'=[]
theorem zC0 (u v:List Int×Stx) (hl:u.1.length<1000000000) (hs:StB u.2 v.2):VC kd5 106 [abW u.1 u.2,abW v.1 v.2] [] fun r h'=>r = .one (.d (.bool (eqB u v)))∧h'=[]:=by
 unfold StB at hs;have n0:u.1≠v.1→u≠v:=fun h e=>h (e▸rfl);have n1:u.2≠v.2→u≠v:=fun h e=>h (e▸rfl);have hy:u.1=v.1→u.2=v.2→u=v:=by cases u;cases v;simp_all
 have t0:=zZ8 u.1 v.1 hl;generalize hB:eqB u.1 v.1=B0 at t0;have n0:=fun h=>n0 (dP (hB.trans h));have hb0:B0=true→u.1=v.1:=fun h=>dO (hB.trans h);clear hB;have t1:=hs;generalize hB:eqB u.2 v.2=B1 at t1;have n1:=fun h=>n1 (dP (hB.trans h));have hb1:B1=true→u.2=v.2:=fun h=>dO (hB.trans h);clear hB;obtain⟨up,⟨u1,u2,u3,u4,u5⟩⟩:=u;obtain⟨vp,⟨v1,v2,v3,v4,v5⟩⟩:=v;simp only[aA,stW,abW,ke5,ke8]at t0 t1 ⊢;refine aS aR jC1 (by simp) ?_;show vwp kd5 0 zs7 _ [(0,.agg [.d (.sl (nums up)),.d (.sl (u1.map aD)),.d (.sl (u2.map aE)),.d (.sl (ke3 u3)),.d (.sl (ke2 u4)),.d (.sl (ke4 u5))]),(1,.agg [.d (.sl (nums vp)),.d (.sl (v1.map aD)),.d (.sl (v2.map aE)),.d (.sl (ke3 v3)),.d (.sl (ke2 v4)),.d (.sl (ke4 v5))])] [];conv in zs7=>cbv
 rw[aO];simp -implicitDefEqProofs only[oS.d,J1,J2,J5,J6,↓reduceIte,reduceCtorEq];refine aQ [] t0 rfl rfl rfl rfl ?_;cases B0 with
 |false=>
  simp -implicitDefEqProofs only[oS.d,J2];apply aI [];rfl;rfl;exact⟨by rw[cD (n0 rfl)],rfl⟩
 |true=>
  simp -implicitDefEqProofs only[oS.d,J1,J2,J5,J6,↓reduceIte,reduceCtorEq];refine aQ [] t1 rfl rfl rfl rfl ?_;cases B1 with
  |false=>
   simp -implicitDefEqProofs only[oS.d,J2];apply aI [];rfl;rfl;exact⟨by rw[cD (n1 rfl)],rfl⟩
  |true=>
   simp -implicitDefEqProofs only[oS.d,J2];apply aI [];rfl;rfl;exact⟨by rw[gH (hy (hb0 rfl) (hb1 rfl))],rfl⟩
theorem jQ4 (u v:ByteArray×Stx) (hs:StB u.2 v.2):VC kd5 217 [.agg ((bX u).map .d),.agg ((bX v).map .d)] [] fun r h'=>r = .one (.d (.bool (eqB u v)))∧h'=[]:=by
 unfold StB at hs;have n0:u.1≠v.1→u≠v:=fun h e=>h (e▸rfl);have n1:u.2≠v.2→u≠v:=fun h e=>h (e▸rfl);have hy:u.1=v.1→u.2=v.2→u=v:=by cases u;cases v;simp_all
 have t0:=hs;generalize hB:eqB u.2 v.2=B0 at t0;have n1:=fun h=>n1 (dP (hB.trans h));have hb0:B0=true→u.2=v.2:=fun h=>dO (hB.trans h);clear hB;obtain⟨un,⟨u1,u2,u3,u4,u5⟩⟩:=u;obtain⟨vn,⟨v1,v2,v3,v4,v5⟩⟩:=v;simp only[bX,aA,stW,ke5,ke8]at t0 ⊢;refine aS aR jH3 (by simp) ?_;show vwp kd5 0 zy0 _ [(0,.agg [.d (.str un),.d (.sl (u1.map aD)),.d (.sl (u2.map aE)),.d (.sl (ke3 u3)),.d (.sl (ke2 u4)),.d (.sl (ke4 u5))]),(1,.agg [.d (.str vn),.d (.sl (v1.map aD)),.d (.sl (v2.map aE)),.d (.sl (ke3 v3)),.d (.sl (ke2 v4)),.d (.sl (ke4 v5))])] [];conv in zy0=>cbv
 rw[aO];by_cases e0:un=vn
 case neg=>
  have e0':(un=vn)=False:=by simp[e0]
  simp -implicitDefEqProofs only[oS.d,J1,J2,J5,J6,↓reduceIte,reduceCtorEq,e0'];apply aI [];rfl;rfl;exact⟨by rw[cD (n0 e0)],rfl⟩
 have e0':(un=vn)=True:=by simp[e0]
 simp -implicitDefEqProofs only[oS.d,J1,J2,J5,J6,↓reduceIte,reduceCtorEq,e0'];refine aQ [] t0 rfl rfl rfl rfl ?_;cases B0 with
 |false=>
  simp -implicitDefEqProofs only[oS.d,J2];apply aI [];rfl;rfl;exact⟨by rw[cD (n1 rfl)],rfl⟩
 |true=>
  simp -implicitDefEqProofs only[oS.d,J2];apply aI [];rfl;rfl;exact⟨by rw[gH (hy e0 (hb0 rfl))],rfl⟩
theorem jQ5 (u v:ByteArray×FnE) (hl:u.2.1.length<1000000000) (hl2:u.2.2.2.1.length<1000000000) (hs:StB u.2.2.1 v.2.2.1) (hs2:StB u.2.2.2.2 v.2.2.2.2):VC kd5 219 [.agg ((bT u).map .d),.agg ((bT v).map .d)] [] fun r h'=>r = .one (.d (.bool (eqB u v)))∧h'=[]:=by
 unfold StB at hs;have n0:u.1≠v.1→u≠v:=fun h e=>h (e▸rfl);have n1:u.2.1≠v.2.1→u≠v:=fun h e=>h (e▸rfl);have n2:u.2.2.1≠v.2.2.1→u≠v:=fun h e=>h (e▸rfl);have n3:u.2.2.2≠v.2.2.2→u≠v:=fun h e=>h (e▸rfl);have hy:u.1=v.1→u.2.1=v.2.1→u.2.2.1=v.2.2.1→u.2.2.2=v.2.2.2→u=v:=by obtain⟨a,b,c,d⟩:=u;obtain⟨a2,b2,c2,d2⟩:=v;intros;simp_all
 have t0:=zZ8 u.2.1 v.2.1 hl;generalize hB:eqB u.2.1 v.2.1=B0 at t0;have n1:=fun h=>n1 (dP (hB.trans h));have hb0:B0=true→u.2.1=v.2.1:=fun h=>dO (hB.trans h);clear hB;have t1:=hs;generalize hB:eqB u.2.2.1 v.2.2.1=B1 at t1;have n2:=fun h=>n2 (dP (hB.trans h));have hb1:B1=true→u.2.2.1=v.2.2.1:=fun h=>dO (hB.trans h);clear hB;have t2:=zC0 u.2.2.2 v.2.2.2 hl2 hs2;generalize hB:eqB u.2.2.2 v.2.2.2=B2 at t2;have n3:=fun h=>n3 (dP (hB.trans h));have hb2:B2=true→u.2.2.2=v.2.2.2:=fun h=>dO (hB.trans h);clear hB;obtain⟨un,up,⟨u1,u2,u3,u4,u5⟩,uq,⟨ua,ub,uc,ud,ue⟩⟩:=u;obtain⟨vn,vp,⟨v1,v2,v3,v4,v5⟩,vq,⟨va,vb,vc,vd,ve⟩⟩:=v;simp only[bT,eU,aA,stW,abW,ke5,ke8,kg6,kh0]at t0 t1 t2 ⊢;refine aS aR jH5 (by simp) ?_;show vwp kd5 0 zy2 _ [(0,.agg [.d (.str un),.d (.sl (nums up)),.d (.sl (u1.map aD)),.d (.sl (u2.map aE)),.d (.sl (ke3 u3)),.d (.sl (ke2 u4)),.d (.sl (ke4 u5)),.d (.sl (nums uq)),.d (.sl (ua.map aD)),.d (.sl (ub.map aE)),.d (.sl (ke3 uc)),.d (.sl (ke2 ud)),.d (.sl (ke4 ue))]),(1,.agg [.d (.str vn),.d (.sl (nums vp)),.d (.sl (v1.map aD)),.d (.sl (v2.map aE)),.d (.sl (ke3 v3)),.d (.sl (ke2 v4)),.d (.sl (ke4 v5)),.d (.sl (nums vq)),.d (.sl (va.map aD)),.d (.sl (vb.map aE)),.d (.sl (ke3 vc)),.d (.sl (ke2 vd)),.d (.sl (ke4 ve))])] [];conv in zy2=>cbv
 rw[aO];by_cases e0:un=vn
 case neg=>
  have e0':(un=vn)=False:=by simp[e0]
  simp -implicitDefEqProofs only[oS.d,J1,J2,J5,J6,↓reduceIte,reduceCtorEq,e0'];apply aI [];rfl;rfl;exact⟨by rw[cD (n0 e0)],rfl⟩
 have e0':(un=vn)=True:=by simp[e0]
 simp -implicitDefEqProofs only[oS.d,J1,J2,J5,J6,↓reduceIte,reduceCtorEq,e0'];refine aQ [] t0 rfl rfl rfl rfl ?_;cases B0 with
 |false=>
  simp -implicitDefEqProofs only[oS.d,J2];apply aI [];rfl;rfl;exact⟨by rw[cD (n1 rfl)],rfl⟩
 |true=>
  simp -implicitDefEqProofs only[oS.d,J1,J2,J5,J6,↓reduceIte,reduceCtorEq];refine aQ [] t1 rfl rfl rfl rfl ?_;cases B1 with
  |false=>
   simp -implicitDefEqProofs only[oS.d,J2];apply aI [];rfl;rfl;exact⟨by rw[cD (n2 rfl)],rfl⟩
  |true=>
   simp -implicitDefEqProofs only[oS.d,J1,J2,J5,J6,↓reduceIte,reduceCtorEq];refine aQ [] t2 rfl rfl rfl rfl ?_;cases B2 with
   |false=>
    simp -implicitDefEqProofs only[oS.d,J2];apply aI [];rfl;rfl;exact⟨by rw[cD (n3 rfl)],rfl⟩
   |true=>
    simp -implicitDefEqProofs only[oS.d,J2];apply aI [];rfl;rfl;exact⟨by rw[gH (hy e0 (hb0 rfl) (hb1 rfl) (hb2 rfl))],rfl⟩
theorem jQ6 (u v:cN) (hl:u.2.1.length<1000000000) (hs:StB u.2.2 v.2.2):VC kd5 221 [.agg ((cA u).map .d),.agg ((cA v).map .d)] [] fun r h'=>r = .one (.d (.bool (eqB u v)))∧h'=[]:=by
 have n0:u.1≠v.1→u≠v:=fun h e=>h (e▸rfl);have n1:u.2≠v.2→u≠v:=fun h e=>h (e▸rfl);have hy:u.1=v.1→u.2=v.2→u=v:=by cases u;cases v;simp_all
 have t0:=zC0 u.2 v.2 hl hs;generalize hB:eqB u.2 v.2=B0 at t0;have n1:=fun h=>n1 (dP (hB.trans h));have hb0:B0=true→u.2=v.2:=fun h=>dO (hB.trans h);clear hB;obtain⟨un,up,⟨u1,u2,u3,u4,u5⟩⟩:=u;obtain⟨vn,vp,⟨v1,v2,v3,v4,v5⟩⟩:=v;simp only[cA,aA,abW,ke5,ke8]at t0 ⊢;refine aS aR jH7 (by simp) ?_;show vwp kd5 0 zy4 _ [(0,.agg [.d (.str un),.d (.sl (nums up)),.d (.sl (u1.map aD)),.d (.sl (u2.map aE)),.d (.sl (ke3 u3)),.d (.sl (ke2 u4)),.d (.sl (ke4 u5))]),(1,.agg [.d (.str vn),.d (.sl (nums vp)),.d (.sl (v1.map aD)),.d (.sl (v2.map aE)),.d (.sl (ke3 v3)),.d (.sl (ke2 v4)),.d (.sl (ke4 v5))])] [];conv in zy4=>cbv
 rw[aO];by_cases e0:un=vn
 case neg=>
  have e0':(un=vn)=False:=by simp[e0]
  simp -implicitDefEqProofs only[oS.d,J1,J2,J5,J6,↓reduceIte,reduceCtorEq,e0'];apply aI [];rfl;rfl;exact⟨by rw[cD (n0 e0)],rfl⟩
 have e0':(un=vn)=True:=by simp[e0]
 simp -implicitDefEqProofs only[oS.d,J1,J2,J5,J6,↓reduceIte,reduceCtorEq,e0'];refine aQ [] t0 rfl rfl rfl rfl ?_;cases B0 with
 |false=>
  simp -implicitDefEqProofs only[oS.d,J2];apply aI [];rfl;rfl;exact⟨by rw[cD (n1 rfl)],rfl⟩
 |true=>
  simp -implicitDefEqProofs only[oS.d,J2];apply aI [];rfl;rfl;exact⟨by rw[gH (hy e0 (hb0 rfl))],rfl⟩
end Go.Vt.Tryz
