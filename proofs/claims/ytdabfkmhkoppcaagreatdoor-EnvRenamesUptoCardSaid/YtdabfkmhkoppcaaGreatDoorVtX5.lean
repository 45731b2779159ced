import Derived.Test.YtdabfkmhkoppcaaGreatDoorVtX1
import Derived.Test.YtdabfkmhkoppcaaGreatDoorVtComp
import Derived.Test.YtdabfkmhkoppcaaGreatDoorVtSimp
set_option linter.all false
set_option maxHeartbeats 1000000
set_option maxRecDepth 100000
open Int renaming natCast_nonneg→kd8,toNat_natCast→kd9
open List renaming getElem?_map→ke6,map_cons→ke5,map_nil→ke8,mem_append→kh1,mem_singleton→ki8,take_add_one→ki7,take_append_of_le_length→kl7,take_length→ki1,take_of_length_le→ke0
open Nat renaming le_refl→kf2,le_succ→ky8,lt_or_ge→kf3,zero_le→kg1
open Option renaming toList_some→kk7
open Go.Proofs.Tryz renaming prog→kd5
open Go.Vt.aG renaming encs→kf0
open Go.Vt renaming mkV→J1
open Nat renaming reduceBEq→J2,reduceLeDiff→J5,reduceAdd→J6,reduceMul→J7
namespace Go.Vt.Tryz
open Go.Proofs Go.Vt.Al
theorem jY2 {P:Program} {T:Sl} {h:aB} {K:Kn (V×aB)} {f:FuncId} {x:Operand}:@dI P T h (.makeFunc (.func f) #[x] #[]) K=@obI _ ((eO T [x]).bind fun vs=>(lS vs).map fun ls=>(.one (.fb f ls),h)) K:=
 gC (by
  simp only[vop];rw[if_neg (show ¬(#[x]:Array Operand).size=0 by simp),if_pos (show(#[]:Array Operand).size=0 from rfl)];show(match eO T [x]with|some vs=>_|none=>none)=_;cases eO T [x]with
  |none=>rfl
  |some vs=>simp only[Option.bind_some];cases lS vs<;>rfl) rfl (by simp[cP])
def fH (v:Nat) (F:List Int) (XF:List (List D)):aB:=[.box [.d (.int .i64 6),.own 1 v F.length],.arr false 1 v (nums F++XF)]
def Fnd (F:List Int) (Q:Int→Prop) (c:Nat) (h':aB):Prop:=∃v F' XF,h'=fH v F' XF∧(∀n,n∈F'↔n∈F∨Q n)∧F'.length≤F.length+c
theorem jY3 (v:Nat) (F:List Int) (XF:List (List D)) (k n:Int) (l:List Ty) (hF:F.length<1000000000) :
  VC kd5 306 [.one (.ptr 0 0),tyV (.mk k n l)] (fH v F XF) fun r h'=>r = .tup []∧Fnd F (fun m=>k=6∧n=m) 1 h':=by
 have hco:=zf5 v F XF n hF;have hcap:(F.length+1)*8≤aM∧F.length+1≤aM:=by simp[aM];omega
 have htk:(nums F++XF).take F.length=nums F:=by rw[kl7 (by rw[bW];exact kf2 _),ke0 (by rw[bW];exact kf2 _)]
 simp only[fH]at hco ⊢;simp only[tyV,aG,ke5,ke8];refine aS aR jJ7 (by simp) ?_;show vwp kd5 2 zA2 _ [(0,.one (.ptr 0 0)),(1,.agg [.d (.int .i64 k),.d (.int .i64 n),.d (.sl (kf0 l))])] [.box [.d (.int .i64 6),.own 1 v F.length],.arr false 1 v (nums F++XF)];conv in zA2=>cbv
 rw[aO];by_cases hk:k=6
 ·have hk1:(k=6)=True:=by simp[hk]
  simp -implicitDefEqProofs only[oS.d,J1,J2,J5,J6,↓reduceIte,reduceCtorEq,hk1];refine aQ [1] hco rfl rfl rfl rfl ?_;by_cases hm:n∈F
  ·simp -implicitDefEqProofs only[oS.d,J2,J6,↓reduceIte,hm];apply aI [0,1];rfl;rfl;exact⟨rfl,v,F,XF,rfl,fun m=>⟨.inl,fun h=>h.elim id fun h=>h.2▸hm⟩,by omega⟩
  ·have e2:nums F++[[.int .i64 n]]=nums (F++[n])++[]:=by simp[nums]
   have e3:F.length+1=(F++[n]).length:=by simp
   simp -implicitDefEqProofs only[oS.d,J1,J2,J5,J6,J7,↓reduceIte,reduceCtorEq,hm,hcap,htk];rw[e2,e3];apply aI [0,1];rfl;rfl;refine⟨rfl,v+1,F++[n],[],rfl,fun m=>?_,by simp⟩;simp only[kh1,ki8];exact⟨fun h=>h.elim .inl fun e=>.inr ⟨hk,e.symm⟩,fun h=>h.elim .inl fun e=>.inr e.2.symm⟩
 ·have hk1:(k=6)=False:=by simp[hk]
  simp -implicitDefEqProofs only[oS.d,J1,J2,J5,J6,↓reduceIte,reduceCtorEq,hk1];apply aI [0,1];rfl;rfl;exact⟨rfl,v,F,XF,rfl,fun m=>⟨.inl,fun h=>h.elim id fun h=>by first|exact h.elim|exact absurd h.1 hk⟩,by omega⟩
theorem z63:∀(N:Nat) (t:Ty),tyn t≤N→N<100000000→∀(v:Nat) (F:List Int) (XF:List (List D)),F.length+tyn t<1000000000→
  VC kd5 305 [tyV t,.one (.fb 306 [.ptr 0 0])] (fH v F XF) fun r h'=>r = .tup []∧Fnd F (cB t) (tyn t) h'
 |0,.mk k n l,h,_,_,_,_,_=>by simp only[tyn]at h;omega
 |N+1,.mk k n l,h,hN,v,F,XF,hF=>by
  have ih:=z63 N;have hse:=jY3 v F XF k n l (by omega);simp only[tyn,oC]at h hF;have hlen:=dV (f:=tyn) (fun t=>by cases t;simp[tyn]) l;simp only[fH]at ih hse ⊢;simp only[tyV,aG,ke5,ke8]at hse ⊢;refine aS aR jJ6 (by simp) ?_;show vwp kd5 2 zA1 _ [(0,.agg [.d (.int .i64 k),.d (.int .i64 n),.d (.sl (kf0 l))]),(1,.one (.fb 306 [.ptr 0 0]))] [.box [.d (.int .i64 6),.own 1 v F.length],.arr false 1 v (nums F++XF)];conv in zA1=>cbv
  rw[aO];simp -implicitDefEqProofs only[oS.d,J1,J2,J6,↓reduceIte];refine bI [0,1] hse rfl rfl rfl ?_;rintro _ _ ⟨rfl,v1,F1,Y1,rfl,hF1,hl1⟩;simp only[fH];refine⟨_,_,rfl,?_⟩;simp -implicitDefEqProofs only[oS.d,J1,J2,J5,J6,↓reduceIte,reduceCtorEq,dA];refine bC (α:=Nat×Nat×List Int×List (List D)) (fun x=>[(12,.one (.d (.int .i64 x.1))),(11,.one (.d (.int .i64 l.length))),(10,.one (.d (.sl (kf0 l)))),(1,.one (.fb 306 [.ptr 0 0]))]) (fun x=>[.box [.d (.int .i64 6),.own 1 x.2.1 x.2.2.1.length],.arr false 1 x.2.1 (nums x.2.2.1++x.2.2.2)])
   (fun x=>x.1≤l.length∧(∀m,m∈x.2.2.1↔m∈F∨(k=6∧n=m)∨∃t∈l.take x.1,cB t m)∧x.2.2.1.length≤F.length+1+aT tyn (l.take x.1)) (fun x=>l.length-x.1) (0,v1,F1,Y1)
   (aL [0,1] rfl rfl rfl rfl) ⟨kg1 _,fun m=>by simp[hF1],by simpa[aT]using hl1⟩ ?_
  rintro⟨i,v2,F2,Y2⟩ ⟨hi,h2,h3⟩;dsimp only at hi h2 h3 ⊢;have hw:=bJ (a:=i) rfl (by omega);rcases kf3 i l.length with h5|h5
  ·have hc:((i:Int)<(l.length:Int))=True:=by simp;omega
   obtain⟨u,hu⟩:=bA h5;have hg:(kf0 l)[i]?=some (aG u):=by rw[dN,ke6,hu];rfl
   have hmu:=cY (f:=tyn) (List.mem_of_getElem? hu);have hsu:=jH (f:=tyn) hu;have hle:=iY (f:=tyn) l (i+1);have iu:=ih u (by omega) (by omega) v2 F2 Y2 (by omega);have hQ:∀m,(∃t∈l.take (i+1),cB t m)↔(∃t∈l.take i,cB t m)∨cB u m:=fun m=>by
    rw[ki7,hu];simp only[kk7,kh1,ki8];constructor
    ·rintro⟨t,a|a,b⟩
     ·exact .inl ⟨t,a,b⟩
     ·subst a;exact .inr b
    ·rintro(⟨t,a,b⟩|b)
     ·exact⟨t,.inl a,b⟩
     ·exact⟨u,.inr rfl,b⟩
   have hfe:∃R:Int→Prop,R=cB u:=⟨_,rfl⟩;obtain⟨R,hR⟩:=hfe;have hte:∃c:Nat,c=tyn u:=⟨_,rfl⟩;obtain⟨c,hcc⟩:=hte;rw[←hR,←hcc]at iu;simp only[←hR]at hQ;rw[←hcc]at hsu;obtain⟨uk,un,ul⟩:=u;simp only[tyV,aG,ke5,ke8]at iu hg;simp -implicitDefEqProofs only[oS.d,J1,J2,J6,↓reduceIte,reduceCtorEq,hc,hg,kd8,kd9];refine bI [0,1] iu rfl rfl rfl ?_;rintro _ _ ⟨rfl,v3,F3,Y3,rfl,hF3,hl3⟩;simp only[fH];refine⟨_,_,rfl,?_⟩;simp -implicitDefEqProofs only[oS.d,J2,J6,↓reduceIte,hw];refine⟨(i+1,v3,F3,Y3),⟨by show i+1≤l.length;omega,fun m=>?_,?_⟩,by show l.length-(i+1)<l.length-i;omega,?_⟩
   ·show m∈F3↔m∈F∨_∨∃t∈l.take (i+1),cB t m;rw[hF3 m,h2 m,hQ m,or_assoc,or_assoc]
   ·show F3.length≤F.length+1+aT tyn (l.take (i+1));omega
   ·exact(aL [0,1] rfl rfl rfl rfl)
  ·have hc:((i:Int)<(l.length:Int))=False:=by simp;omega
   have hie:i=l.length:=by omega
   subst hie;rw[ki1]at h2 h3;simp -implicitDefEqProofs only[oS.d,J2,J6,↓reduceIte,hc];apply aI [0,1];rfl;rfl;refine⟨rfl,v2,F2,Y2,rfl,fun m=>?_,by simp only[tyn,oC];omega⟩;rw[h2 m];simp only[cB,uV,fK]
theorem jY4 (t:Ty) (ht:tyn t<100000000):VC kd5 249 [tyV t] [] fun r h'=>(∃F,r = .one (.d (.sl (nums F)))∧(∀n,n∈F↔cB t n)∧F.length≤tyn t)∧h'=[]:=by
 have hw:=z63 99999999 t (by omega) (by omega) 0 [] [] (by simp;omega);have hf:VC kd5 283 [tyV t,.one (.d (.int .i64 6))] [] fun r h'=>(∃F,r = .one (.d (.sl (nums F)))∧(∀n,n∈F↔cB t n)∧F.length≤tyn t)∧h'=[]:=by
  have hRe:∃R:Int→Prop,R=cB t:=⟨_,rfl⟩;obtain⟨R,hR⟩:=hRe;have hte:∃c:Nat,c=tyn t:=⟨_,rfl⟩;obtain⟨c,hcc⟩:=hte;rw[←hR,←hcc]at hw ⊢;obtain⟨k,n,l⟩:=t;simp only[fH]at hw;simp only[tyV,aG,ke5,ke8]at hw ⊢;refine aS aR jJ1 (by simp) ?_;show vwp kd5 0 zz6 _ [(0,.agg [.d (.int .i64 k),.d (.int .i64 n),.d (.sl (kf0 l))]),(1,.one (.d (.int .i64 6)))] [];conv in zz6=>cbv
  rw[aO];simp -implicitDefEqProofs only[oS.d,J1,J2,J5,J6,↓reduceIte,jY2];refine mF [(1,1,1)] _ [.box [.d (.int .i64 k),.d (.int .i64 n),.d (.sl (kf0 l))],.box [.d (.int .i64 6),.own 2 0 0],.arr false 1 0 []] [1,2] rfl (kc4 _) (kb5 _) hw rfl rfl rfl ?_;rintro _ _ ⟨rfl,v1,F1,Y1,rfl,hF1,hl1⟩;simp only[fH];refine⟨_,_,rfl,?_⟩;simp -implicitDefEqProofs only[oS.d,J1,J2,J5,J6,↓reduceIte,reduceCtorEq];apply aI []
  ·rfl
  ·simp[fin,bK,bB,bR,bM,bO,idx,cM];first|exact⟨rfl,rfl⟩|exact⟨rfl,rfl,rfl⟩
  refine⟨⟨F1,?_,fun m=>by simpa using hF1 m,by simpa using hl1⟩,rfl⟩;rw[kl7 (by rw[bW];exact kf2 _),ke0 (by rw[bW];exact kf2 _)]
 have hRe:∃R:Int→Prop,R=cB t:=⟨_,rfl⟩;obtain⟨R,hR⟩:=hRe;have hte:∃c:Nat,c=tyn t:=⟨_,rfl⟩;obtain⟨c,hcc⟩:=hte;rw[←hR,←hcc]at hf ⊢;obtain⟨k,n,l⟩:=t;simp only[tyV,aG,ke5,ke8]at hf ⊢;refine aS aR jI1 (by simp) ?_;show vwp kd5 0 zy8 _ [(0,.agg [.d (.int .i64 k),.d (.int .i64 n),.d (.sl (kf0 l))])] [];conv in zy8=>cbv
 rw[aO];simp -implicitDefEqProofs only[oS.d,J1,J2,J6,↓reduceIte];refine bI [] (hf) rfl rfl rfl ?_;rintro _ _ ⟨⟨F,rfl,h1,h2⟩,rfl⟩;refine⟨_,_,rfl,?_⟩;simp -implicitDefEqProofs only[oS.d,J2];apply aI [];rfl;rfl;exact⟨⟨F,rfl,h1,h2⟩,rfl⟩
def kH (vb vf:Nat) (Bd F:List Int) (XB XF:List (List D)):aB:=[.box [.own 1 vb Bd.length,.own 2 vf F.length],.arr false 1 vb (nums Bd++XB),.arr false 1 vf (nums F++XF)]
def Ln (F G:List Int) (c:Nat):Prop:=G.length≤F.length+c∧(F.Nodup→G.Nodup)
theorem kb8 {F:List Int}:Ln F F 0:=⟨kf2 _,id⟩
theorem Ln.mono {F G:List Int} {c d:Nat} (h:Ln F G c) (hc:c≤d):Ln F G d:=⟨by have:=h.1;omega,h.2⟩
theorem Ln.trans {F G K:List Int} {c d:Nat} (h:Ln F G c) (g:Ln G K d):Ln F K (c+d):=⟨by have:=h.1;have:=g.1;omega,fun x=>g.2 (h.2 x)⟩
theorem Ln.snoc {F G:List Int} {c:Nat} {u:Int} (h:Ln F G c) (hu:u∉G):Ln F (G++[u]) (c+1):=⟨by have:=h.1;simp;omega,fun x=>List.nodup_append.2 ⟨h.2 x,by simp,fun a ha b hb=>by simp at hb;subst hb;exact fun e=>hu (e▸ha)⟩⟩
def Wk (Bd F:List Int) (Q:Int→Prop) (c:Nat) (h':aB):Prop:=∃vb XB vf F' XF,h'=kH vb vf Bd F' XB XF∧(∀n,n∈F'↔n∈F∨(Q n∧n∉Bd))∧Ln F F' c
theorem oM (F:List Int) (XF:List (List D)):(nums F++XF).take F.length=nums F:=by rw[kl7 (by rw[bW];exact kf2 _),ke0 (by rw[bW];exact kf2 _)]
theorem oN {α:Type} {p:α→Prop} {l:List α} {i:Nat} {u:α} (h:l[i]?=some u):(∃t∈l.take (i+1),p t)↔(∃t∈l.take i,p t)∨p u:=by
 rw[ki7,h];simp only[kk7,kh1,ki8];constructor
 ·rintro⟨t,a|a,b⟩
  ·exact .inl ⟨t,a,b⟩
  ·subst a;exact .inr b
 ·rintro(⟨t,a,b⟩|b)
  ·exact⟨t,.inl a,b⟩
  ·exact⟨u,.inr rfl,b⟩
theorem zF4 (vb vf:Nat) (Bd F:List Int) (XB XF:List (List D)) (t:Ty) (ht:tyn t<100000000) (hB:Bd.length<1000000000) (hF:F.length+tyn t<1000000000) :
  VC kd5 196 [.one (.ptr 0 0),tyV t] (kH vb vf Bd F XB XF) fun r h'=>r = .tup []∧Wk Bd F (cB t) (tyn t) h':=by
 have hs:=jY4 t ht;have hQe:∃Q:Int→Prop,Q=cB t:=⟨_,rfl⟩;obtain⟨Q,hQ⟩:=hQe;have hce:∃c:Nat,c=tyn t:=⟨_,rfl⟩;obtain⟨c,hc⟩:=hce;rw[←hQ,←hc]at hs ⊢;rw[←hc]at ht hF;obtain⟨k,n,l⟩:=t;simp only[kH]at hs ⊢;simp only[tyV,aG,ke5,ke8]at hs ⊢;refine aS aR jF4 (by simp) ?_;show vwp kd5 3 zw1 _ [(0,.one (.ptr 0 0)),(1,.agg [.d (.int .i64 k),.d (.int .i64 n),.d (.sl (kf0 l))])] [.box [.own 1 vb Bd.length,.own 2 vf F.length],.arr false 1 vb (nums Bd++XB),.arr false 1 vf (nums F++XF)];conv in zw1=>cbv
 rw[aO];simp -implicitDefEqProofs only[oS.d,J1,J2,J6,↓reduceIte];refine bI [] (hs) rfl rfl rfl ?_;rintro _ _ ⟨⟨L,rfl,h1,h2⟩,rfl⟩;refine⟨_,_,rfl,?_⟩;simp -implicitDefEqProofs only[oS.d,J2,↓reduceIte,bW];refine bC (α:=Nat×Nat×List Int×List (List D)) (fun x=>[(9,.one (.d (.int .i64 x.1))),(8,.one (.d (.int .i64 L.length))),(7,.one (.d (.sl (nums L)))),(0,.one (.ptr 0 0))]) (fun x=>[.box [.own 1 vb Bd.length,.own 2 x.2.1 x.2.2.1.length],.arr false 1 vb (nums Bd++XB),.arr false 1 x.2.1 (nums x.2.2.1++x.2.2.2)])
  (fun x=>x.1≤L.length∧(∀m,m∈x.2.2.1↔m∈F∨((∃y∈L.take x.1,m=y)∧m∉Bd))∧Ln F x.2.2.1 x.1) (fun x=>L.length-x.1) (0,vf,F,XF)
  (aL [0,1,2] rfl rfl rfl rfl) ⟨kg1 _,fun m=>by simp,kb8⟩ ?_
 rintro⟨i,v,G,Y⟩ ⟨hi,g1,g2⟩;dsimp only at hi g1 g2 ⊢;have g3:=g2.1;have hw:=bJ (a:=i) rfl (by omega);rcases kf3 i L.length with h5|h5
 ·have hlt:((i:Int)<(L.length:Int))=True:=by simp;omega
  obtain⟨u,hu⟩:=bA h5;have hg:=eL hu;have c1:=zf5 vb Bd XB u hB;have c2:=zf5 v G Y u (by omega);have hcap:(G.length+1)*8≤aM∧G.length+1≤aM:=by simp[aM];omega
  have htk:=oM G Y;simp -implicitDefEqProofs only[oS.d,J1,J2,J5,J6,↓reduceIte,reduceCtorEq,hlt,hg,kd8,kd9];refine aQ [1] c1 rfl rfl rfl rfl ?_;by_cases hm:u∈Bd
  ·simp -implicitDefEqProofs only[oS.d,J2,↓reduceIte,hm,hw];refine⟨(i+1,v,G,Y),⟨by show i+1≤L.length;omega,fun m=>?_,g2.mono (ky8 i)⟩,by show L.length-(i+1)<L.length-i;omega,?_⟩
   ·show m∈G↔m∈F∨((∃y∈L.take (i+1),m=y)∧m∉Bd);rw[g1 m,oN (p:=fun y=>m=y) hu];constructor
    ·rintro(a|⟨a,b⟩)
     ·exact .inl a
     ·exact .inr ⟨.inl a,b⟩
    ·rintro(a|⟨a|a,b⟩)
     ·exact .inl a
     ·exact .inr ⟨a,b⟩
     ·exact absurd hm (a▸b)
   ·exact(aL [0,1,2] rfl rfl rfl rfl)
  ·simp -implicitDefEqProofs only[oS.d,J1,J2,J5,J6,↓reduceIte,reduceCtorEq,hm];refine aQ [2] c2 rfl rfl rfl rfl ?_;by_cases hm2:u∈G
   ·simp -implicitDefEqProofs only[oS.d,J2,↓reduceIte,hm2,hw];refine⟨(i+1,v,G,Y),⟨by show i+1≤L.length;omega,fun m=>?_,g2.mono (ky8 i)⟩,by show L.length-(i+1)<L.length-i;omega,?_⟩
    ·show m∈G↔m∈F∨((∃y∈L.take (i+1),m=y)∧m∉Bd);rw[oN (p:=fun y=>m=y) hu];constructor
     ·intro a;rcases(g1 m).1 a with a|⟨a,b⟩
      ·exact .inl a
      ·exact .inr ⟨.inl a,b⟩
     ·rintro(a|⟨a|a,b⟩)
      ·exact(g1 m).2 (.inl a)
      ·exact(g1 m).2 (.inr ⟨a,b⟩)
      ·exact a▸hm2
    ·exact(aL [0,1,2] rfl rfl rfl rfl)
   ·have e2:nums G++[[.int .i64 u]]=nums (G++[u])++[]:=by simp[nums]
    have e3:G.length+1=(G++[u]).length:=by simp
    simp -implicitDefEqProofs only[oS.d,J1,J2,J5,J6,J7,↓reduceIte,reduceCtorEq,hm2,hcap,htk,hw];rw[e2,e3];refine⟨(i+1,v+1,G++[u],[]),⟨by show i+1≤L.length;omega,fun m=>?_,g2.snoc hm2⟩,by show L.length-(i+1)<L.length-i;omega,?_⟩
    ·show m∈G++[u]↔m∈F∨((∃y∈L.take (i+1),m=y)∧m∉Bd);rw[oN (p:=fun y=>m=y) hu,kh1,ki8,g1 m];constructor
     ·rintro((a|⟨a,b⟩)|a)
      ·exact .inl a
      ·exact .inr ⟨.inl a,b⟩
      ·exact .inr ⟨.inr a,a▸hm⟩
     ·rintro(a|⟨a|a,b⟩)
      ·exact .inl (.inl a)
      ·exact .inl (.inr ⟨a,b⟩)
      ·exact .inr a
    ·exact(aL [0,1,2] rfl rfl rfl rfl)
 ·have hlt:((i:Int)<(L.length:Int))=False:=by simp;omega
  have hie:i=L.length:=by omega
  subst hie;rw[ki1]at g1;simp -implicitDefEqProofs only[oS.d,J2,J6,↓reduceIte,hlt];apply aI [0,1,2];rfl;rfl;refine⟨rfl,vb,XB,v,G,Y,rfl,fun m=>?_,g2.mono (by omega)⟩;rw[g1 m,←h1 m];constructor
  ·rintro(a|⟨⟨y,a,rfl⟩,b⟩)
   ·exact .inl a
   ·exact .inr ⟨a,b⟩
  ·rintro(a|⟨a,b⟩)
   ·exact .inl a
   ·exact .inr ⟨⟨m,a,rfl⟩,b⟩
theorem Wk.more {Bd F F1 F2:List Int} {P Q R:Int→Prop} (h1:∀m,m∈F1↔m∈F∨(P m∧m∉Bd)) (h2:∀m,m∈F2↔m∈F1∨(Q m∧m∉Bd)) (hR:∀m,R m↔P m∨Q m) (m:Int):m∈F2↔m∈F∨(R m∧m∉Bd):=by
 rw[h2 m,h1 m,hR m];constructor
 ·rintro((a|⟨a,b⟩)|⟨a,b⟩)
  ·exact .inl a
  ·exact .inr ⟨.inl a,b⟩
  ·exact .inr ⟨.inr a,b⟩
 ·rintro(a|⟨a|a,b⟩)
  ·exact .inl (.inl a)
  ·exact .inl (.inr ⟨a,b⟩)
  ·exact .inr ⟨a,b⟩
theorem jY5 (vb vf:Nat) (Bd F:List Int) (XB XF:List (List D)) (l:List Ty) (ht:aT tyn l<100000000) (hB:Bd.length<1000000000) (hF:F.length+aT tyn l<1000000000) :
  VC kd5 250 [.one (.ptr 0 0),.one (.d (.sl (kf0 l)))] (kH vb vf Bd F XB XF) fun r h'=>r = .tup []∧Wk Bd F (fun m=>∃t∈l,cB t m) (aT tyn l) h':=by
 have hty:=fun u (hu:tyn u<100000000) vb vf F XB XF (hF:F.length+tyn u<1000000000)=>zF4 vb vf Bd F XB XF u hu hB hF;have hlen:=dV (f:=tyn) (fun t=>by cases t;simp[tyn]) l;simp only[kH]at hty ⊢;refine aS aR jI2 (by simp) ?_;show vwp kd5 3 zy9 _ [(0,.one (.ptr 0 0)),(1,.one (.d (.sl (kf0 l))))] [.box [.own 1 vb Bd.length,.own 2 vf F.length],.arr false 1 vb (nums Bd++XB),.arr false 1 vf (nums F++XF)];conv in zy9=>cbv
 rw[aO];simp -implicitDefEqProofs only[oS.d,J2,↓reduceIte,dA];refine bC (α:=Nat×(Nat×List (List D))×Nat×List Int×List (List D)) (fun x=>[(8,.one (.d (.int .i64 x.1))),(7,.one (.d (.int .i64 l.length))),(6,.one (.d (.sl (kf0 l)))),(0,.one (.ptr 0 0))]) (fun x=>[.box [.own 1 x.2.1.1 Bd.length,.own 2 x.2.2.1 x.2.2.2.1.length],.arr false 1 x.2.1.1 (nums Bd++x.2.1.2),.arr false 1 x.2.2.1 (nums x.2.2.2.1++x.2.2.2.2)])
  (fun x=>x.1≤l.length∧(∀m,m∈x.2.2.2.1↔m∈F∨((∃t∈l.take x.1,cB t m)∧m∉Bd))∧Ln F x.2.2.2.1 (aT tyn (l.take x.1))) (fun x=>l.length-x.1) (0,(vb,XB),vf,F,XF)
  (aL [0,1,2] rfl rfl rfl rfl) ⟨kg1 _,fun m=>by simp,kb8⟩ ?_
 rintro⟨i,⟨vb1,XB1⟩,v,G,Y⟩ ⟨hi,g1,g2⟩;dsimp only at hi g1 g2 ⊢;have g3:=g2.1;have hw:=bJ (a:=i) rfl (by omega);rcases kf3 i l.length with h5|h5
 ·have hlt:((i:Int)<(l.length:Int))=True:=by simp;omega
  obtain⟨u,hu⟩:=bA h5;have hg:(kf0 l)[i]?=some (aG u):=by rw[dN,ke6,hu];rfl
  have hsu:=jH (f:=tyn) hu;have hle:=iY (f:=tyn) l (i+1);have iu:=hty u (by omega) vb1 v G XB1 Y (by omega);have hQ:=fun m=>oN (p:=fun t=>cB t m) hu;have hfe:∃R:Int→Prop,R=cB u:=⟨_,rfl⟩;obtain⟨R,hR⟩:=hfe;have hte:∃c:Nat,c=tyn u:=⟨_,rfl⟩;obtain⟨c,hcc⟩:=hte;rw[←hR,←hcc]at iu;simp only[←hR]at hQ;rw[←hcc]at hsu;obtain⟨uk,un,ul⟩:=u;simp only[tyV,aG,ke5,ke8]at iu hg;simp -implicitDefEqProofs only[oS.d,J1,J2,J6,↓reduceIte,reduceCtorEq,hlt,hg,kd8,kd9];refine bI [0,1,2] iu rfl rfl rfl ?_;rintro _ _ ⟨rfl,vb3,XB3,v3,F3,Y3,rfl,hF3,hl3⟩;simp only[kH];refine⟨_,_,rfl,?_⟩;simp -implicitDefEqProofs only[oS.d,J2,J6,↓reduceIte,hw];refine⟨(i+1,(vb3,XB3),v3,F3,Y3),⟨by show i+1≤l.length;omega,fun m=>?_,(g2.trans hl3).mono (by show _≤aT tyn (l.take (i+1));omega)⟩,by show l.length-(i+1)<l.length-i;omega,?_⟩
  ·exact Wk.more g1 hF3 hQ m
  ·exact(aL [0,1,2] rfl rfl rfl rfl)
 ·have hlt:((i:Int)<(l.length:Int))=False:=by simp;omega
  have hie:i=l.length:=by omega
  subst hie;rw[ki1]at g1 g2;simp -implicitDefEqProofs only[oS.d,J2,J6,↓reduceIte,hlt];apply aI [0,1,2];rfl;rfl;exact⟨rfl,vb1,XB1,v,G,Y,rfl,g1,g2⟩
theorem jY6 (vb vf:Nat) (Bd F:List Int) (XB XF:List (List D)) (l:List Ct) (ht:aT ctn l<100000000) (hB:Bd.length<1000000000) (hF:F.length+aT ctn l<1000000000) :
  VC kd5 197 [.one (.ptr 0 0),.one (.d (.sl (l.map bD)))] (kH vb vf Bd F XB XF) fun r h'=>r = .tup []∧Wk Bd F (fun m=>∃c∈l,cB.go c.args m) (aT ctn l) h':=by
 have hty:=fun u (hu:aT tyn u<100000000) vb vf F XB XF (hF:F.length+aT tyn u<1000000000)=>jY5 vb vf Bd F XB XF u hu hB hF;have hlen:=dV (f:=ctn) (fun t=>by cases t;simp[ctn]) l;simp only[kH]at hty ⊢;refine aS aR jF5 (by simp) ?_;show vwp kd5 3 zw2 _ [(0,.one (.ptr 0 0)),(1,.one (.d (.sl (l.map bD))))] [.box [.own 1 vb Bd.length,.own 2 vf F.length],.arr false 1 vb (nums Bd++XB),.arr false 1 vf (nums F++XF)];conv in zw2=>cbv
 rw[aO];simp -implicitDefEqProofs only[oS.d,J2,↓reduceIte,List.length_map];refine bC (α:=Nat×(Nat×List (List D))×Nat×List Int×List (List D)) (fun x=>[(8,.one (.d (.int .i64 x.1))),(7,.one (.d (.int .i64 l.length))),(6,.one (.d (.sl (l.map bD)))),(0,.one (.ptr 0 0))]) (fun x=>[.box [.own 1 x.2.1.1 Bd.length,.own 2 x.2.2.1 x.2.2.2.1.length],.arr false 1 x.2.1.1 (nums Bd++x.2.1.2),.arr false 1 x.2.2.1 (nums x.2.2.2.1++x.2.2.2.2)])
  (fun x=>x.1≤l.length∧(∀m,m∈x.2.2.2.1↔m∈F∨((∃c∈l.take x.1,cB.go c.args m)∧m∉Bd))∧Ln F x.2.2.2.1 (aT ctn (l.take x.1))) (fun x=>l.length-x.1) (0,(vb,XB),vf,F,XF)
  (aL [0,1,2] rfl rfl rfl rfl) ⟨kg1 _,fun m=>by simp,kb8⟩ ?_
 rintro⟨i,⟨vb1,XB1⟩,v,G,Y⟩ ⟨hi,g1,g2⟩;dsimp only at hi g1 g2 ⊢;have g3:=g2.1;have hw:=bJ (a:=i) rfl (by omega);rcases kf3 i l.length with h5|h5
 ·have hlt:((i:Int)<(l.length:Int))=True:=by simp;omega
  obtain⟨u,hu⟩:=bA h5;have hg:(l.map bD)[i]?=some (bD u):=by rw[ke6,hu];rfl
  have hsu:=jH (f:=ctn) hu;have hle:=iY (f:=ctn) l (i+1);have hcu:aT tyn u.args<ctn u:=by simp only[ctn,oC];omega
  have iu:=hty u.args (by omega) vb1 v G XB1 Y (by omega);have hQ:=fun m=>oN (p:=fun(c:Ct)=>cB.go c.args m) hu;simp only[uV]at hQ;obtain⟨us,ul⟩:=u;simp only[bD]at hg;dsimp only at iu hQ hcu;simp -implicitDefEqProofs only[oS.d,J1,J2,J5,J6,↓reduceIte,reduceCtorEq,hlt,hg,kd8,kd9];refine bI [0,1,2] iu rfl rfl rfl ?_;rintro _ _ ⟨rfl,vb3,XB3,v3,F3,Y3,rfl,hF3,hl3⟩;simp only[kH];refine⟨_,_,rfl,?_⟩;simp -implicitDefEqProofs only[oS.d,J2,J6,↓reduceIte,hw];refine⟨(i+1,(vb3,XB3),v3,F3,Y3),⟨by show i+1≤l.length;omega,fun m=>?_,(g2.trans hl3).mono (by show _≤aT ctn (l.take (i+1));omega)⟩,by show l.length-(i+1)<l.length-i;omega,?_⟩
  ·show m∈F3↔m∈F∨((∃c∈l.take (i+1),cB.go c.args m)∧m∉Bd);refine Wk.more (R:=fun m=>∃c∈l.take (i+1),cB.go c.args m) g1 hF3 (fun m=>?_) m;simp only[uV];exact hQ m
  ·exact(aL [0,1,2] rfl rfl rfl rfl)
 ·have hlt:((i:Int)<(l.length:Int))=False:=by simp;omega
  have hie:i=l.length:=by omega
  subst hie;rw[ki1]at g1 g2;simp -implicitDefEqProofs only[oS.d,J2,J6,↓reduceIte,hlt];apply aI [0,1,2];rfl;rfl;exact⟨rfl,vb1,XB1,v,G,Y,rfl,g1,g2⟩
open Go.Proofs
def yP:List aC:=[aC.ops [VOp.mk (some 3) (.box 225 (.tmp 0)) none],aC.ops [VOp.mk (some 7) (.load 225 (.tmp 3)) none,VOp.mk (some 8) (.nilCheck (.tmp 7)) none,
 VOp.mk (some 9) (.fieldAddr 227 (.tmp 8) 0) none,VOp.mk (some 10) (.load 85 (.tmp 9)) none,VOp.mk (some 11) (.call (.mk (.builtin .len) #[.tmp 10] #[85])) none,VOp.mk (some 6)
 (.alloc 3) none,VOp.mk none (.store 3 (.tmp 6) (.tmp 11)) none],aC.opsW [(0,VOp.mk (some 12) (.load 225 (.tmp 3)) none),(1,VOp.mk (some 13) (.load 225 (.tmp 3)) none),(2,
 VOp.mk (some 14) (.nilCheck (.tmp 13)) none),(3,VOp.mk (some 15) (.fieldAddr 227 (.tmp 14) 0) none),(4,VOp.mk (some 16) (.load 85 (.tmp 15)) none),(5,VOp.mk (some 17) (.move
 (.tmp 1)) none),(6,VOp.mk (some 18) (.call (.mk (.builtin .append) #[.tmp 16,.tmp 17] #[85,85])) none),(7,VOp.mk (some 19) (.nilCheck (.tmp 12)) none),(8,VOp.mk (some 20)
 (.fieldAddr 227 (.tmp 19) 0) none),(9,VOp.mk none (.store 85 (.tmp 20) (.tmp 18)) none)] [(6,[0])]]
def yQ:List VOp:=[VOp.mk (some 21) (.makeFunc (.func 230) #[] #[.tmp 3,.tmp 6]) none]
def yR:aC:=aC.ops [VOp.mk (some 22) (.move (.tmp 2)) none,VOp.mk (some 23) (.call (.mk (.value (.tmp 22)) #[] #[])) none]
theorem z64:sB kd5 163 (DF.mk 24 yP yQ 21 yR []):=⟨Tryz.f163,xE 3 (aX Tryz.f163),tlC (tlN 3 (aX Tryz.f163)),zq0 (hdC (tlN 3 (aX
 Tryz.f163))),(sE (hdC (tlN 3 (aX Tryz.f163)))).dropLast,(sE (hdC (tlN 3 (aX Tryz.f163)))).getLast!,[(2,[([0,1,2,3,4,5,6,7,8,9],[(6,[0])])])],
 Tryz.func163,by kernel_rfl,by kernel_rfl,by kernel_rfl,by kernel_rfl,by kernel_rfl,by kernel_rfl,by kernel_rfl,by kernel_rfl,by kernel_rfl,by kernel_rfl,by kernel_rfl,
 by kernel_rfl,by kernel_rfl⟩
def yS:List aC:=[aC.ops [VOp.mk (some 4) (.box 201 (.tmp 0)) none],aC.ops [VOp.mk (some 10) (.load 201 (.tmp 4)) none,VOp.mk (some 11) (.nilCheck (.tmp 10)) none,
 VOp.mk (some 12) (.fieldAddr 204 (.tmp 11) 0) none,VOp.mk (some 13) (.load 85 (.tmp 12)) none,VOp.mk (some 14) (.call (.mk (.builtin .len) #[.tmp 13] #[85])) none,VOp.mk (some
 8) (.alloc 3) none,VOp.mk none (.store 3 (.tmp 8) (.tmp 14)) none],aC.ops [VOp.mk (some 15) (.load 201 (.tmp 4)) none,VOp.mk (some 16) (.nilCheck (.tmp 15)) none,VOp.mk
 (some 17) (.fieldAddr 204 (.tmp 16) 2) none,VOp.mk (some 18) (.load 202 (.tmp 17)) none,VOp.mk (some 19) (.move (.tmp 1)) none,VOp.mk (some 20) (.move (.tmp 2)) none,VOp.mk
 (some 21) (.call (.mk (.value (.tmp 18)) #[.tmp 19,.tmp 20] #[85,85])) none,VOp.mk (some 9) (.assign (.tmp 21)) none],aC.opsW [(0,VOp.mk (some 22) (.load 201 (.tmp 4))
 none),(1,VOp.mk (some 23) (.load 201 (.tmp 4)) none),(2,VOp.mk (some 24) (.load 201 (.tmp 4)) none),(3,VOp.mk (some 25) (.nilCheck (.tmp 24)) none),(4,VOp.mk (some 26)
 (.fieldAddr 204 (.tmp 25) 0) none),(5,VOp.mk (some 27) (.load 85 (.tmp 26)) none),(6,VOp.mk (some 28) (.move (.tmp 1)) none),(8,VOp.mk (some 30) (.load 201 (.tmp 4)) none),
 (9,VOp.mk (some 31) (.nilCheck (.tmp 30)) none),(10,VOp.mk (some 32) (.fieldAddr 204 (.tmp 31) 1) none),(11,VOp.mk (some 33) (.load 85 (.tmp 32)) none),(12,VOp.mk (some 34)
 (.move (.tmp 9)) none),(7,VOp.mk (some 29) (.call (.mk (.builtin .append) #[.tmp 27,.tmp 28] #[85,85])) none),(13,VOp.mk (some 35) (.call (.mk (.builtin .append) #[.tmp 33,
 .tmp 34] #[85,85])) none),(14,VOp.mk (some 36) (.nilCheck (.tmp 22)) none),(15,VOp.mk (some 37) (.fieldAddr 204 (.tmp 36) 0) none),(16,VOp.mk none (.store 85 (.tmp 37)
 (.tmp 29)) none),(17,VOp.mk (some 38) (.nilCheck (.tmp 23)) none),(18,VOp.mk (some 39) (.fieldAddr 204 (.tmp 38) 1) none),(19,VOp.mk none (.store 85 (.tmp 39) (.tmp 35))
 none)] [(7,[0,1,8,9,10,11]),(13,[0,1]),(16,[1])]]
def yT:List VOp:=[VOp.mk (some 40) (.makeFunc (.func 199) #[] #[.tmp 4,.tmp 8]) none]
def yU:aC:=aC.ops [VOp.mk (some 41) (.move (.tmp 3)) none,VOp.mk (some 42) (.move (.tmp 9)) none,VOp.mk (some 43) (.call (.mk (.value (.tmp 41)) #[.tmp 42] #[85]))
 none]
theorem z65:sB kd5 148 (DF.mk 44 yS yT 40 yU []):=⟨Tryz.f148,xE 4 (aX Tryz.f148),tlC (tlN 4 (aX Tryz.f148)),zq0 (hdC (tlN 4 (aX
 Tryz.f148))),(sE (hdC (tlN 4 (aX Tryz.f148)))).dropLast,(sE (hdC (tlN 4 (aX Tryz.f148)))).getLast!,[(3,[([0,1,2,3,4,5,6,8,9,10,11,12,7,13,14,15,
 16,17,18,19],[(7,[0,1,8,9,10,11]),(13,[0,1]),(16,[1])])])],Tryz.func148,by kernel_rfl,by kernel_rfl,by kernel_rfl,by kernel_rfl,by kernel_rfl,by kernel_rfl,
 by kernel_rfl,by kernel_rfl,by kernel_rfl,by kernel_rfl,by kernel_rfl,by kernel_rfl,by kernel_rfl⟩
end Go.Vt.Tryz
namespace Go.Vt
variable {P:Program}
def nM:List aC→aC→aC
 |[],c=>c
 |a::r,c=>.seq a (nM r c)
def jY7 (P:Program) (n:Nat) (x:DF) (Post:V→aB→Prop) (T:Sl) (h:aB):Prop:=∃g caps,T.lookup x.slot=some (.one (.fn g caps))∧
 vwp P h.length x.rest (fun e T2 h2=>(∀k,e≠.exit k)∧caps.all (dX h2)=true∧∃Pd,VCD P g (caps.map .one) h2 Pd∧∀h3,Pd h3→nZ P n x.rs Post .ret T2 h3) T h
def z66 (P:Program) (n:Nat) (x:DF) (Post:V→aB→Prop):VX→Sl→aB→Prop
 |.normal=>jY7 P n x Post
 |_=>fun _ _=>False
theorem z67 {n:Nat} {K:Sl→aB→Prop} {os:List VOp} {G:VX→Sl→aB→Prop} (hG:∀e T h,G e T h→e = .normal) (hK:∀T h,G .normal T h→K T h):∀{cs:List aC} {T:Sl} {h:aB},vwp P n (nM cs (.ops os)) G T h→sA P n cs (fun T h=>mY P os T h K) T h
 |[],T,h,hv=>wL (fun T h=>hK T h) hv
 |c::r,T,h,hv=>by
  unfold sA;refine mB (c:=c) (fun e T h hv=>?_) hv;cases e with
  |normal=>exact z67 hG hK hv
  |exit id=>have:=hG _ _ _ hv;cases this
  |ret=>have:=hG _ _ _ hv;cases this
theorem zf6 {f:FuncId} {x:DF} {avs:List V} {hs:aB} {Post:V→aB→Prop} (hm:P.follows .mixedOrders=true) (hx:sB P f x) (hlen:avs.length≤x.N) (hv:vwp P hs.length (nM x.pre (.ops x.ops)) (z66 P hs.length x Post) (prm 0 avs) hs):VC P f avs hs Post:=by
 obtain⟨fn,As,B,id,ops0,od,sg,e1,e2,e3,e4,e5,e6,e7,e8,e9,e10,e11,e12,e13,e14⟩:=hx.fn;refine zS8 hm e1 e2 e3 e4 e5 e6 e7 e8 e9 (by rw[e10];exact hlen) ?_;rw[e12,e13,e14,e11];refine z67 (G:=z66 P hs.length x Post) (fun e T h hv=>?_) (fun T h hv=>hv) hv;cases e with
 |normal=>rfl
 |exit id=>exact hv.elim
 |ret=>exact hv.elim
theorem zf7 {f:FuncId} {N:Nat} {vc:aC} {rs:List ResultVar} {avs:List V} {hs:aB} {Post:aB→Prop} (hm:P.follows .mixedOrders=true) (hF:aK P f N vc rs) (hp:mH vc=true) (hlen:avs.length≤N)
  (hv:vwp P hs.length vc (nZ P hs.length rs fun _ h'=>Post h') (prm 0 avs) hs):VCD P f avs hs Post:=by
 obtain⟨fn,c,sg,h1,h2,h3,h4,h5,h6,h7⟩:=hF.fn;subst h3;subst h4;subst h7;exact zS5 hm h1 h2 h5 (zT0 c h6 hp) hlen hv
end Go.Vt
