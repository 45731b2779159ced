import Derived.Test.YtdabfkmhkoppcaaGreatDoorVtX1
import Derived.Test.YtdabfkmhkoppcaaGreatDoorVtComp
import Derived.Test.YtdabfkmhkoppcaaGreatDoorVtSimp
set_option linter.all false
set_option maxHeartbeats 4000000
set_option maxRecDepth 100000
open Int renaming natCast_nonneg→kq2,toNat_natCast→kq4
open List renaming append_nil→ku3,cons_append→kr0,getElem?_map→ks1,length_append→kq3,length_map→kr8,map_cons→kq1,map_nil→kq5,mem_append→kt5,mem_of_getElem?→kq0,mem_singleton→kv0,nil_append→kr2,take_add_one→kw0,take_append_of_le_length→ky0,take_length→kv2,take_of_length_le→kq6
open Nat renaming le_refl→ks0,le_succ→kL3,lt_or_ge→ks3,zero_le→kt1
open Option renaming toList_some→kz8
open Go.Proofs.Tryz renaming prog→kp8
open Go.Vt.aA renaming funs→kq8,sigs→kq9,subs→kq7
open Go.Vt.aF renaming encs→ks8
open Go.Vt renaming dL→J0,mkV→J1
open Nat renaming reduceBEq→J2,reduceEqDiff→J3,reduceLT→J4,reduceLeDiff→J5,reduceAdd→J6,reduceMul→J7,reduceSub→J8
namespace Go.Vt.Tryz
open Go.Proofs Go.Vt.Al
theorem j31 {P:Program} {T:Sl} {h:aB} {K:Kn (V×aB)} {f:FuncId} {x:Operand}:@cV _ P T h (.makeFunc (.func f) #[x] #[]) K=@obI _ ((eO T [x]).bind fun vs=>(mV vs).map fun ls=>(.one (.fb f ls),h)) K:=
 gI (by
  simp only[vop,mkO];rw[if_neg (show ¬(#[x]:Array Operand).size=0 by simp),if_pos (show(#[]:Array Operand).size=0 from rfl)];show(match eO T [x]with|some vs=>_|none=>none)=_;cases eO T [x]with
  |none=>rfl
  |some vs=>simp only[Option.bind_some];cases mV vs<;>rfl) rfl (by simp[cH,mkO])
def fH (v:Nat) (F:List Int) (XF:List (List D)):aB:=[.box [.d (.int .i64 6),.own 1 v F.length],.arr false 1 v (nums F++XF)]
def Fnd (F:List Int) (Q:Int→Prop) (c:Nat) (h':aB):Prop:=∃v F' XF,h'=fH v F' XF∧(∀n,n∈F'↔n∈F∨Q n)∧F'.length≤F.length+c
theorem j32 (v:Nat) (F:List Int) (XF:List (List D)) (k n:Int) (l:List Ty) (hF:F.length<1000000000) :
  VC kp8 306 [.one (.ptr 0 0),tyV (.mk k n l)] (fH v F XF) fun r h'=>r = .tup []∧Fnd F (fun m=>k=6∧n=m) 1 h':=by
 have hco:=zi4 v F XF n hF;have hcap:(F.length+1)*8≤aV∧F.length+1≤aV:=by simp[aV];omega
 have htk:(nums F++XF).take F.length=nums F:=by rw[ky0 (by rw[bU];exact ks0 _),kq6 (by rw[bU];exact ks0 _)]
 simp only[fH]at hco ⊢;simp only[tyV,aF,kq1,kq5];refine aU mixed jR9 (by simp) ?_;show vwp kp8 2 zE9 _ [(0,.one (.ptr 0 0)),(1,.agg [.d (.int .i64 k),.d (.int .i64 n),.d (.sl (ks8 l))])] [.box [.d (.int .i64 6),.own 1 v F.length],.arr false 1 v (nums F++XF)];conv in zE9=>cbv
 rw[aO];by_cases hk:k=6
 ·have hk1:(k=6)=True:=by simp[hk]
  simp -implicitDefEqProofs only[oS.d,J0,J1,J2,J3,J4,J5,J6,J7,J8,↓reduceIte,reduceCtorEq,hk1];refine aM [1] hco rfl rfl rfl rfl ?_;by_cases hm:n∈F
  ·simp -implicitDefEqProofs only[oS.d,J0,J1,J2,J3,J4,J5,J6,J7,J8,↓reduceIte,reduceCtorEq,hm];apply aH [0,1];rfl;rfl;exact⟨rfl,v,F,XF,rfl,fun m=>⟨.inl,fun h=>h.elim id fun h=>h.2▸hm⟩,by omega⟩
  ·have e2:nums F++[[.int .i64 n]]=nums (F++[n])++[]:=by simp[nums]
   have e3:F.length+1=(F++[n]).length:=by simp
   simp -implicitDefEqProofs only[oS.d,J0,J1,J2,J3,J4,J5,J6,J7,J8,↓reduceIte,reduceCtorEq,hm,hcap,htk];rw[e2,e3];apply aH [0,1];rfl;rfl;refine⟨rfl,v+1,F++[n],[],rfl,fun m=>?_,by simp⟩;simp only[kt5,kv0];exact⟨fun h=>h.elim .inl fun e=>.inr ⟨hk,e.symm⟩,fun h=>h.elim .inl fun e=>.inr e.2.symm⟩
 ·have hk1:(k=6)=False:=by simp[hk]
  simp -implicitDefEqProofs only[oS.d,J0,J1,J2,J3,J4,J5,J6,J7,J8,↓reduceIte,reduceCtorEq,hk1];apply aH [0,1];rfl;rfl;exact⟨rfl,v,F,XF,rfl,fun m=>⟨.inl,fun h=>h.elim id fun h=>by first|exact h.elim|exact absurd h.1 hk⟩,by omega⟩
theorem jb5:∀(N:Nat) (t:Ty),tyn t≤N→N<100000000→∀(v:Nat) (F:List Int) (XF:List (List D)),F.length+tyn t<1000000000→
  VC kp8 305 [tyV t,.one (.fb 306 [.ptr 0 0])] (fH v F XF) fun r h'=>r = .tup []∧Fnd F (bL t) (tyn t) h'
 |0,.mk k n l,h,_,_,_,_,_=>by simp only[tyn]at h;omega
 |N+1,.mk k n l,h,hN,v,F,XF,hF=>by
  have ih:=jb5 N;have hse:=j32 v F XF k n l (by omega);simp only[tyn,mK]at h hF;have hlen:=eC (f:=tyn) (fun t=>by cases t;simp[tyn]) l;simp only[fH]at ih hse ⊢;simp only[tyV,aF,kq1,kq5]at hse ⊢;refine aU mixed jR8 (by simp) ?_;show vwp kp8 2 zE8 _ [(0,.agg [.d (.int .i64 k),.d (.int .i64 n),.d (.sl (ks8 l))]),(1,.one (.fb 306 [.ptr 0 0]))] [.box [.d (.int .i64 6),.own 1 v F.length],.arr false 1 v (nums F++XF)];conv in zE8=>cbv
  rw[aO];simp -implicitDefEqProofs only[oS.d,J0,J1,J2,J3,J4,J5,J6,J7,J8,↓reduceIte,reduceCtorEq];refine bJ [0,1] hse rfl rfl rfl ?_;rintro _ _ ⟨rfl,v1,F1,Y1,rfl,hF1,hl1⟩;simp only[fH];refine⟨_,_,rfl,?_⟩;simp -implicitDefEqProofs only[oS.d,J0,J1,J2,J3,J4,J5,J6,J7,J8,↓reduceIte,reduceCtorEq,cS];refine bE (α:=Nat×Nat×List Int×List (List D)) (fun x=>[(12,.one (.d (.int .i64 x.1))),(11,.one (.d (.int .i64 l.length))),(10,.one (.d (.sl (ks8 l)))),(1,.one (.fb 306 [.ptr 0 0]))]) (fun x=>[.box [.d (.int .i64 6),.own 1 x.2.1 x.2.2.1.length],.arr false 1 x.2.1 (nums x.2.2.1++x.2.2.2)])
   (fun x=>x.1≤l.length∧(∀m,m∈x.2.2.1↔m∈F∨(k=6∧n=m)∨∃t∈l.take x.1,bL t m)∧x.2.2.1.length≤F.length+1+aK tyn (l.take x.1)) (fun x=>l.length-x.1) (0,v1,F1,Y1)
   (aP [0,1] rfl rfl rfl rfl) ⟨kt1 _,fun m=>by simp[hF1],by simpa[aK]using hl1⟩ ?_
  rintro⟨i,v2,F2,Y2⟩ ⟨hi,h2,h3⟩;dsimp only at hi h2 h3 ⊢;have hw:=bQ (a:=i) rfl (by omega);rcases ks3 i l.length with h5|h5
  ·have hc:((i:Int)<(l.length:Int))=True:=by simp;omega
   obtain⟨u,hu⟩:=bK h5;have hg:(ks8 l)[i]?=some (aF u):=by rw[eI,ks1,hu];rfl
   have hmu:=dB (f:=tyn) (kq0 hu);have hsu:=qI (f:=tyn) hu;have hle:=oY (f:=tyn) l (i+1);have iu:=ih u (by omega) (by omega) v2 F2 Y2 (by omega);have hQ:∀m,(∃t∈l.take (i+1),bL t m)↔(∃t∈l.take i,bL t m)∨bL u m:=fun m=>by
    rw[kw0,hu];simp only[kz8,kt5,kv0];constructor
    ·rintro⟨t,a|a,b⟩
     ·exact .inl ⟨t,a,b⟩
     ·subst a;exact .inr b
    ·rintro(⟨t,a,b⟩|b)
     ·exact⟨t,.inl a,b⟩
     ·exact⟨u,.inr rfl,b⟩
   have hfe:∃R:Int→Prop,R=bL u:=⟨_,rfl⟩;obtain⟨R,hR⟩:=hfe;have hte:∃c:Nat,c=tyn u:=⟨_,rfl⟩;obtain⟨c,hcc⟩:=hte;rw[←hR,←hcc]at iu;simp only[←hR]at hQ;rw[←hcc]at hsu;obtain⟨uk,un,ul⟩:=u;simp only[tyV,aF,kq1,kq5]at iu hg;simp -implicitDefEqProofs only[oS.d,J0,J1,J2,J3,J4,J5,J6,J7,J8,↓reduceIte,reduceCtorEq,hc,hg,kq2,kq4];refine bJ [0,1] iu rfl rfl rfl ?_;rintro _ _ ⟨rfl,v3,F3,Y3,rfl,hF3,hl3⟩;simp only[fH];refine⟨_,_,rfl,?_⟩;simp -implicitDefEqProofs only[oS.d,J0,J1,J2,J3,J4,J5,J6,J7,J8,↓reduceIte,reduceCtorEq,hw];refine⟨(i+1,v3,F3,Y3),⟨by show i+1≤l.length;omega,fun m=>?_,?_⟩,by show l.length-(i+1)<l.length-i;omega,?_⟩
   ·show m∈F3↔m∈F∨_∨∃t∈l.take (i+1),bL t m;rw[hF3 m,h2 m,hQ m,or_assoc,or_assoc]
   ·show F3.length≤F.length+1+aK tyn (l.take (i+1));omega
   ·exact(aP [0,1] rfl rfl rfl rfl)
  ·have hc:((i:Int)<(l.length:Int))=False:=by simp;omega
   have hie:i=l.length:=by omega
   subst hie;rw[kv2]at h2 h3;simp -implicitDefEqProofs only[oS.d,J0,J1,J2,J3,J4,J5,J6,J7,J8,↓reduceIte,reduceCtorEq,hc];apply aH [0,1];rfl;rfl;refine⟨rfl,v2,F2,Y2,rfl,fun m=>?_,by simp only[tyn,mK];omega⟩;rw[h2 m];simp only[bL,sE,gN]
theorem j33 (t:Ty) (ht:tyn t<100000000):VC kp8 249 [tyV t] [] fun r h'=>(∃F,r = .one (.d (.sl (nums F)))∧(∀n,n∈F↔bL t n)∧F.length≤tyn t)∧h'=[]:=by
 have hw:=jb5 99999999 t (by omega) (by omega) 0 [] [] (by simp;omega);have hf:VC kp8 283 [tyV t,.one (.d (.int .i64 6))] [] fun r h'=>(∃F,r = .one (.d (.sl (nums F)))∧(∀n,n∈F↔bL t n)∧F.length≤tyn t)∧h'=[]:=by
  have hRe:∃R:Int→Prop,R=bL t:=⟨_,rfl⟩;obtain⟨R,hR⟩:=hRe;have hte:∃c:Nat,c=tyn t:=⟨_,rfl⟩;obtain⟨c,hcc⟩:=hte;rw[←hR,←hcc]at hw ⊢;obtain⟨k,n,l⟩:=t;simp only[fH]at hw;simp only[tyV,aF,kq1,kq5]at hw ⊢;refine aU mixed jR3 (by simp) ?_;show vwp kp8 0 zE3 _ [(0,.agg [.d (.int .i64 k),.d (.int .i64 n),.d (.sl (ks8 l))]),(1,.one (.d (.int .i64 6)))] [];conv in zE3=>cbv
  rw[aO];simp -implicitDefEqProofs only[oS.d,J0,J1,J2,J3,J4,J5,J6,J7,J8,↓reduceIte,reduceCtorEq,j31];refine nZ [(1,1,1)] _ [.box [.d (.int .i64 k),.d (.int .i64 n),.d (.sl (ks8 l))],.box [.d (.int .i64 6),.own 2 0 0],.arr false 1 0 []] [1,2] rfl (ko6 _) (ko1 _) hw rfl rfl rfl ?_;rintro _ _ ⟨rfl,v1,F1,Y1,rfl,hF1,hl1⟩;simp only[fH];refine⟨_,_,rfl,?_⟩;simp -implicitDefEqProofs only[oS.d,J0,J1,J2,J3,J4,J5,J6,J7,J8,↓reduceIte,reduceCtorEq];apply aH []
  ·rfl
  ·simp[fin,bO,bA,cF,bP,cW,bT,idx,dA,aG,cE,bD,aG.renLs];first|exact⟨rfl,rfl⟩|exact⟨rfl,rfl,rfl⟩
  refine⟨⟨F1,?_,fun m=>by simpa using hF1 m,by simpa using hl1⟩,rfl⟩;rw[ky0 (by rw[bU];exact ks0 _),kq6 (by rw[bU];exact ks0 _)]
 have hRe:∃R:Int→Prop,R=bL t:=⟨_,rfl⟩;obtain⟨R,hR⟩:=hRe;have hte:∃c:Nat,c=tyn t:=⟨_,rfl⟩;obtain⟨c,hcc⟩:=hte;rw[←hR,←hcc]at hf ⊢;obtain⟨k,n,l⟩:=t;simp only[tyV,aF,kq1,kq5]at hf ⊢;refine aU mixed jQ2 (by simp) ?_;show vwp kp8 0 zD4 _ [(0,.agg [.d (.int .i64 k),.d (.int .i64 n),.d (.sl (ks8 l))])] [];conv in zD4=>cbv
 rw[aO];simp -implicitDefEqProofs only[oS.d,J0,J1,J2,J3,J4,J5,J6,J7,J8,↓reduceIte,reduceCtorEq];refine bJ [] (hf) rfl rfl rfl ?_;rintro _ _ ⟨⟨F,rfl,h1,h2⟩,rfl⟩;refine⟨_,_,rfl,?_⟩;simp -implicitDefEqProofs only[oS.d,J0,J1,J2,J3,J4,J5,J6,J7,J8,↓reduceIte,reduceCtorEq];apply aH [];rfl;rfl;exact⟨⟨F,rfl,h1,h2⟩,rfl⟩
def kH (vb vf:Nat) (Bd F:List Int) (XB XF:List (List D)):aB:=[.box [.own 1 vb Bd.length,.own 2 vf F.length],.arr false 1 vb (nums Bd++XB),.arr false 1 vf (nums F++XF)]
def Ln (F G:List Int) (c:Nat):Prop:=G.length≤F.length+c∧(F.Nodup→G.Nodup)
theorem kn6 {F:List Int}:Ln F F 0:=⟨ks0 _,id⟩
theorem Ln.mono {F G:List Int} {c d:Nat} (h:Ln F G c) (hc:c≤d):Ln F G d:=⟨by have:=h.1;omega,h.2⟩
theorem Ln.trans {F G K:List Int} {c d:Nat} (h:Ln F G c) (g:Ln G K d):Ln F K (c+d):=⟨by have:=h.1;have:=g.1;omega,fun x=>g.2 (h.2 x)⟩
theorem Ln.snoc {F G:List Int} {c:Nat} {u:Int} (h:Ln F G c) (hu:u∉G):Ln F (G++[u]) (c+1):=⟨by have:=h.1;simp;omega,fun x=>List.nodup_append.2 ⟨h.2 x,by simp,fun a ha b hb=>by simp at hb;subst hb;exact fun e=>hu (e▸ha)⟩⟩
def Wk (Bd F:List Int) (Q:Int→Prop) (c:Nat) (h':aB):Prop:=∃vb XB vf F' XF,h'=kH vb vf Bd F' XB XF∧(∀n,n∈F'↔n∈F∨(Q n∧n∉Bd))∧Ln F F' c
theorem pA (F:List Int) (XF:List (List D)):(nums F++XF).take F.length=nums F:=by rw[ky0 (by rw[bU];exact ks0 _),kq6 (by rw[bU];exact ks0 _)]
theorem pB {α:Type} {p:α→Prop} {l:List α} {i:Nat} {u:α} (h:l[i]?=some u):(∃t∈l.take (i+1),p t)↔(∃t∈l.take i,p t)∨p u:=by
 rw[kw0,h];simp only[kz8,kt5,kv0];constructor
 ·rintro⟨t,a|a,b⟩
  ·exact .inl ⟨t,a,b⟩
  ·subst a;exact .inr b
 ·rintro(⟨t,a,b⟩|b)
  ·exact⟨t,.inl a,b⟩
  ·exact⟨u,.inr rfl,b⟩
theorem zK2 (vb vf:Nat) (Bd F:List Int) (XB XF:List (List D)) (t:Ty) (ht:tyn t<100000000) (hB:Bd.length<1000000000) (hF:F.length+tyn t<1000000000) :
  VC kp8 196 [.one (.ptr 0 0),tyV t] (kH vb vf Bd F XB XF) fun r h'=>r = .tup []∧Wk Bd F (bL t) (tyn t) h':=by
 have hs:=j33 t ht;have hQe:∃Q:Int→Prop,Q=bL t:=⟨_,rfl⟩;obtain⟨Q,hQ⟩:=hQe;have hce:∃c:Nat,c=tyn t:=⟨_,rfl⟩;obtain⟨c,hc⟩:=hce;rw[←hQ,←hc]at hs ⊢;rw[←hc]at ht hF;obtain⟨k,n,l⟩:=t;simp only[kH]at hs ⊢;simp only[tyV,aF,kq1,kq5]at hs ⊢;refine aU mixed jN6 (by simp) ?_;show vwp kp8 3 zA8 _ [(0,.one (.ptr 0 0)),(1,.agg [.d (.int .i64 k),.d (.int .i64 n),.d (.sl (ks8 l))])] [.box [.own 1 vb Bd.length,.own 2 vf F.length],.arr false 1 vb (nums Bd++XB),.arr false 1 vf (nums F++XF)];conv in zA8=>cbv
 rw[aO];simp -implicitDefEqProofs only[oS.d,J0,J1,J2,J3,J4,J5,J6,J7,J8,↓reduceIte,reduceCtorEq];refine bJ [] (hs) rfl rfl rfl ?_;rintro _ _ ⟨⟨L,rfl,h1,h2⟩,rfl⟩;refine⟨_,_,rfl,?_⟩;simp -implicitDefEqProofs only[oS.d,J0,J1,J2,J3,J4,J5,J6,J7,J8,↓reduceIte,reduceCtorEq,bU];refine bE (α:=Nat×Nat×List Int×List (List D)) (fun x=>[(9,.one (.d (.int .i64 x.1))),(8,.one (.d (.int .i64 L.length))),(7,.one (.d (.sl (nums L)))),(0,.one (.ptr 0 0))]) (fun x=>[.box [.own 1 vb Bd.length,.own 2 x.2.1 x.2.2.1.length],.arr false 1 vb (nums Bd++XB),.arr false 1 x.2.1 (nums x.2.2.1++x.2.2.2)])
  (fun x=>x.1≤L.length∧(∀m,m∈x.2.2.1↔m∈F∨((∃y∈L.take x.1,m=y)∧m∉Bd))∧Ln F x.2.2.1 x.1) (fun x=>L.length-x.1) (0,vf,F,XF)
  (aP [0,1,2] rfl rfl rfl rfl) ⟨kt1 _,fun m=>by simp,kn6⟩ ?_
 rintro⟨i,v,G,Y⟩ ⟨hi,g1,g2⟩;dsimp only at hi g1 g2 ⊢;have g3:=g2.1;have hw:=bQ (a:=i) rfl (by omega);rcases ks3 i L.length with h5|h5
 ·have hlt:((i:Int)<(L.length:Int))=True:=by simp;omega
  obtain⟨u,hu⟩:=bK h5;have hg:=iP hu;have c1:=zi4 vb Bd XB u hB;have c2:=zi4 v G Y u (by omega);have hcap:(G.length+1)*8≤aV∧G.length+1≤aV:=by simp[aV];omega
  have htk:=pA G Y;simp -implicitDefEqProofs only[oS.d,J0,J1,J2,J3,J4,J5,J6,J7,J8,↓reduceIte,reduceCtorEq,hlt,hg,kq2,kq4];refine aM [1] c1 rfl rfl rfl rfl ?_;by_cases hm:u∈Bd
  ·simp -implicitDefEqProofs only[oS.d,J0,J1,J2,J3,J4,J5,J6,J7,J8,↓reduceIte,reduceCtorEq,hm,hw];refine⟨(i+1,v,G,Y),⟨by show i+1≤L.length;omega,fun m=>?_,g2.mono (kL3 i)⟩,by show L.length-(i+1)<L.length-i;omega,?_⟩
   ·show m∈G↔m∈F∨((∃y∈L.take (i+1),m=y)∧m∉Bd);rw[g1 m,pB (p:=fun y=>m=y) hu];constructor
    ·rintro(a|⟨a,b⟩)
     ·exact .inl a
     ·exact .inr ⟨.inl a,b⟩
    ·rintro(a|⟨a|a,b⟩)
     ·exact .inl a
     ·exact .inr ⟨a,b⟩
     ·exact absurd hm (a▸b)
   ·exact(aP [0,1,2] rfl rfl rfl rfl)
  ·simp -implicitDefEqProofs only[oS.d,J0,J1,J2,J3,J4,J5,J6,J7,J8,↓reduceIte,reduceCtorEq,hm];refine aM [2] c2 rfl rfl rfl rfl ?_;by_cases hm2:u∈G
   ·simp -implicitDefEqProofs only[oS.d,J0,J1,J2,J3,J4,J5,J6,J7,J8,↓reduceIte,reduceCtorEq,hm2,hw];refine⟨(i+1,v,G,Y),⟨by show i+1≤L.length;omega,fun m=>?_,g2.mono (kL3 i)⟩,by show L.length-(i+1)<L.length-i;omega,?_⟩
    ·show m∈G↔m∈F∨((∃y∈L.take (i+1),m=y)∧m∉Bd);rw[pB (p:=fun y=>m=y) hu];constructor
     ·intro a;rcases(g1 m).1 a with a|⟨a,b⟩
      ·exact .inl a
      ·exact .inr ⟨.inl a,b⟩
     ·rintro(a|⟨a|a,b⟩)
      ·exact(g1 m).2 (.inl a)
      ·exact(g1 m).2 (.inr ⟨a,b⟩)
      ·exact a▸hm2
    ·exact(aP [0,1,2] rfl rfl rfl rfl)
   ·have e2:nums G++[[.int .i64 u]]=nums (G++[u])++[]:=by simp[nums]
    have e3:G.length+1=(G++[u]).length:=by simp
    simp -implicitDefEqProofs only[oS.d,J0,J1,J2,J3,J4,J5,J6,J7,J8,↓reduceIte,reduceCtorEq,hm2,hcap,htk,hw];rw[e2,e3];refine⟨(i+1,v+1,G++[u],[]),⟨by show i+1≤L.length;omega,fun m=>?_,g2.snoc hm2⟩,by show L.length-(i+1)<L.length-i;omega,?_⟩
    ·show m∈G++[u]↔m∈F∨((∃y∈L.take (i+1),m=y)∧m∉Bd);rw[pB (p:=fun y=>m=y) hu,kt5,kv0,g1 m];constructor
     ·rintro((a|⟨a,b⟩)|a)
      ·exact .inl a
      ·exact .inr ⟨.inl a,b⟩
      ·exact .inr ⟨.inr a,a▸hm⟩
     ·rintro(a|⟨a|a,b⟩)
      ·exact .inl (.inl a)
      ·exact .inl (.inr ⟨a,b⟩)
      ·exact .inr a
    ·exact(aP [0,1,2] rfl rfl rfl rfl)
 ·have hlt:((i:Int)<(L.length:Int))=False:=by simp;omega
  have hie:i=L.length:=by omega
  subst hie;rw[kv2]at g1;simp -implicitDefEqProofs only[oS.d,J0,J1,J2,J3,J4,J5,J6,J7,J8,↓reduceIte,reduceCtorEq,hlt];apply aH [0,1,2];rfl;rfl;refine⟨rfl,vb,XB,v,G,Y,rfl,fun m=>?_,g2.mono (by omega)⟩;rw[g1 m,←h1 m];constructor
  ·rintro(a|⟨⟨y,a,rfl⟩,b⟩)
   ·exact .inl a
   ·exact .inr ⟨a,b⟩
  ·rintro(a|⟨a,b⟩)
   ·exact .inl a
   ·exact .inr ⟨⟨m,a,rfl⟩,b⟩
theorem Wk.more {Bd F F1 F2:List Int} {P Q R:Int→Prop} (h1:∀m,m∈F1↔m∈F∨(P m∧m∉Bd)) (h2:∀m,m∈F2↔m∈F1∨(Q m∧m∉Bd)) (hR:∀m,R m↔P m∨Q m) (m:Int):m∈F2↔m∈F∨(R m∧m∉Bd):=by
 rw[h2 m,h1 m,hR m];constructor
 ·rintro((a|⟨a,b⟩)|⟨a,b⟩)
  ·exact .inl a
  ·exact .inr ⟨.inl a,b⟩
  ·exact .inr ⟨.inr a,b⟩
 ·rintro(a|⟨a|a,b⟩)
  ·exact .inl (.inl a)
  ·exact .inl (.inr ⟨a,b⟩)
  ·exact .inr ⟨a,b⟩
theorem j34 (vb vf:Nat) (Bd F:List Int) (XB XF:List (List D)) (l:List Ty) (ht:aK tyn l<100000000) (hB:Bd.length<1000000000) (hF:F.length+aK tyn l<1000000000) :
  VC kp8 250 [.one (.ptr 0 0),.one (.d (.sl (ks8 l)))] (kH vb vf Bd F XB XF) fun r h'=>r = .tup []∧Wk Bd F (fun m=>∃t∈l,bL t m) (aK tyn l) h':=by
 have hty:=fun u (hu:tyn u<100000000) vb vf F XB XF (hF:F.length+tyn u<1000000000)=>zK2 vb vf Bd F XB XF u hu hB hF;have hlen:=eC (f:=tyn) (fun t=>by cases t;simp[tyn]) l;simp only[kH]at hty ⊢;refine aU mixed jQ3 (by simp) ?_;show vwp kp8 3 zD5 _ [(0,.one (.ptr 0 0)),(1,.one (.d (.sl (ks8 l))))] [.box [.own 1 vb Bd.length,.own 2 vf F.length],.arr false 1 vb (nums Bd++XB),.arr false 1 vf (nums F++XF)];conv in zD5=>cbv
 rw[aO];simp -implicitDefEqProofs only[oS.d,J0,J1,J2,J3,J4,J5,J6,J7,J8,↓reduceIte,reduceCtorEq,cS];refine bE (α:=Nat×(Nat×List (List D))×Nat×List Int×List (List D)) (fun x=>[(8,.one (.d (.int .i64 x.1))),(7,.one (.d (.int .i64 l.length))),(6,.one (.d (.sl (ks8 l)))),(0,.one (.ptr 0 0))]) (fun x=>[.box [.own 1 x.2.1.1 Bd.length,.own 2 x.2.2.1 x.2.2.2.1.length],.arr false 1 x.2.1.1 (nums Bd++x.2.1.2),.arr false 1 x.2.2.1 (nums x.2.2.2.1++x.2.2.2.2)])
  (fun x=>x.1≤l.length∧(∀m,m∈x.2.2.2.1↔m∈F∨((∃t∈l.take x.1,bL t m)∧m∉Bd))∧Ln F x.2.2.2.1 (aK tyn (l.take x.1))) (fun x=>l.length-x.1) (0,(vb,XB),vf,F,XF)
  (aP [0,1,2] rfl rfl rfl rfl) ⟨kt1 _,fun m=>by simp,kn6⟩ ?_
 rintro⟨i,⟨vb1,XB1⟩,v,G,Y⟩ ⟨hi,g1,g2⟩;dsimp only at hi g1 g2 ⊢;have g3:=g2.1;have hw:=bQ (a:=i) rfl (by omega);rcases ks3 i l.length with h5|h5
 ·have hlt:((i:Int)<(l.length:Int))=True:=by simp;omega
  obtain⟨u,hu⟩:=bK h5;have hg:(ks8 l)[i]?=some (aF u):=by rw[eI,ks1,hu];rfl
  have hsu:=qI (f:=tyn) hu;have hle:=oY (f:=tyn) l (i+1);have iu:=hty u (by omega) vb1 v G XB1 Y (by omega);have hQ:=fun m=>pB (p:=fun t=>bL t m) hu;have hfe:∃R:Int→Prop,R=bL u:=⟨_,rfl⟩;obtain⟨R,hR⟩:=hfe;have hte:∃c:Nat,c=tyn u:=⟨_,rfl⟩;obtain⟨c,hcc⟩:=hte;rw[←hR,←hcc]at iu;simp only[←hR]at hQ;rw[←hcc]at hsu;obtain⟨uk,un,ul⟩:=u;simp only[tyV,aF,kq1,kq5]at iu hg;simp -implicitDefEqProofs only[oS.d,J0,J1,J2,J3,J4,J5,J6,J7,J8,↓reduceIte,reduceCtorEq,hlt,hg,kq2,kq4];refine bJ [0,1,2] iu rfl rfl rfl ?_;rintro _ _ ⟨rfl,vb3,XB3,v3,F3,Y3,rfl,hF3,hl3⟩;simp only[kH];refine⟨_,_,rfl,?_⟩;simp -implicitDefEqProofs only[oS.d,J0,J1,J2,J3,J4,J5,J6,J7,J8,↓reduceIte,reduceCtorEq,hw];refine⟨(i+1,(vb3,XB3),v3,F3,Y3),⟨by show i+1≤l.length;omega,fun m=>?_,(g2.trans hl3).mono (by show _≤aK tyn (l.take (i+1));omega)⟩,by show l.length-(i+1)<l.length-i;omega,?_⟩
  ·exact Wk.more g1 hF3 hQ m
  ·exact(aP [0,1,2] rfl rfl rfl rfl)
 ·have hlt:((i:Int)<(l.length:Int))=False:=by simp;omega
  have hie:i=l.length:=by omega
  subst hie;rw[kv2]at g1 g2;simp -implicitDefEqProofs only[oS.d,J0,J1,J2,J3,J4,J5,J6,J7,J8,↓reduceIte,reduceCtorEq,hlt];apply aH [0,1,2];rfl;rfl;exact⟨rfl,vb1,XB1,v,G,Y,rfl,g1,g2⟩
theorem j35 (vb vf:Nat) (Bd F:List Int) (XB XF:List (List D)) (l:List Ct) (ht:aK ctn l<100000000) (hB:Bd.length<1000000000) (hF:F.length+aK ctn l<1000000000) :
  VC kp8 197 [.one (.ptr 0 0),.one (.d (.sl (l.map bC)))] (kH vb vf Bd F XB XF) fun r h'=>r = .tup []∧Wk Bd F (fun m=>∃c∈l,bL.go c.args m) (aK ctn l) h':=by
 have hty:=fun u (hu:aK tyn u<100000000) vb vf F XB XF (hF:F.length+aK tyn u<1000000000)=>j34 vb vf Bd F XB XF u hu hB hF;have hlen:=eC (f:=ctn) (fun t=>by cases t;simp[ctn]) l;simp only[kH]at hty ⊢;refine aU mixed jN7 (by simp) ?_;show vwp kp8 3 zA9 _ [(0,.one (.ptr 0 0)),(1,.one (.d (.sl (l.map bC))))] [.box [.own 1 vb Bd.length,.own 2 vf F.length],.arr false 1 vb (nums Bd++XB),.arr false 1 vf (nums F++XF)];conv in zA9=>cbv
 rw[aO];simp -implicitDefEqProofs only[oS.d,J0,J1,J2,J3,J4,J5,J6,J7,J8,↓reduceIte,reduceCtorEq,kr8];refine bE (α:=Nat×(Nat×List (List D))×Nat×List Int×List (List D)) (fun x=>[(8,.one (.d (.int .i64 x.1))),(7,.one (.d (.int .i64 l.length))),(6,.one (.d (.sl (l.map bC)))),(0,.one (.ptr 0 0))]) (fun x=>[.box [.own 1 x.2.1.1 Bd.length,.own 2 x.2.2.1 x.2.2.2.1.length],.arr false 1 x.2.1.1 (nums Bd++x.2.1.2),.arr false 1 x.2.2.1 (nums x.2.2.2.1++x.2.2.2.2)])
  (fun x=>x.1≤l.length∧(∀m,m∈x.2.2.2.1↔m∈F∨((∃c∈l.take x.1,bL.go c.args m)∧m∉Bd))∧Ln F x.2.2.2.1 (aK ctn (l.take x.1))) (fun x=>l.length-x.1) (0,(vb,XB),vf,F,XF)
  (aP [0,1,2] rfl rfl rfl rfl) ⟨kt1 _,fun m=>by simp,kn6⟩ ?_
 rintro⟨i,⟨vb1,XB1⟩,v,G,Y⟩ ⟨hi,g1,g2⟩;dsimp only at hi g1 g2 ⊢;have g3:=g2.1;have hw:=bQ (a:=i) rfl (by omega);rcases ks3 i l.length with h5|h5
 ·have hlt:((i:Int)<(l.length:Int))=True:=by simp;omega
  obtain⟨u,hu⟩:=bK h5;have hg:(l.map bC)[i]?=some (bC u):=by rw[ks1,hu];rfl
  have hsu:=qI (f:=ctn) hu;have hle:=oY (f:=ctn) l (i+1);have hcu:aK tyn u.args<ctn u:=by simp only[ctn,mK];omega
  have iu:=hty u.args (by omega) vb1 v G XB1 Y (by omega);have hQ:=fun m=>pB (p:=fun(c:Ct)=>bL.go c.args m) hu;simp only[sE]at hQ;obtain⟨us,ul⟩:=u;simp only[bC]at hg;dsimp only at iu hQ hcu;simp -implicitDefEqProofs only[oS.d,J0,J1,J2,J3,J4,J5,J6,J7,J8,↓reduceIte,reduceCtorEq,hlt,hg,kq2,kq4];refine bJ [0,1,2] iu rfl rfl rfl ?_;rintro _ _ ⟨rfl,vb3,XB3,v3,F3,Y3,rfl,hF3,hl3⟩;simp only[kH];refine⟨_,_,rfl,?_⟩;simp -implicitDefEqProofs only[oS.d,J0,J1,J2,J3,J4,J5,J6,J7,J8,↓reduceIte,reduceCtorEq,hw];refine⟨(i+1,(vb3,XB3),v3,F3,Y3),⟨by show i+1≤l.length;omega,fun m=>?_,(g2.trans hl3).mono (by show _≤aK ctn (l.take (i+1));omega)⟩,by show l.length-(i+1)<l.length-i;omega,?_⟩
  ·show m∈F3↔m∈F∨((∃c∈l.take (i+1),bL.go c.args m)∧m∉Bd);refine Wk.more (R:=fun m=>∃c∈l.take (i+1),bL.go c.args m) g1 hF3 (fun m=>?_) m;simp only[sE];exact hQ m
  ·exact(aP [0,1,2] rfl rfl rfl rfl)
 ·have hlt:((i:Int)<(l.length:Int))=False:=by simp;omega
  have hie:i=l.length:=by omega
  subst hie;rw[kv2]at g1 g2;simp -implicitDefEqProofs only[oS.d,J0,J1,J2,J3,J4,J5,J6,J7,J8,↓reduceIte,reduceCtorEq,hlt];apply aH [0,1,2];rfl;rfl;exact⟨rfl,vb1,XB1,v,G,Y,rfl,g1,g2⟩
open Go.Proofs
def zR:List aC:=[aC.ops [VOp.mk (some 3) (.box 225 (.tmp 0)) none],aC.ops [VOp.mk (some 7) (.load 225 (.tmp 3)) none,VOp.mk (some 8) (.nilCheck (.tmp 7)) none,
 VOp.mk (some 9) (.fieldAddr 227 (.tmp 8) 0) none,VOp.mk (some 10) (.load 85 (.tmp 9)) none,VOp.mk (some 11) (.call (.mk (.builtin .len) #[.tmp 10] #[85])) none,VOp.mk (some 6)
 (.alloc 3) none,VOp.mk none (.store 3 (.tmp 6) (.tmp 11)) none],aC.opsW [(0,VOp.mk (some 12) (.load 225 (.tmp 3)) none),(1,VOp.mk (some 13) (.load 225 (.tmp 3)) none),(2,
 VOp.mk (some 14) (.nilCheck (.tmp 13)) none),(3,VOp.mk (some 15) (.fieldAddr 227 (.tmp 14) 0) none),(4,VOp.mk (some 16) (.load 85 (.tmp 15)) none),(5,VOp.mk (some 17) (.move
 (.tmp 1)) none),(6,VOp.mk (some 18) (.call (.mk (.builtin .append) #[.tmp 16,.tmp 17] #[85,85])) none),(7,VOp.mk (some 19) (.nilCheck (.tmp 12)) none),(8,VOp.mk (some 20)
 (.fieldAddr 227 (.tmp 19) 0) none),(9,VOp.mk none (.store 85 (.tmp 20) (.tmp 18)) none)] [(6,[0])]]
def zS:List VOp:=[VOp.mk (some 21) (.makeFunc (.func 230) #[] #[.tmp 3,.tmp 6]) none]
def zT:aC:=aC.ops [VOp.mk (some 22) (.move (.tmp 2)) none,VOp.mk (some 23) (.call (.mk (.value (.tmp 22)) #[] #[])) none]
theorem jb6:tL kp8 163 (DF.mk 24 zR zS 21 zT []):=⟨Tryz.f163,yQ 3 (aT Tryz.f163),tlC (tlN 3 (aT Tryz.f163)),zu6 (hdC (tlN 3 (aT
 Tryz.f163))),(tP (hdC (tlN 3 (aT Tryz.f163)))).dropLast,(tP (hdC (tlN 3 (aT Tryz.f163)))).getLast!,[(2,[([0,1,2,3,4,5,6,7,8,9],[(6,[0])])])],
 Tryz.func163,by kernel_rfl,by kernel_rfl,by kernel_rfl,by kernel_rfl,by kernel_rfl,by kernel_rfl,by kernel_rfl,by kernel_rfl,by kernel_rfl,by kernel_rfl,by kernel_rfl,
 by kernel_rfl,by kernel_rfl⟩
def zU:List aC:=[aC.ops [VOp.mk (some 4) (.box 201 (.tmp 0)) none],aC.ops [VOp.mk (some 10) (.load 201 (.tmp 4)) none,VOp.mk (some 11) (.nilCheck (.tmp 10)) none,
 VOp.mk (some 12) (.fieldAddr 204 (.tmp 11) 0) none,VOp.mk (some 13) (.load 85 (.tmp 12)) none,VOp.mk (some 14) (.call (.mk (.builtin .len) #[.tmp 13] #[85])) none,VOp.mk (some
 8) (.alloc 3) none,VOp.mk none (.store 3 (.tmp 8) (.tmp 14)) none],aC.ops [VOp.mk (some 15) (.load 201 (.tmp 4)) none,VOp.mk (some 16) (.nilCheck (.tmp 15)) none,VOp.mk
 (some 17) (.fieldAddr 204 (.tmp 16) 2) none,VOp.mk (some 18) (.load 202 (.tmp 17)) none,VOp.mk (some 19) (.move (.tmp 1)) none,VOp.mk (some 20) (.move (.tmp 2)) none,VOp.mk
 (some 21) (.call (.mk (.value (.tmp 18)) #[.tmp 19,.tmp 20] #[85,85])) none,VOp.mk (some 9) (.assign (.tmp 21)) none],aC.opsW [(0,VOp.mk (some 22) (.load 201 (.tmp 4))
 none),(1,VOp.mk (some 23) (.load 201 (.tmp 4)) none),(2,VOp.mk (some 24) (.load 201 (.tmp 4)) none),(3,VOp.mk (some 25) (.nilCheck (.tmp 24)) none),(4,VOp.mk (some 26)
 (.fieldAddr 204 (.tmp 25) 0) none),(5,VOp.mk (some 27) (.load 85 (.tmp 26)) none),(6,VOp.mk (some 28) (.move (.tmp 1)) none),(8,VOp.mk (some 30) (.load 201 (.tmp 4)) none),
 (9,VOp.mk (some 31) (.nilCheck (.tmp 30)) none),(10,VOp.mk (some 32) (.fieldAddr 204 (.tmp 31) 1) none),(11,VOp.mk (some 33) (.load 85 (.tmp 32)) none),(12,VOp.mk (some 34)
 (.move (.tmp 9)) none),(7,VOp.mk (some 29) (.call (.mk (.builtin .append) #[.tmp 27,.tmp 28] #[85,85])) none),(13,VOp.mk (some 35) (.call (.mk (.builtin .append) #[.tmp 33,
 .tmp 34] #[85,85])) none),(14,VOp.mk (some 36) (.nilCheck (.tmp 22)) none),(15,VOp.mk (some 37) (.fieldAddr 204 (.tmp 36) 0) none),(16,VOp.mk none (.store 85 (.tmp 37)
 (.tmp 29)) none),(17,VOp.mk (some 38) (.nilCheck (.tmp 23)) none),(18,VOp.mk (some 39) (.fieldAddr 204 (.tmp 38) 1) none),(19,VOp.mk none (.store 85 (.tmp 39) (.tmp 35))
 none)] [(7,[0,1,8,9,10,11]),(13,[0,1]),(16,[1])]]
def zV:List VOp:=[VOp.mk (some 40) (.makeFunc (.func 199) #[] #[.tmp 4,.tmp 8]) none]
def zW:aC:=aC.ops [VOp.mk (some 41) (.move (.tmp 3)) none,VOp.mk (some 42) (.move (.tmp 9)) none,VOp.mk (some 43) (.call (.mk (.value (.tmp 41)) #[.tmp 42] #[85]))
 none]
theorem jb7:tL kp8 148 (DF.mk 44 zU zV 40 zW []):=⟨Tryz.f148,yQ 4 (aT Tryz.f148),tlC (tlN 4 (aT Tryz.f148)),zu6 (hdC (tlN 4 (aT
 Tryz.f148))),(tP (hdC (tlN 4 (aT Tryz.f148)))).dropLast,(tP (hdC (tlN 4 (aT Tryz.f148)))).getLast!,[(3,[([0,1,2,3,4,5,6,8,9,10,11,12,7,13,14,15,
 16,17,18,19],[(7,[0,1,8,9,10,11]),(13,[0,1]),(16,[1])])])],Tryz.func148,by kernel_rfl,by kernel_rfl,by kernel_rfl,by kernel_rfl,by kernel_rfl,by kernel_rfl,
 by kernel_rfl,by kernel_rfl,by kernel_rfl,by kernel_rfl,by kernel_rfl,by kernel_rfl,by kernel_rfl⟩
end Go.Vt.Tryz
namespace Go.Vt
set_option linter.unusedSectionVars false
set_option linter.unusedVariables false
variable [cJ]
variable {P:Program}
def oI:List aC→aC→aC
 |[],c=>c
 |a::r,c=>.seq a (oI r c)
def j36 (P:Program) (n:Nat) (x:DF) (Post:V→aB→Prop) (T:Sl) (h:aB):Prop:=∃g caps,T.lookup x.slot=some (.one (.fn g caps))∧
 vwp P h.length x.rest (fun e T2 h2=>(∀k,e≠.exit k)∧caps.all (dX h2)=true∧∃Pd,VCD P g (caps.map .one) h2 Pd∧∀h3,Pd h3→oW P n x.rs Post .ret T2 h3) T h
def jb8 (P:Program) (n:Nat) (x:DF) (Post:V→aB→Prop):VX→Sl→aB→Prop
 |.normal=>j36 P n x Post
 |_=>fun _ _=>False
theorem jb9 {n:Nat} {K:Sl→aB→Prop} {os:List VOp} {G:VX→Sl→aB→Prop} (hG:∀e T h,G e T h→e = .normal) (hK:∀T h,G .normal T h→K T h):∀{cs:List aC} {T:Sl} {h:aB},vwp P n (oI cs (.ops os)) G T h→tK P n cs (fun T h=>nX P os T h K) T h
 |[],T,h,hv=>xX (fun T h=>hK T h) hv
 |c::r,T,h,hv=>by
  unfold tK;refine nD (c:=c) (fun e T h hv=>?_) hv;cases e with
  |normal=>exact jb9 hG hK hv
  |exit id=>have:=hG _ _ _ hv;cases this
  |ret=>have:=hG _ _ _ hv;cases this
theorem zi5 {f:FuncId} {x:DF} {avs:List V} {hs:aB} {Post:V→aB→Prop} (hm:P.follows .mixedOrders=true) (hx:tL P f x) (hlen:avs.length≤x.N) (hv:vwp P hs.length (oI x.pre (.ops x.ops)) (jb8 P hs.length x Post) (prm 0 avs) hs):VC P f avs hs Post:=by
 obtain⟨fn,As,B,id,ops0,od,sg,e1,e2,e3,e4,e5,e6,e7,e8,e9,e10,e11,e12,e13,e14⟩:=hx.fn;refine zZ1 hm e1 e2 e3 e4 e5 e6 e7 e8 e9 (by rw[e10];exact hlen) ?_;rw[e12,e13,e14,e11];refine jb9 (G:=jb8 P hs.length x Post) (fun e T h hv=>?_) (fun T h hv=>hv) hv;cases e with
 |normal=>rfl
 |exit id=>exact hv.elim
 |ret=>exact hv.elim
theorem zi6 {f:FuncId} {N:Nat} {vc:aC} {rs:List ResultVar} {avs:List V} {hs:aB} {Post:aB→Prop} (hm:P.follows .mixedOrders=true) (hF:aJ P f N vc rs) (hp:nH vc=true) (hlen:avs.length≤N)
  (hv:vwp P hs.length vc (oW P hs.length rs fun _ h'=>Post h') (prm 0 avs) hs):VCD P f avs hs Post:=by
 obtain⟨fn,c,sg,h1,h2,h3,h4,h5,h6,h7⟩:=hF.fn;subst h3;subst h4;subst h7;exact zY8 hm h1 h2 h5 (zZ3 c h6 hp) hlen hv
end Go.Vt
namespace Go.Vt.Tryz
open Go.Proofs Go.Vt.Al
def kB (vb vf:Nat) (Bd F:List Int) (XB XF:List (List D)) (X:List L):aB:=[.box [.own 1 vb Bd.length,.own 2 vf F.length],.arr false 1 vb (nums Bd++XB),.arr false 1 vf (nums F++XF),.box [.ptr 0 0],.box X]
theorem j37 (vb vf:Nat) (Bd own F:List Int) (XB XF:List (List D)) (a0 a1 a2 a3 a4 a5:D) :
  VCD kp8 230 [.one (.ptr 5 0),.one (.ptr 6 0)] (kB vb vf (Bd++own) F XB XF [.d a0,.d a1,.d a2,.d a3,.d a4,.d a5]++[.box [.ptr 0 0],.box [.d (.int .i64 Bd.length)]]) fun h'=>h'=kB vb vf Bd F (nums own++XB) XF [.d a0,.d a1,.d a2,.d a3,.d a4,.d a5]++[.box [.ptr 0 0],.box [.d (.int .i64 Bd.length)]]:=by
 have e1:nums (Bd++own)++XB=nums Bd++(nums own++XB):=by simp[nums]
 simp only[kB,e1];refine zi6 mixed z50 (by kernel_rfl) (by simp) ?_;show vwp kp8 7 zD _ [(0,.one (.ptr 5 0)),(1,.one (.ptr 6 0))] _;conv in zD=>cbv
 have h1:Bd.length≤(Bd++own).length:=by simp
 rw[aO];simp -implicitDefEqProofs only[oS.d,J0,J1,J2,J3,J4,J5,J6,J7,J8,↓reduceIte,reduceCtorEq,h1,kq2,kq4];apply aH [0,1,2,3,4,5,6];rfl;rfl;rfl
theorem j38 {g:FuncId} (a0 a1 a2 a3 a4 a5:D) (Bd own:List Int) (Q:Int→Prop) (c:Nat) (hB:Bd.length+own.length<1000000000)
  (hdo:∀(vb vf:Nat) (F:List Int) (XB XF:List (List D)),F.length+c<1000000000→VC kp8 g [.one (.ptr 3 0),.one (.ptr 4 0)] (kB vb vf (Bd++own) F XB XF [.d a0,.d a1,.d a2,.d a3,.d a4,.d a5]) fun r h'=>r = .tup []∧∃vb vf F' XB XF,h'=kB vb vf (Bd++own) F' XB XF [.d a0,.d a1,.d a2,.d a3,.d a4,.d a5]∧(∀n,n∈F'↔n∈F∨(Q n∧n∉Bd++own))∧Ln F F' c)
  (vb vf:Nat) (F:List Int) (XB XF:List (List D)) (hF:F.length+c<1000000000) :
  VC kp8 163 [.one (.ptr 0 0),.one (.d (.sl (nums own))),.one (.fn g [.ptr 3 0,.ptr 4 0])] (kB vb vf Bd F XB XF [.d a0,.d a1,.d a2,.d a3,.d a4,.d a5]) fun r h'=>r = .tup []∧∃vb vf F' XB XF,h'=kB vb vf Bd F' XB XF [.d a0,.d a1,.d a2,.d a3,.d a4,.d a5]∧(∀n,n∈F'↔n∈F∨((Q n∧n∉own)∧n∉Bd))∧Ln F F' c:=by
 have hdo:=hdo (vb+1) vf F [] XF hF;simp only[kB,ku3]at hdo ⊢;have hcap:(Bd.length+own.length)*8≤aV∧Bd.length+own.length≤aV:=by simp[aV];omega
 have htk:=pA Bd XB;have e1:nums Bd++nums own=nums (Bd++own):=by simp[nums]
 have hal:((nums own).all fun e=>e.length == 1)=true:=by simp[nums]
 have e2:Bd.length+own.length=(Bd++own).length:=by simp
 refine zi5 mixed jb6 (by simp) ?_;show vwp kp8 5 (oI zR (.ops zS)) _ [(0,.one (.ptr 0 0)),(1,.one (.d (.sl (nums own)))),(2,.one (.fn g [.ptr 3 0,.ptr 4 0]))] _;simp only[zR,zS,oI];rw[aO];simp -implicitDefEqProofs only[oS.d,J0,J1,J2,J3,J4,J5,J6,J7,J8,↓reduceIte,reduceCtorEq,hcap,htk,hal,bU];refine⟨_,_,rfl,?_⟩;rw[e1,e2];show vwp kp8 7 zT _ _ _;unfold zT;rw[aO];simp -implicitDefEqProofs only[oS.d,J0,J1,J2,J3,J4,J5,J6,J7,J8,↓reduceIte,reduceCtorEq];refine bJ [0,1,2,3,4] hdo rfl rfl rfl ?_;rintro _ _ ⟨rfl,vb1,vf1,F1,XB1,XF1,rfl,h1,h2⟩;refine⟨_,_,rfl,?_⟩;simp -implicitDefEqProofs only[oS.d,J0,J1,J2,J3,J4,J5,J6,J7,J8,↓reduceIte,reduceCtorEq];refine⟨_,j37 vb1 vf1 Bd own F1 XB1 XF1 a0 a1 a2 a3 a4 a5,?_⟩;rintro _ rfl;simp only[kB,kr0,kr2];apply aH [0,1,2,3,4];rfl;rfl;refine⟨rfl,vb1,vf1,F1,nums own++XB1,XF1,rfl,fun n=>?_,h2⟩;rw[h1 n];simp only[kt5,not_or];constructor
 ·rintro(a|⟨a,b,d⟩)
  ·exact .inl a
  ·exact .inr ⟨⟨a,d⟩,b⟩
 ·rintro(a|⟨⟨a,d⟩,b⟩)
  ·exact .inl a
  ·exact .inr ⟨a,b,d⟩
theorem j39 (vb vf:Nat) (Bd own F:List Int) (XB XF:List (List D)) (a0 a1 a2 a3 a4 a5 a6 a7 a8 a9 a10 a11:D) :
  VCD kp8 230 [.one (.ptr 5 0),.one (.ptr 6 0)] (kB vb vf (Bd++own) F XB XF [.d a0,.d a1,.d a2,.d a3,.d a4,.d a5,.d a6,.d a7,.d a8,.d a9,.d a10,.d a11]++[.box [.ptr 0 0],.box [.d (.int .i64 Bd.length)]]) fun h'=>h'=kB vb vf Bd F (nums own++XB) XF [.d a0,.d a1,.d a2,.d a3,.d a4,.d a5,.d a6,.d a7,.d a8,.d a9,.d a10,.d a11]++[.box [.ptr 0 0],.box [.d (.int .i64 Bd.length)]]:=by
 have e1:nums (Bd++own)++XB=nums Bd++(nums own++XB):=by simp[nums]
 simp only[kB,e1];refine zi6 mixed z50 (by kernel_rfl) (by simp) ?_;show vwp kp8 7 zD _ [(0,.one (.ptr 5 0)),(1,.one (.ptr 6 0))] _;conv in zD=>cbv
 have h1:Bd.length≤(Bd++own).length:=by simp
 rw[aO];simp -implicitDefEqProofs only[oS.d,J0,J1,J2,J3,J4,J5,J6,J7,J8,↓reduceIte,reduceCtorEq,h1,kq2,kq4];apply aH [0,1,2,3,4,5,6];rfl;rfl;rfl
theorem j40 {g:FuncId} (a0 a1 a2 a3 a4 a5 a6 a7 a8 a9 a10 a11:D) (Bd own:List Int) (Q:Int→Prop) (c:Nat) (hB:Bd.length+own.length<1000000000)
  (hdo:∀(vb vf:Nat) (F:List Int) (XB XF:List (List D)),F.length+c<1000000000→VC kp8 g [.one (.ptr 3 0),.one (.ptr 4 0)] (kB vb vf (Bd++own) F XB XF [.d a0,.d a1,.d a2,.d a3,.d a4,.d a5,.d a6,.d a7,.d a8,.d a9,.d a10,.d a11]) fun r h'=>r = .tup []∧∃vb vf F' XB XF,h'=kB vb vf (Bd++own) F' XB XF [.d a0,.d a1,.d a2,.d a3,.d a4,.d a5,.d a6,.d a7,.d a8,.d a9,.d a10,.d a11]∧(∀n,n∈F'↔n∈F∨(Q n∧n∉Bd++own))∧Ln F F' c)
  (vb vf:Nat) (F:List Int) (XB XF:List (List D)) (hF:F.length+c<1000000000) :
  VC kp8 163 [.one (.ptr 0 0),.one (.d (.sl (nums own))),.one (.fn g [.ptr 3 0,.ptr 4 0])] (kB vb vf Bd F XB XF [.d a0,.d a1,.d a2,.d a3,.d a4,.d a5,.d a6,.d a7,.d a8,.d a9,.d a10,.d a11]) fun r h'=>r = .tup []∧∃vb vf F' XB XF,h'=kB vb vf Bd F' XB XF [.d a0,.d a1,.d a2,.d a3,.d a4,.d a5,.d a6,.d a7,.d a8,.d a9,.d a10,.d a11]∧(∀n,n∈F'↔n∈F∨((Q n∧n∉own)∧n∉Bd))∧Ln F F' c:=by
 have hdo:=hdo (vb+1) vf F [] XF hF;simp only[kB,ku3]at hdo ⊢;have hcap:(Bd.length+own.length)*8≤aV∧Bd.length+own.length≤aV:=by simp[aV];omega
 have htk:=pA Bd XB;have e1:nums Bd++nums own=nums (Bd++own):=by simp[nums]
 have hal:((nums own).all fun e=>e.length == 1)=true:=by simp[nums]
 have e2:Bd.length+own.length=(Bd++own).length:=by simp
 refine zi5 mixed jb6 (by simp) ?_;show vwp kp8 5 (oI zR (.ops zS)) _ [(0,.one (.ptr 0 0)),(1,.one (.d (.sl (nums own)))),(2,.one (.fn g [.ptr 3 0,.ptr 4 0]))] _;simp only[zR,zS,oI];rw[aO];simp -implicitDefEqProofs only[oS.d,J0,J1,J2,J3,J4,J5,J6,J7,J8,↓reduceIte,reduceCtorEq,hcap,htk,hal,bU];refine⟨_,_,rfl,?_⟩;rw[e1,e2];show vwp kp8 7 zT _ _ _;unfold zT;rw[aO];simp -implicitDefEqProofs only[oS.d,J0,J1,J2,J3,J4,J5,J6,J7,J8,↓reduceIte,reduceCtorEq];refine bJ [0,1,2,3,4] hdo rfl rfl rfl ?_;rintro _ _ ⟨rfl,vb1,vf1,F1,XB1,XF1,rfl,h1,h2⟩;refine⟨_,_,rfl,?_⟩;simp -implicitDefEqProofs only[oS.d,J0,J1,J2,J3,J4,J5,J6,J7,J8,↓reduceIte,reduceCtorEq];refine⟨_,j39 vb1 vf1 Bd own F1 XB1 XF1 a0 a1 a2 a3 a4 a5 a6 a7 a8 a9 a10 a11,?_⟩;rintro _ rfl;simp only[kB,kr0,kr2];apply aH [0,1,2,3,4];rfl;rfl;refine⟨rfl,vb1,vf1,F1,nums own++XB1,XF1,rfl,fun n=>?_,h2⟩;rw[h1 n];simp only[kt5,not_or];constructor
 ·rintro(a|⟨a,b,d⟩)
  ·exact .inl a
  ·exact .inr ⟨⟨a,d⟩,b⟩
 ·rintro(a|⟨⟨a,d⟩,b⟩)
  ·exact .inl a
  ·exact .inr ⟨a,b,d⟩
def SW (x:Stx) (Bd:List Int):Prop:=∀(vb vf:Nat) (F:List Int) (XB XF:List (List D)),F.length+stn x<1000000000→VC kp8 147 [.one (.ptr 0 0),stW x] (kH vb vf Bd F XB XF) fun r h'=>r = .tup []∧Wk Bd F (aL x) (stn x) h'
theorem zi7 {y:Stx} {q Bd:List Int} (H:SW y (Bd++q)) (hB:Bd.length+q.length<1000000000) (vb vf:Nat) (F:List Int) (XB XF:List (List D)) (hF:F.length+stn y<1000000000) :
  VC kp8 110 [.one (.ptr 0 0),abW q y] (kH vb vf Bd F XB XF) fun r h'=>r = .tup []∧Wk Bd F (fun n=>aL y n∧n∉q) (stn y) h':=by
 have hQe:∃Q:Int→Prop,Q=aL y:=⟨_,rfl⟩;obtain⟨Q,hQ⟩:=hQe;have hce:∃c:Nat,c=stn y:=⟨_,rfl⟩;obtain⟨Qc,hQc⟩:=hce;unfold SW at H;rw[←hQ,←hQc]at H ⊢;rw[←hQc]at hF;obtain⟨y1,y2,y3,y4,y5⟩:=y;have hdo:∀(vb vf:Nat) (F:List Int) (XB XF:List (List D)),F.length+Qc<1000000000→VC kp8 164 [.one (.ptr 3 0),.one (.ptr 4 0)] (kB vb vf (Bd++q) F XB XF [.d (.sl (nums q)),.d (.sl (y1.map aD)),.d (.sl (y2.map aE)),.d (.sl (kq7 y3)),.d (.sl (kq8 y4)),.d (.sl (kq9 y5))]) fun r h'=>r = .tup []∧∃vb vf F' XB XF,h'=kB vb vf (Bd++q) F' XB XF [.d (.sl (nums q)),.d (.sl (y1.map aD)),.d (.sl (y2.map aE)),.d (.sl (kq7 y3)),.d (.sl (kq8 y4)),.d (.sl (kq9 y5))]∧(∀n,n∈F'↔n∈F∨(Q n∧n∉Bd++q))∧Ln F F' Qc:=by
  intro vb vf F XB XF hF;have h1:=H vb vf F XB XF hF;simp only[stW,aA,kq1,kq5,kH,kB]at h1 ⊢;refine aU mixed jN1 (by simp) ?_;show vwp kp8 5 zA2 _ [(0,.one (.ptr 3 0)),(1,.one (.ptr 4 0))] [.box [.own 1 vb (Bd++q).length,.own 2 vf F.length],.arr false 1 vb (nums (Bd++q)++XB),.arr false 1 vf (nums F++XF),.box [.ptr 0 0],.box [.d (.sl (nums q)),.d (.sl (y1.map aD)),.d (.sl (y2.map aE)),.d (.sl (kq7 y3)),.d (.sl (kq8 y4)),.d (.sl (kq9 y5))]];conv in zA2=>cbv
  rw[aO];simp -implicitDefEqProofs only[oS.d,J0,J1,J2,J3,J4,J5,J6,J7,J8,↓reduceIte,reduceCtorEq];refine bJ [0,1,2] h1 rfl rfl rfl ?_;rintro _ _ ⟨rfl,v3,X3,v4,F4,X4,rfl,h2,h3⟩;simp only[kH];refine⟨_,_,rfl,?_⟩;simp -implicitDefEqProofs only[oS.d,J0,J1,J2,J3,J4,J5,J6,J7,J8,↓reduceIte,reduceCtorEq];apply aH [0,1,2,3,4];rfl;rfl;exact⟨rfl,v3,v4,F4,X3,X4,rfl,h2,h3⟩
 have hu:=j38 (g:=164) (.sl (nums q)) (.sl (y1.map aD)) (.sl (y2.map aE)) (.sl (kq7 y3)) (.sl (kq8 y4)) (.sl (kq9 y5)) Bd q Q Qc hB hdo vb vf F XB XF hF;simp only[abW,aA,kq1,kq5,kH,kB]at hu ⊢;refine aU mixed jL0 (by simp) ?_;show vwp kp8 3 zy1 _ [(0,.one (.ptr 0 0)),(1,.agg [.d (.sl (nums q)),.d (.sl (y1.map aD)),.d (.sl (y2.map aE)),.d (.sl (kq7 y3)),.d (.sl (kq8 y4)),.d (.sl (kq9 y5))])] [.box [.own 1 vb Bd.length,.own 2 vf F.length],.arr false 1 vb (nums Bd++XB),.arr false 1 vf (nums F++XF)];conv in zy1=>cbv
 rw[aO];simp -implicitDefEqProofs only[oS.d,J0,J1,J2,J3,J4,J5,J6,J7,J8,↓reduceIte,reduceCtorEq];refine bJ [0,1,2,3,4] hu rfl rfl rfl ?_;rintro _ _ ⟨rfl,v3,v4,F4,X3,X4,rfl,h2,h3⟩;refine⟨_,_,rfl,?_⟩;simp -implicitDefEqProofs only[oS.d,J0,J1,J2,J3,J4,J5,J6,J7,J8,↓reduceIte,reduceCtorEq];apply aH [0,1,2];rfl;rfl;exact⟨rfl,v3,X3,v4,F4,X4,rfl,h2,h3⟩
theorem j41 {x y:Stx} {p q Bd:List Int} (Hx:SW x (Bd++p)) (Hy:SW y ((Bd++p)++q)) (hB:Bd.length+p.length+q.length<1000000000) (vb vf:Nat) (F:List Int) (XB XF:List (List D)) (hF:F.length+stn x+stn y<1000000000) :
  VC kp8 198 [.one (.ptr 0 0),.agg (.d (.sl (nums p))::(aA x).map .d++.d (.sl (nums q))::(aA y).map .d)] (kH vb vf Bd F XB XF) fun r h'=>r = .tup []∧Wk Bd F (fun n=>n∉p∧(aL x n∨(n∉q∧aL y n))) (stn x+stn y) h':=by
 have Hr:=fun vb vf F XB XF hF=>zi7 Hy (by simp;omega) vb vf F XB XF hF;unfold SW at Hx;have hQe:∃Q:Int→Prop,Q=aL x:=⟨_,rfl⟩;obtain⟨R,hR⟩:=hQe;have hce:∃c:Nat,c=stn x:=⟨_,rfl⟩;obtain⟨Rc,hRc⟩:=hce;have hQe:∃Q:Int→Prop,Q=aL y:=⟨_,rfl⟩;obtain⟨Q,hQ⟩:=hQe;have hce:∃c:Nat,c=stn y:=⟨_,rfl⟩;obtain⟨Qc,hQc⟩:=hce;rw[←hR,←hRc]at Hx;rw[←hQ,←hQc]at Hr;rw[←hQ,←hQc,←hR,←hRc];rw[←hQc,←hRc]at hF;clear Hy;obtain⟨y1,y2,y3,y4,y5⟩:=y;obtain⟨x1,x2,x3,x4,x5⟩:=x;have hdo:∀(vb vf:Nat) (F:List Int) (XB XF:List (List D)),F.length+(Rc+Qc)<1000000000→VC kp8 251 [.one (.ptr 3 0),.one (.ptr 4 0)] (kB vb vf (Bd++p) F XB XF [.d (.sl (nums p)),.d (.sl (x1.map aD)),.d (.sl (x2.map aE)),.d (.sl (kq7 x3)),.d (.sl (kq8 x4)),.d (.sl (kq9 x5)),.d (.sl (nums q)),.d (.sl (y1.map aD)),.d (.sl (y2.map aE)),.d (.sl (kq7 y3)),.d (.sl (kq8 y4)),.d (.sl (kq9 y5))]) fun r h'=>r = .tup []∧∃vb vf F' XB XF,h'=kB vb vf (Bd++p) F' XB XF [.d (.sl (nums p)),.d (.sl (x1.map aD)),.d (.sl (x2.map aE)),.d (.sl (kq7 x3)),.d (.sl (kq8 x4)),.d (.sl (kq9 x5)),.d (.sl (nums q)),.d (.sl (y1.map aD)),.d (.sl (y2.map aE)),.d (.sl (kq7 y3)),.d (.sl (kq8 y4)),.d (.sl (kq9 y5))]∧(∀n,n∈F'↔n∈F∨((R n∨(Q n∧n∉q))∧n∉Bd++p))∧Ln F F' (Rc+Qc):=by
  intro vb vf F XB XF hF;have h1:=Hx vb vf F XB XF (by omega);simp only[stW,abW,aA,kq1,kq5,kH,kB]at h1 Hr ⊢;refine aU mixed jQ4 (by simp) ?_;show vwp kp8 5 zD6 _ [(0,.one (.ptr 3 0)),(1,.one (.ptr 4 0))] [.box [.own 1 vb (Bd++p).length,.own 2 vf F.length],.arr false 1 vb (nums (Bd++p)++XB),.arr false 1 vf (nums F++XF),.box [.ptr 0 0],.box [.d (.sl (nums p)),.d (.sl (x1.map aD)),.d (.sl (x2.map aE)),.d (.sl (kq7 x3)),.d (.sl (kq8 x4)),.d (.sl (kq9 x5)),.d (.sl (nums q)),.d (.sl (y1.map aD)),.d (.sl (y2.map aE)),.d (.sl (kq7 y3)),.d (.sl (kq8 y4)),.d (.sl (kq9 y5))]];conv in zD6=>cbv
  rw[aO];simp -implicitDefEqProofs only[oS.d,J0,J1,J2,J3,J4,J5,J6,J7,J8,↓reduceIte,reduceCtorEq];refine bJ [0,1,2] h1 rfl rfl rfl ?_;rintro _ _ ⟨rfl,v3,X3,v4,F4,X4,rfl,h2,h3⟩;simp only[kH];refine⟨_,_,rfl,?_⟩;simp -implicitDefEqProofs only[oS.d,J0,J1,J2,J3,J4,J5,J6,J7,J8,↓reduceIte,reduceCtorEq];refine bJ [0,1,2] (Hr v3 v4 F4 X3 X4 (by have:=h3.1;omega)) rfl rfl rfl ?_;rintro _ _ ⟨rfl,v5,X5,v6,F6,X6,rfl,h4,h5⟩;simp only[kH];refine⟨_,_,rfl,?_⟩;simp -implicitDefEqProofs only[oS.d,J0,J1,J2,J3,J4,J5,J6,J7,J8,↓reduceIte,reduceCtorEq];apply aH [0,1,2,3,4];rfl;rfl;exact⟨rfl,v5,v6,F6,X5,X6,rfl,Wk.more (P:=R) (Q:=fun n=>Q n∧n∉q) (R:=fun n=>R n∨(Q n∧n∉q)) h2 h4 (fun m=>Iff.rfl),h3.trans h5⟩
 have hu:=j40 (g:=251) (.sl (nums p)) (.sl (x1.map aD)) (.sl (x2.map aE)) (.sl (kq7 x3)) (.sl (kq8 x4)) (.sl (kq9 x5)) (.sl (nums q)) (.sl (y1.map aD)) (.sl (y2.map aE)) (.sl (kq7 y3)) (.sl (kq8 y4)) (.sl (kq9 y5)) Bd p (fun n=>R n∨(Q n∧n∉q)) (Rc+Qc) (by omega) hdo vb vf F XB XF (by omega);simp only[aA,kq1,kq5,kr0,kr2,kH,kB]at hu ⊢;refine aU mixed jN8 (by simp) ?_;show vwp kp8 3 zB0 _ [(0,.one (.ptr 0 0)),(1,.agg [.d (.sl (nums p)),.d (.sl (x1.map aD)),.d (.sl (x2.map aE)),.d (.sl (kq7 x3)),.d (.sl (kq8 x4)),.d (.sl (kq9 x5)),.d (.sl (nums q)),.d (.sl (y1.map aD)),.d (.sl (y2.map aE)),.d (.sl (kq7 y3)),.d (.sl (kq8 y4)),.d (.sl (kq9 y5))])] [.box [.own 1 vb Bd.length,.own 2 vf F.length],.arr false 1 vb (nums Bd++XB),.arr false 1 vf (nums F++XF)];conv in zB0=>cbv
 rw[aO];simp -implicitDefEqProofs only[oS.d,J0,J1,J2,J3,J4,J5,J6,J7,J8,↓reduceIte,reduceCtorEq];refine bJ [0,1,2,3,4] hu rfl rfl rfl ?_;rintro _ _ ⟨rfl,v3,v4,F4,X3,X4,rfl,h2,h3⟩;refine⟨_,_,rfl,?_⟩;simp -implicitDefEqProofs only[oS.d,J0,J1,J2,J3,J4,J5,J6,J7,J8,↓reduceIte,reduceCtorEq];apply aH [0,1,2];rfl;rfl;refine⟨rfl,v3,X3,v4,F4,X4,rfl,fun m=>?_,h3⟩;rw[h2 m];constructor
 ·rintro(a|⟨⟨a|⟨a,b⟩,d⟩,e⟩)
  ·exact .inl a
  ·exact .inr ⟨⟨d,.inl a⟩,e⟩
  ·exact .inr ⟨⟨d,.inr ⟨b,a⟩⟩,e⟩
 ·rintro(a|⟨⟨d,a|⟨b,a⟩⟩,e⟩)
  ·exact .inl a
  ·exact .inr ⟨⟨.inl a,d⟩,e⟩
  ·exact .inr ⟨⟨.inr ⟨a,b⟩,d⟩,e⟩
theorem uA {m:Int}:∀{l:List (ByteArray×Stx)},aL.goS l m↔∃a∈l,aL a.2 m
 |[]=>by simp[aL.goS]
 |(s,x)::r=>by simp[aL.goS,uA (l:=r)]
theorem uB {m:Int}:∀{l:List (ByteArray×List Int×Stx×List Int×Stx)},aL.goF l m↔∃a∈l,(m∉a.2.1∧(aL a.2.2.1 m∨(m∉a.2.2.2.1∧aL a.2.2.2.2 m)))
 |[]=>by simp[aL.goF]
 |(s,p,x,q,y)::r=>by simp[aL.goF,uB (l:=r)]
theorem uC {m:Int}:∀{l:List (ByteArray×List Int×Stx)},aL.goG l m↔∃a∈l,(m∉a.2.1∧aL a.2.2 m)
 |[]=>by simp[aL.goG]
 |(s,q,y)::r=>by simp[aL.goG,uC (l:=r)]
theorem zi8:∀(x:Stx) (Bd:List Int),stn x<100000000→Bd.length+stn x<1000000000→SW x Bd:=by
 intro x;induction x using Stx.ind with
 |h x1 x2 x3 x4 x5 i3 i4 i5=>
 intro Bd hs hB vb vf F XB XF hF;have hsz:=zg6 (x:=.mk x1 x2 x3 x4 x5) (Nat.le_of_lt hs);simp only[Stx.subs,Stx.vals,Stx.types,Stx.funs,Stx.sigs]at hsz;obtain⟨z3,z2,z1,z4,z5⟩:=hsz;simp only[stn,qB,qC,qD]at hs hB hF;have l3:=kJ x3;have l4:=lT x4;have l5:=lU x5;have fv:∀m,aL (.mk x1 x2 x3 x4 x5) m↔((((∃a∈x1,mO a m)∨(∃a∈x2,bL a.s.t m))∨(∃a∈x3,aL a.2 m))∨(∃a∈x4,(m∉a.2.1∧(aL a.2.2.1 m∨(m∉a.2.2.2.1∧aL a.2.2.2.2 m)))))∨(∃a∈x5,(m∉a.2.1∧aL a.2.2 m)):=fun m=>by
  simp only[aL,uA,uB,uC,or_assoc]
 have hte:∃c:Nat,c=stn (.mk x1 x2 x3 x4 x5):=⟨_,rfl⟩;obtain⟨sc,hsc⟩:=hte;have hfe:∃Q:Int→Prop,Q=aL (.mk x1 x2 x3 x4 x5):=⟨_,rfl⟩;obtain⟨SQ,hSQ⟩:=hfe;rw[←hsc,←hSQ];simp only[←hSQ]at fv;clear hSQ;simp only[stn,qB,qC,qD]at hsc;simp only[stW,aA,kq1,kq5,kH];refine aU mixed jM1 (by simp) ?_;show vwp kp8 3 zz2 _ [(0,.one (.ptr 0 0)),(1,.agg [.d (.sl (x1.map aD)),.d (.sl (x2.map aE)),.d (.sl (kq7 x3)),.d (.sl (kq8 x4)),.d (.sl (kq9 x5))])] [.box [.own 1 vb Bd.length,.own 2 vf F.length],.arr false 1 vb (nums Bd++XB),.arr false 1 vf (nums F++XF)];conv in zz2=>cbv
 rw[aO];simp -implicitDefEqProofs only[oS.d,J0,J1,J2,J3,J4,J5,J6,J7,J8,↓reduceIte,reduceCtorEq,kr8,l3,l4,l5];refine bE (α:=Nat×(Nat×List (List D))×Nat×List Int×List (List D)) (fun x=>[(17,.one (.d (.int .i64 x.1))),(16,.one (.d (.int .i64 x1.length))),(15,.one (.d (.sl (x1.map aD)))),(3,.one (.ptr 3 0)),(0,.one (.ptr 0 0))]) (fun x=>[.box [.own 1 x.2.1.1 Bd.length,.own 2 x.2.2.1 x.2.2.2.1.length],.arr false 1 x.2.1.1 (nums Bd++x.2.1.2),.arr false 1 x.2.2.1 (nums x.2.2.2.1++x.2.2.2.2),.box [.d (.sl (x1.map aD)),.d (.sl (x2.map aE)),.d (.sl (kq7 x3)),.d (.sl (kq8 x4)),.d (.sl (kq9 x5))]])
  (fun x=>x.1≤x1.length∧(∀m,m∈x.2.2.2.1↔m∈F∨((∃a∈x1.take x.1,mO a m)∧m∉Bd))∧Ln F x.2.2.2.1 (aK dC (x1.take x.1))) (fun x=>x1.length-x.1) (0,(vb,XB),vf,F,XF)
  (aP [0,1,2,3] rfl rfl rfl rfl) ⟨kt1 _,fun m=>by simp,kn6⟩ ?_
 rintro⟨i,⟨v0,X0⟩,w0,F0,Y0⟩ ⟨hi,g0,b0⟩;dsimp only at hi g0 b0 ⊢;have c0:=b0.1;have hw:=bQ (a:=i) rfl (by omega);rcases ks3 i x1.length with h5|h5
 ·have hlt:((i:Int)<(x1.length:Int))=True:=by simp;omega
  obtain⟨u,hu⟩:=bK h5;have hsu:=qI (f:=dC) hu;have hle:=oY (f:=dC) x1 (i+1);have hQ:=fun m=>pB (p:=fun a=>mO a m) hu;have hmem:=kq0 hu;have hmu:=dB (f:=dC) hmem;have hcu:dC u=1+tyn u.t+aK ctn u.cts:=rfl;have t1:=fun vb vf F XB XF hF=>zK2 vb vf Bd F XB XF u.t (by omega) (by omega) hF;have t2:=fun vb vf F XB XF hF=>j35 vb vf Bd F XB XF u.cts (by omega) (by omega) hF;have e1:∃P:Int→Prop,P=mO u:=⟨_,rfl⟩;obtain⟨P,hP⟩:=e1;have hPu:∀m,P m↔bL u.t m∨∃c∈u.cts,bL.go c.args m:=fun m=>by rw[hP];rfl
  simp only[←hP]at hQ;have e2:∃c:Nat,c=tyn u.t:=⟨_,rfl⟩;obtain⟨tc,htc⟩:=e2;have e3:∃P:Int→Prop,P=bL u.t:=⟨_,rfl⟩;obtain⟨P1,hP1⟩:=e3;simp only[←htc,←hP1]at t1;simp only[←hP1]at hPu;rw[←htc]at hcu;have hg:(x1.map aD)[i]?=some (aD u):=by rw[ks1,hu];rfl
  simp only[kH]at t1 t2;rw[hcu]at hsu hmu;clear hP hcu hu hmem;obtain⟨un,⟨uk,ui,ul⟩,uc⟩:=u;simp only[tyV,aF,aD,kq1,kq5,kr0,kr2]at t1 hg;dsimp only at t2 hPu hsu hmu;simp -implicitDefEqProofs only[oS.d,J0,J1,J2,J3,J4,J5,J6,J7,J8,↓reduceIte,reduceCtorEq,hlt,hg,kq2,kq4];refine bJ [0,1,2] (t1 v0 w0 F0 X0 Y0 (by omega)) rfl rfl rfl ?_;rintro _ _ ⟨rfl,v6,X6,w6,F6,Y6,rfl,g6,b6⟩;have c6:=b6.1;simp only[kH];refine⟨_,_,rfl,?_⟩;simp -implicitDefEqProofs only[oS.d,J0,J1,J2,J3,J4,J5,J6,J7,J8,↓reduceIte,reduceCtorEq];refine bJ [0,1,2] (t2 v6 w6 F6 X6 Y6 (by omega)) rfl rfl rfl ?_;rintro _ _ ⟨rfl,v7,X7,w7,F7,Y7,rfl,g7,b7⟩;have c7:=b7.1;simp only[kH];refine⟨_,_,rfl,?_⟩;have gg:=Wk.more g6 g7 hPu;simp -implicitDefEqProofs only[oS.d,J0,J1,J2,J3,J4,J5,J6,J7,J8,↓reduceIte,reduceCtorEq,hw];refine⟨(i+1,(v7,X7),w7,F7,Y7),⟨by show i+1≤x1.length;omega,fun m=>?_,(b0.trans (b6.trans b7)).mono (by show _≤aK dC (x1.take (i+1));omega)⟩,by show x1.length-(i+1)<x1.length-i;omega,?_⟩
  ·exact Wk.more g0 gg hQ m
  ·exact(aP [0,1,2,3] rfl rfl rfl rfl)
 have hlt:((i:Int)<(x1.length:Int))=False:=by simp;omega
 have hie:i=x1.length:=by omega
 subst hie;rw[kv2]at g0 b0;have c0:=b0.1;clear hw h5 hi;simp -implicitDefEqProofs only[oS.d,J0,J1,J2,J3,J4,J5,J6,J7,J8,↓reduceIte,reduceCtorEq,hlt,kr8,l3,l4,l5];clear hlt;have G0:=g0;refine bE (α:=Nat×(Nat×List (List D))×Nat×List Int×List (List D)) (fun x=>[(33,.one (.d (.int .i64 x.1))),(32,.one (.d (.int .i64 x2.length))),(31,.one (.d (.sl (x2.map aE)))),(3,.one (.ptr 3 0)),(0,.one (.ptr 0 0))]) (fun x=>[.box [.own 1 x.2.1.1 Bd.length,.own 2 x.2.2.1 x.2.2.2.1.length],.arr false 1 x.2.1.1 (nums Bd++x.2.1.2),.arr false 1 x.2.2.1 (nums x.2.2.2.1++x.2.2.2.2),.box [.d (.sl (x1.map aD)),.d (.sl (x2.map aE)),.d (.sl (kq7 x3)),.d (.sl (kq8 x4)),.d (.sl (kq9 x5))]])
  (fun x=>x.1≤x2.length∧(∀m,m∈x.2.2.2.1↔m∈F0∨((∃a∈x2.take x.1,bL a.s.t m)∧m∉Bd))∧Ln F0 x.2.2.2.1 (aK dJ (x2.take x.1))) (fun x=>x2.length-x.1) (0,(v0,X0),w0,F0,Y0)
  (aP [0,1,2,3] rfl rfl rfl rfl) ⟨kt1 _,fun m=>by simp,kn6⟩ ?_
 rintro⟨i,⟨v1,X1⟩,w1,F1,Y1⟩ ⟨hi,g1,b1⟩;dsimp only at hi g1 b1 ⊢;have c1:=b1.1;have hw:=bQ (a:=i) rfl (by omega);rcases ks3 i x2.length with h5|h5
 ·have hlt:((i:Int)<(x2.length:Int))=True:=by simp;omega
  obtain⟨u,hu⟩:=bK h5;have hsu:=qI (f:=dJ) hu;have hle:=oY (f:=dJ) x2 (i+1);have hQ:=fun m=>pB (p:=fun a=>bL a.s.t m) hu;have hmem:=kq0 hu;have hmu:=dB (f:=dJ) hmem;have hcu:dJ u=1+tyn u.s.t:=rfl;have t1:=zK2 v1 w1 Bd F1 X1 Y1 u.s.t (by omega) (by omega) (by omega);have e1:∃P:Int→Prop,P=bL u.s.t:=⟨_,rfl⟩;obtain⟨P,hP⟩:=e1;simp only[←hP]at hQ t1;have e2:∃c:Nat,c=tyn u.s.t:=⟨_,rfl⟩;obtain⟨tc,htc⟩:=e2;simp only[←htc]at t1;rw[←htc]at hcu;have hg:(x2.map aE)[i]?=some (aE u):=by rw[ks1,hu];rfl
  clear hP hu hmem;obtain⟨un,ug,⟨uk,ui,ul⟩⟩:=u;simp only[tyV,aF,aE,cZ,kq1,kq5,kr0,kr2,kH]at t1 hg;simp -implicitDefEqProofs only[oS.d,J0,J1,J2,J3,J4,J5,J6,J7,J8,↓reduceIte,reduceCtorEq,hlt,hg,kq2,kq4];refine bJ [0,1,2] t1 rfl rfl rfl ?_;rintro _ _ ⟨rfl,v6,X6,w6,F6,Y6,rfl,gg,b6⟩;have c6:=b6.1;simp only[kH];refine⟨_,_,rfl,?_⟩;simp -implicitDefEqProofs only[oS.d,J0,J1,J2,J3,J4,J5,J6,J7,J8,↓reduceIte,reduceCtorEq,hw];refine⟨(i+1,(v6,X6),w6,F6,Y6),⟨by show i+1≤x2.length;omega,fun m=>?_,(b1.trans b6).mono (by show _≤aK dJ (x2.take (i+1));omega)⟩,by show x2.length-(i+1)<x2.length-i;omega,?_⟩
  ·exact Wk.more g1 gg hQ m
  ·exact(aP [0,1,2,3] rfl rfl rfl rfl)
 have hlt:((i:Int)<(x2.length:Int))=False:=by simp;omega
 have hie:i=x2.length:=by omega
 subst hie;rw[kv2]at g1 b1;have c1:=b1.1;clear hw h5 hi;simp -implicitDefEqProofs only[oS.d,J0,J1,J2,J3,J4,J5,J6,J7,J8,↓reduceIte,reduceCtorEq,hlt,kr8,l3,l4,l5];clear hlt;have G1:=Wk.more G0 g1 (fun m=>Iff.rfl);refine bE (α:=Nat×(Nat×List (List D))×Nat×List Int×List (List D)) (fun x=>[(46,.one (.d (.int .i64 x.1))),(45,.one (.d (.int .i64 x3.length))),(44,.one (.d (.sl (kq7 x3)))),(3,.one (.ptr 3 0)),(0,.one (.ptr 0 0))]) (fun x=>[.box [.own 1 x.2.1.1 Bd.length,.own 2 x.2.2.1 x.2.2.2.1.length],.arr false 1 x.2.1.1 (nums Bd++x.2.1.2),.arr false 1 x.2.2.1 (nums x.2.2.2.1++x.2.2.2.2),.box [.d (.sl (x1.map aD)),.d (.sl (x2.map aE)),.d (.sl (kq7 x3)),.d (.sl (kq8 x4)),.d (.sl (kq9 x5))]])
  (fun x=>x.1≤x3.length∧(∀m,m∈x.2.2.2.1↔m∈F1∨((∃a∈x3.take x.1,aL a.2 m)∧m∉Bd))∧Ln F1 x.2.2.2.1 (aK eZ (x3.take x.1))) (fun x=>x3.length-x.1) (0,(v1,X1),w1,F1,Y1)
  (aP [0,1,2,3] rfl rfl rfl rfl) ⟨kt1 _,fun m=>by simp,kn6⟩ ?_
 rintro⟨i,⟨v2,X2⟩,w2,F2,Y2⟩ ⟨hi,g2,b2⟩;dsimp only at hi g2 b2 ⊢;have c2:=b2.1;have hw:=bQ (a:=i) rfl (by omega);rcases ks3 i x3.length with h5|h5
 ·have hlt:((i:Int)<(x3.length:Int))=True:=by simp;omega
  obtain⟨u,hu⟩:=bK h5;have hsu:=qI (f:=eZ) hu;have hle:=oY (f:=eZ) x3 (i+1);have hQ:=fun m=>pB (p:=fun a=>aL a.2 m) hu;have hmem:=kq0 hu;have hmu:=dB (f:=eZ) hmem;have hcu:eZ u=1+stn u.2:=rfl;have t1:=i3 u hmem Bd (by omega) (by omega) v2 w2 F2 X2 Y2 (by omega);have e1:∃P:Int→Prop,P=aL u.2:=⟨_,rfl⟩;obtain⟨P,hP⟩:=e1;simp only[←hP]at hQ t1;have e2:∃c:Nat,c=stn u.2:=⟨_,rfl⟩;obtain⟨tc,htc⟩:=e2;simp only[←htc]at t1;rw[←htc]at hcu;have hg:(kq7 x3)[i]?=some (cA u):=by rw[qA,ks1,hu];rfl
  clear hP hu hmem;obtain⟨un,⟨u1,u2,u3,u4,u5⟩⟩:=u;simp only[stW,aA,cA,kq1,kq5,kr0,kr2,kH]at t1 hg;simp -implicitDefEqProofs only[oS.d,J0,J1,J2,J3,J4,J5,J6,J7,J8,↓reduceIte,reduceCtorEq,hlt,hg,kq2,kq4];refine bJ [0,1,2] t1 rfl rfl rfl ?_;rintro _ _ ⟨rfl,v6,X6,w6,F6,Y6,rfl,gg,b6⟩;have c6:=b6.1;simp only[kH];refine⟨_,_,rfl,?_⟩;simp -implicitDefEqProofs only[oS.d,J0,J1,J2,J3,J4,J5,J6,J7,J8,↓reduceIte,reduceCtorEq,hw];refine⟨(i+1,(v6,X6),w6,F6,Y6),⟨by show i+1≤x3.length;omega,fun m=>?_,(b2.trans b6).mono (by show _≤aK eZ (x3.take (i+1));omega)⟩,by show x3.length-(i+1)<x3.length-i;omega,?_⟩
  ·exact Wk.more g2 gg hQ m
  ·exact(aP [0,1,2,3] rfl rfl rfl rfl)
 have hlt:((i:Int)<(x3.length:Int))=False:=by simp;omega
 have hie:i=x3.length:=by omega
 subst hie;rw[kv2]at g2 b2;have c2:=b2.1;clear hw h5 hi;simp -implicitDefEqProofs only[oS.d,J0,J1,J2,J3,J4,J5,J6,J7,J8,↓reduceIte,reduceCtorEq,hlt,kr8,l3,l4,l5];clear hlt;have G2:=Wk.more G1 g2 (fun m=>Iff.rfl);refine bE (α:=Nat×(Nat×List (List D))×Nat×List Int×List (List D)) (fun x=>[(58,.one (.d (.int .i64 x.1))),(57,.one (.d (.int .i64 x4.length))),(56,.one (.d (.sl (kq8 x4)))),(3,.one (.ptr 3 0)),(0,.one (.ptr 0 0))]) (fun x=>[.box [.own 1 x.2.1.1 Bd.length,.own 2 x.2.2.1 x.2.2.2.1.length],.arr false 1 x.2.1.1 (nums Bd++x.2.1.2),.arr false 1 x.2.2.1 (nums x.2.2.2.1++x.2.2.2.2),.box [.d (.sl (x1.map aD)),.d (.sl (x2.map aE)),.d (.sl (kq7 x3)),.d (.sl (kq8 x4)),.d (.sl (kq9 x5))]])
  (fun x=>x.1≤x4.length∧(∀m,m∈x.2.2.2.1↔m∈F2∨((∃a∈x4.take x.1,(m∉a.2.1∧(aL a.2.2.1 m∨(m∉a.2.2.2.1∧aL a.2.2.2.2 m))))∧m∉Bd))∧Ln F2 x.2.2.2.1 (aK eQ (x4.take x.1))) (fun x=>x4.length-x.1) (0,(v2,X2),w2,F2,Y2)
  (aP [0,1,2,3] rfl rfl rfl rfl) ⟨kt1 _,fun m=>by simp,kn6⟩ ?_
 rintro⟨i,⟨v3,X3⟩,w3,F3,Y3⟩ ⟨hi,g3,b3⟩;dsimp only at hi g3 b3 ⊢;have c3:=b3.1;have hw:=bQ (a:=i) rfl (by omega);rcases ks3 i x4.length with h5|h5
 ·have hlt:((i:Int)<(x4.length:Int))=True:=by simp;omega
  obtain⟨u,hu⟩:=bK h5;have hsu:=qI (f:=eQ) hu;have hle:=oY (f:=eQ) x4 (i+1);have hQ:=fun m=>pB (p:=fun a=>(m∉a.2.1∧(aL a.2.2.1 m∨(m∉a.2.2.2.1∧aL a.2.2.2.2 m)))) hu;have hmem:=kq0 hu;have hmu:=dB (f:=eQ) hmem;have hcu:=qH u;have s1:=(i4 u hmem).1 (Bd++u.2.1) (by omega) (by simp only[kq3];omega);have s2:=(i4 u hmem).2 ((Bd++u.2.1)++u.2.2.2.1) (by omega) (by simp only[kq3];omega);have t1:=j41 s1 s2 (by omega) v3 w3 F3 X3 Y3 (by omega);clear s1 s2;have e1:∃P:Int→Prop,P=fun m=>(m∉u.2.1∧(aL u.2.2.1 m∨(m∉u.2.2.2.1∧aL u.2.2.2.2 m))):=⟨_,rfl⟩;obtain⟨P,hP⟩:=e1;rw[←hP]at t1;have hQ2:∀m,(∃a∈x4.take (i+1),(m∉a.2.1∧(aL a.2.2.1 m∨(m∉a.2.2.2.1∧aL a.2.2.2.2 m))))↔(∃a∈x4.take i,(m∉a.2.1∧(aL a.2.2.1 m∨(m∉a.2.2.2.1∧aL a.2.2.2.2 m))))∨P m:=by rw[hP];exact hQ
  have e2:∃c:Nat,c=stn u.2.2.1+stn u.2.2.2.2:=⟨_,rfl⟩;obtain⟨tc,htc⟩:=e2;simp only[←htc]at t1;have hcu:tc<eQ u:=by omega
  have hg:(kq8 x4)[i]?=some (bW u):=by rw[lR,ks1,hu];rfl
  clear hP hu hmem htc hQ;obtain⟨un,up,⟨u1,u2,u3,u4,u5⟩,uq,⟨y1,y2,y3,y4,y5⟩⟩:=u;simp only[cU,aA,bW,kq1,kq5,kr0,kr2,kH]at t1 hg;simp -implicitDefEqProofs only[oS.d,J0,J1,J2,J3,J4,J5,J6,J7,J8,↓reduceIte,reduceCtorEq,hlt,hg,kq2,kq4];refine bJ [0,1,2] t1 rfl rfl rfl ?_;rintro _ _ ⟨rfl,v6,X6,w6,F6,Y6,rfl,gg,b6⟩;have c6:=b6.1;simp only[kH];refine⟨_,_,rfl,?_⟩;simp -implicitDefEqProofs only[oS.d,J0,J1,J2,J3,J4,J5,J6,J7,J8,↓reduceIte,reduceCtorEq,hw];refine⟨(i+1,(v6,X6),w6,F6,Y6),⟨by show i+1≤x4.length;omega,fun m=>?_,(b3.trans b6).mono (by show _≤aK eQ (x4.take (i+1));omega)⟩,by show x4.length-(i+1)<x4.length-i;omega,?_⟩
  ·exact Wk.more g3 gg hQ2 m
  ·exact(aP [0,1,2,3] rfl rfl rfl rfl)
 have hlt:((i:Int)<(x4.length:Int))=False:=by simp;omega
 have hie:i=x4.length:=by omega
 subst hie;rw[kv2]at g3 b3;have c3:=b3.1;clear hw h5 hi;simp -implicitDefEqProofs only[oS.d,J0,J1,J2,J3,J4,J5,J6,J7,J8,↓reduceIte,reduceCtorEq,hlt,kr8,l3,l4,l5];clear hlt;have G3:=Wk.more G2 g3 (fun m=>Iff.rfl);refine bE (α:=Nat×(Nat×List (List D))×Nat×List Int×List (List D)) (fun x=>[(70,.one (.d (.int .i64 x.1))),(69,.one (.d (.int .i64 x5.length))),(68,.one (.d (.sl (kq9 x5)))),(3,.one (.ptr 3 0)),(0,.one (.ptr 0 0))]) (fun x=>[.box [.own 1 x.2.1.1 Bd.length,.own 2 x.2.2.1 x.2.2.2.1.length],.arr false 1 x.2.1.1 (nums Bd++x.2.1.2),.arr false 1 x.2.2.1 (nums x.2.2.2.1++x.2.2.2.2),.box [.d (.sl (x1.map aD)),.d (.sl (x2.map aE)),.d (.sl (kq7 x3)),.d (.sl (kq8 x4)),.d (.sl (kq9 x5))]])
  (fun x=>x.1≤x5.length∧(∀m,m∈x.2.2.2.1↔m∈F3∨((∃a∈x5.take x.1,(m∉a.2.1∧aL a.2.2 m))∧m∉Bd))∧Ln F3 x.2.2.2.1 (aK fJ (x5.take x.1))) (fun x=>x5.length-x.1) (0,(v3,X3),w3,F3,Y3)
  (aP [0,1,2,3] rfl rfl rfl rfl) ⟨kt1 _,fun m=>by simp,kn6⟩ ?_
 rintro⟨i,⟨v4,X4⟩,w4,F4,Y4⟩ ⟨hi,g4,b4⟩;dsimp only at hi g4 b4 ⊢;have c4:=b4.1;have hw:=bQ (a:=i) rfl (by omega);rcases ks3 i x5.length with h5|h5
 ·have hlt:((i:Int)<(x5.length:Int))=True:=by simp;omega
  obtain⟨u,hu⟩:=bK h5;have hsu:=qI (f:=fJ) hu;have hle:=oY (f:=fJ) x5 (i+1);have hQ:=fun m=>pB (p:=fun a=>(m∉a.2.1∧aL a.2.2 m)) hu;have hmem:=kq0 hu;have hmu:=dB (f:=fJ) hmem;have hcu:=tV u;have s1:=i5 u hmem (Bd++u.2.1) (by omega) (by simp only[kq3];omega);have t1:=zi7 s1 (by omega) v4 w4 F4 X4 Y4 (by omega);clear s1;have e1:∃P:Int→Prop,P=fun m=>(m∉u.2.1∧aL u.2.2 m):=⟨_,rfl⟩;obtain⟨P,hP⟩:=e1;have e4:(fun m=>aL u.2.2 m∧m∉u.2.1)=P:=by rw[hP];funext m;exact propext and_comm
  rw[e4]at t1;have hQ2:∀m,(∃a∈x5.take (i+1),(m∉a.2.1∧aL a.2.2 m))↔(∃a∈x5.take i,(m∉a.2.1∧aL a.2.2 m))∨P m:=by rw[hP];exact hQ
  have e2:∃c:Nat,c=stn u.2.2:=⟨_,rfl⟩;obtain⟨tc,htc⟩:=e2;simp only[←htc]at t1;have hcu:tc<fJ u:=by omega
  have hg:(kq9 x5)[i]?=some (cB u):=by rw[lS,ks1,hu];rfl
  clear hP hu hmem htc hQ e4;obtain⟨un,uq,⟨u1,u2,u3,u4,u5⟩⟩:=u;simp only[abW,aA,cB,kq1,kq5,kr0,kr2,kH]at t1 hg;simp -implicitDefEqProofs only[oS.d,J0,J1,J2,J3,J4,J5,J6,J7,J8,↓reduceIte,reduceCtorEq,hlt,hg,kq2,kq4];refine bJ [0,1,2] t1 rfl rfl rfl ?_;rintro _ _ ⟨rfl,v6,X6,w6,F6,Y6,rfl,gg,b6⟩;have c6:=b6.1;simp only[kH];refine⟨_,_,rfl,?_⟩;simp -implicitDefEqProofs only[oS.d,J0,J1,J2,J3,J4,J5,J6,J7,J8,↓reduceIte,reduceCtorEq,hw];refine⟨(i+1,(v6,X6),w6,F6,Y6),⟨by show i+1≤x5.length;omega,fun m=>?_,(b4.trans b6).mono (by show _≤aK fJ (x5.take (i+1));omega)⟩,by show x5.length-(i+1)<x5.length-i;omega,?_⟩
  ·exact Wk.more g4 gg hQ2 m
  ·exact(aP [0,1,2,3] rfl rfl rfl rfl)
 have hlt:((i:Int)<(x5.length:Int))=False:=by simp;omega
 have hie:i=x5.length:=by omega
 subst hie;rw[kv2]at g4 b4;have c4:=b4.1;clear hw h5 hi;simp -implicitDefEqProofs only[oS.d,J0,J1,J2,J3,J4,J5,J6,J7,J8,↓reduceIte,reduceCtorEq,hlt,kr8,l3,l4,l5];clear hlt;have G4:=Wk.more G3 g4 (fun m=>Iff.rfl);apply aH [0,1,2];rfl;rfl;refine⟨rfl,v4,X4,w4,F4,Y4,rfl,fun m=>?_,(b0.trans (b1.trans (b2.trans (b3.trans b4)))).mono (by omega)⟩;rw[G4 m,fv m]
end Go.Vt.Tryz
