import Derived.Test.YtdabfkmhkoppcaaGreatDoorVtA1
import Derived.Test.YtdabfkmhkoppcaaGreatDoorVtKn
import Derived.Test.YtdabfkmhkoppcaaGreatDoorVtD13
set_option linter.all false
set_option maxHeartbeats 8000000
set_option maxRecDepth 100000
open Int renaming lt_or_le→kC9,natCast_nonneg→kq2,toNat_natCast→kq4
open List renaming Pairwise→kz9,drop_of_length_le→kw3,drop_sublist→kC5,getElem?_append_right→kr5,getElem?_drop→kv4,getElem?_eq_some_iff→kp9,getElem?_take_of_lt→ks5,length_append→kq3,length_cons→kr4,length_drop→kx9,length_eq_one_iff→kH0,length_eq_zero_iff→ku2,length_map→kr8,length_pos_of_mem→ky9,length_take→kt3,mem_append→kt5,mem_cons→kt6,mem_of_getElem?→kq0,mem_of_mem_drop→kC1,mem_of_mem_take→ky1,set_append_right→kx2,set_comm→kK1,take_append_drop→ku9,take_of_length_le→kq6,take_sublist→kC6
open Nat renaming add_sub_cancel_left→kv3,add_sub_cancel→kC3,add_zero→kA5,le_refl→ks0,lt_irrefl→kA2,lt_or_ge→ks3,min_eq_left→kC7,reduceBEq→kx5
open Go.Proofs.Tryz renaming prog→kp8
open Go.Vt renaming dL→J0,mkV→J1
open Nat renaming reduceBEq→J2,reduceEqDiff→J3,reduceLT→J4,reduceLeDiff→J5,reduceAdd→J6,reduceMul→J7,reduceSub→J8
namespace Go.Vt.Tryz
open Go.Proofs Go.Vt.Al
theorem zj9 {α:Type} {rows:List α} {i j:Nat} {y:α} (hi:i<rows.length) (hy:rows[j]?=some y):(rows.set i y)[j]?=some y:=by
 rw[List.getElem?_set];split
 ·first|rfl|rw[if_pos hi]
 ·exact hy
theorem wS {h:aB}:∀x:List D,lH h (x.map .d)=h
 |[]=>rfl
 |_::r=>wS r
theorem wT {h:aB}:∀x:List D,kQ h (x.map .d)=some x
 |[]=>rfl
 |d::r=>by simp only[List.map_cons,kQ,wT r];rfl
theorem za4 {n:Nat} (h:n<1000000000000):IntKind.u64.wrap (n:Int)=(n:Int):=by rw[IntKind.wrap_u64];omega
theorem za5 {n:Nat}:((n:Int)).fdiv (2 ^ Int.toNat 1)=((n / 2:Nat):Int):=by
 show((n:Int)).fdiv 2=_;rw[Int.fdiv_eq_ediv_of_nonneg _ (by omega)];omega
theorem za6 {n:Nat} (h:n<1000000000000):IntKind.i64.wrap (n:Int)=(n:Int):=by rw[IntKind.wrap_i64];omega
theorem wU:(0≤(1:Int)∧Int.toNat 1≤IntKind.u64.bits)=True:=by simp[IntKind.bits]
theorem jJ {α β:Type} {f:α→β} {l:List α} {k:Nat} (h:l.length=k):(l.map f).take k=l.map f:=kq6 (by simp[h])
theorem qR {α:Type} {l:List α} {k:Nat} (h:l.length=k):l.drop k=[]:=kw3 (by simp[h])
def kyD:List D→ByteArray
 |.str s::_=>s
 |_=>⟨#[]⟩
def oK (lt:ByteArray→ByteArray→Bool) (fc nm:FuncId) (R:List D→Prop):Prop:=∀x y,R x→R y→VC kp8 fc [.agg (x.map .d),.agg (y.map .d),.one (.ptr 0 0)] [.box [.fn nm []]] fun r h'=>(∃c:Int,r = .one (.d (.int .i64 c))∧(c<0↔lt (kyD x) (kyD y)=true))∧h'=[.box [.fn nm []]]
def dU (f:FuncId) (avs:List V) (k ver:Nat) (nm:FuncId) (rows:List (List D)) (G:List (List D)→Prop):Prop:=
 VC kp8 f avs [.arr false k ver rows,.box [.fn nm []]] fun r h'=>r = .tup []∧∃rows',G rows'∧h'=[.arr false k ver rows',.box [.fn nm []]]
theorem za7 {lt:ByteArray→ByteArray→Bool} {fc nm:FuncId} {R:List D→Prop} {x y:List D} {k ver:Nat} {rows:List (List D)} {K:Kn (V×aB)} (H:oK lt fc nm R) (hx:R x) (hy:R y)
  (hk:∀c:Int,(c<0↔lt (kyD x) (kyD y)=true)→K.run (.one (.d (.int .i64 c)),[.arr false k ver rows,.box [.fn nm []]])):@kE _ kp8 fc [.agg (x.map .d),.agg (y.map .d),.one (.ptr 1 0)] [.arr false k ver rows,.box [.fn nm []]] K:=by
 refine bJ [1] (H x y hx hy) rfl ?_ rfl ?_
 ·simp[cE,bP,zG0,bT,aG,idx]
 rintro _ _ ⟨⟨c,rfl,hc⟩,rfl⟩;refine⟨.one (.d (.int .i64 c)),[.arr false k ver rows,.box [.fn nm []]],?_,hk c hc⟩;simp[mE,hJ,aG,jN,bD,aG.renLs,dN,dM,mD,zG1,kU,idx,eB,eV,sR,zc5]
theorem zk0 {α:Type} {U V W:List α} {x y:α} {i j:Nat} (hi:i=U.length) (hj:j=U.length+1+V.length) :
  (U++x::(V++y::W))[i]?=some x∧(U++x::(V++y::W))[j]?=some y∧((U++x::(V++y::W)).set i y).set j x=U++y::(V++x::W):=by
 subst hi;subst hj;have g:∀z:α,(U++z::(V++y::W))[U.length+1+V.length]?=some y:=by
  intro z;rw[kr5 (by omega),show U.length+1+V.length-U.length=V.length+1 by omega,List.getElem?_cons_succ,kr5 (by omega)];simp
 refine⟨by simp,g x,?_⟩;have e1:(U++x::(V++y::W)).set U.length y=U++y::(V++y::W):=by rw[kx2 _ _ (by omega)];simp
 rw[e1,kx2 _ _ (by omega),show U.length+1+V.length-U.length=V.length+1 by omega,List.set_cons_succ,kx2 _ _ (by omega)];simp
theorem wV {α:Type} {l:List α} {i:Nat} {x:α} (h:l[i]?=some x):l.drop i=x::l.drop (i+1):=by
 obtain⟨hl,rfl⟩:=kp9.1 h;exact List.drop_eq_getElem_cons hl
theorem wW {α:Type} {l:List α} {i:Nat} {x:α} (h:l[i]?=some x):l.take (i+1)=l.take i++[x]:=by rw[List.take_add_one,h];rfl
def jZ {α:Type} (P A M B S:List α) (i:Nat):List α:=P++((B.take i++A.drop i)++(M++((A.take i++B.drop i)++S)))
theorem j96 {α:Type} {P A M B S:List α} (hAB:A.length=B.length) {i:Nat} {x y:α} (hx:A[i]?=some x) (hy:B[i]?=some y) :
  (jZ P A M B S i)[P.length+i]?=some x∧(jZ P A M B S i)[P.length+A.length+M.length+i]?=some y∧((jZ P A M B S i).set (P.length+i) y).set (P.length+A.length+M.length+i) x=jZ P A M B S (i+1):=by
 have hi:=(kp9.1 hx).1;have e:jZ P A M B S i=(P++B.take i)++x::((A.drop (i+1)++(M++A.take i))++y::(B.drop (i+1)++S)):=by
  unfold jZ;rw[wV hx,wV hy];simp
 have l1:(P++B.take i).length=P.length+i:=by simp;omega
 have l2:(P++B.take i).length+1+(A.drop (i+1)++(M++A.take i)).length=P.length+A.length+M.length+i:=by simp;omega
 obtain⟨g1,g2,g3⟩:=zk0 (U:=P++B.take i) (V:=A.drop (i+1)++(M++A.take i)) (W:=B.drop (i+1)++S) (x:=x) (y:=y) (i:=P.length+i) (j:=P.length+A.length+M.length+i) l1.symm l2.symm;rw[e];refine⟨g1,g2,?_⟩;rw[g3];unfold jZ;rw[wW hx,wW hy];simp
section
variable {tS tE tF:TypeId} {k:Nat} {fc nm:FuncId} {R:List D→Prop} {ver:Nat}
theorem zM7 (H:lV tS tE k) {f:FuncId} (hF:aJ kp8 f 38 (mJ tS tE) []) (P A M B S:List (List D)) (hAB:A.length=B.length) (hr:∀x∈P++(A++(M++(B++S))),x.length=k) (a b n len:Nat) (ha:a=P.length) (hb:b=P.length+A.length+M.length) (hn:n=A.length)
  (hlen:(P++(A++(M++(B++S)))).length=len) (hbig:len<1000000000) :
  dU f [.one (.own 0 ver len),.one (.d (.int .i64 a)),.one (.d (.int .i64 b)),.one (.d (.int .i64 n)),.one (.fn fc [.ptr 1 0])] k ver nm (P++(A++(M++(B++S)))) fun rs=>rs=P++(B++(M++(A++S))):=by
 obtain⟨b1,z1,b2,z2,hS,hb2,hz2,hk0⟩:=H.S;obtain⟨b3,z3,fs3,hE⟩:=H.E;unfold dU;refine aU mixed hF (by simp) ?_;have hall:∀i,∀x∈jZ P A M B S i,x.length=k:=by
  intro i x hx;refine hr x ?_;simp only[jZ,kt5]at hx ⊢;rcases hx with h|(h|h)|h|(h|h)|h
  ·exact .inl h
  ·exact .inr (.inr (.inr (.inl (ky1 h))))
  ·exact .inr (.inl (kC1 h))
  ·exact .inr (.inr (.inl h))
  ·exact .inr (.inl (ky1 h))
  ·exact .inr (.inr (.inr (.inl (kC1 h))))
  ·exact .inr (.inr (.inr (.inr h)))
 have h0:P++(A++(M++(B++S)))=jZ P A M B S 0:=by simp[jZ]
 have h1:jZ P A M B S n=P++(B++(M++(A++S))):=by simp[jZ,hn,hAB];rw[←hAB];simp
 simp only[kq3]at hlen;rw[h0];generalize jZ P A M B S 0=rows at h0;subst h0;show vwp kp8 2 (mJ tS tE) _ [(0,.one (.own 0 ver len)),(1,.one (.d (.int .i64 a))),(2,.one (.d (.int .i64 b))),(3,.one (.d (.int .i64 n))),(4,.one (.fn fc [.ptr 1 0]))] [.arr false k ver (P++(A++(M++(B++S)))),.box [.fn nm []]];unfold mJ;rw[aO];simp -implicitDefEqProofs only[oS.d,J0,J1,J2,J3,J4,J5,J6,J7,J8,↓reduceIte,reduceCtorEq];refine bE (α:=Nat×List (List D)) (fun x=>[(10,.one (.d (.int .i64 x.1))),(0,.one (.own 0 ver len)),(1,.one (.d (.int .i64 a))),(2,.one (.d (.int .i64 b))),(3,.one (.d (.int .i64 n)))]) (fun x=>[.arr false k ver x.2,.box [.fn nm []]])
  (fun x=>x.1≤n∧x.2=jZ P A M B S x.1) (fun x=>n-x.1) (0,P++(A++(M++(B++S))))
  (aP [0,1] rfl rfl rfl rfl) ⟨Nat.zero_le _,by simp[jZ]⟩ ?_
 rintro⟨i,rs⟩ ⟨hi,hp⟩;simp only at hi hp;subst hp;rcases ks3 i n with h|h
 ·have hc:((i:Int)<(n:Int))=True:=by simp;omega
  obtain⟨x,hx0⟩:=bK (l:=A) (i:=i) (by omega);obtain⟨y,hy0⟩:=bK (l:=B) (i:=i) (by omega);obtain⟨hx,hy,hst⟩:=j96 (P:=P) (M:=M) (S:=S) hAB hx0 hy0;rw[←hb]at hy hst;rw[←ha]at hx hst;have hxk:=hall i x (kq0 hx);have hyk:=hall i y (kq0 hy);generalize jZ P A M B S i=rs at hx hy hst;have hal:=(kp9.1 hx).1;have hy2:=zj9 (i:=a+i) (rows:=rs) hal hy;have w1:=oG (a:=a) (b:=i) rfl (by omega);have w2:=oG (a:=b) (b:=i) rfl (by omega);have w3:=bQ (a:=i) rfl (by omega);have l1:((a+i:Nat):Int)<(len:Int):=by omega
  have l2:((b+i:Nat):Int)<(len:Int):=by omega
  simp -implicitDefEqProofs only[oS.d,J0,J1,J2,J3,J4,J5,J6,J7,J8,↓reduceIte,reduceCtorEq,iL hS rfl,cQ hE,dR hE,hc,w1,w2,l1,l2,hx,hy,hxk,hyk,hy2,kq2,kq4,kr8,jJ hxk,jJ hyk,wS,wT,qR hxk,qR hyk,w3];refine⟨(i+1,(rs.set (a+i) y).set (b+i) x),⟨by show i+1≤n;omega,hst⟩,by show n-(i+1)<n-i;omega,?_⟩;exact(aP [0,1] rfl rfl rfl rfl)
 ·have hc:((i:Int)<(n:Int))=False:=by simp;omega
  have hie:i=n:=by omega
  subst hie;simp -implicitDefEqProofs only[oS.d,J0,J1,J2,J3,J4,J5,J6,J7,J8,↓reduceIte,reduceCtorEq,hc];apply aH [0,1];rfl;rfl;exact⟨rfl,_,h1,rfl⟩
theorem jf8 (H:lV tS tE k) {f fR:FuncId} (hR:aJ kp8 fR 38 (mJ tS tE) []) (hF:aJ kp8 f 58 (nL tS tF fR) []) (hne:fR≠288) (P X Y S:List (List D)) (hX:1≤X.length) (hY:1≤Y.length) (hr:∀x∈P++(X++(Y++S)),x.length=k) (a m b len:Nat)
  (ha:a=P.length) (hm:m=P.length+X.length) (hb:b=P.length+X.length+Y.length) (hlen:(P++(X++(Y++S))).length=len) (hbig:len<1000000000) :
  dU f [.one (.own 0 ver len),.one (.d (.int .i64 a)),.one (.d (.int .i64 m)),.one (.d (.int .i64 b)),.one (.fn fc [.ptr 1 0])] k ver nm (P++(X++(Y++S))) fun rs=>rs=P++(Y++(X++S)):=by
 unfold dU;refine aU mixed hF (by simp) ?_;show vwp kp8 2 (nL tS tF fR) _ [(0,.one (.own 0 ver len)),(1,.one (.d (.int .i64 a))),(2,.one (.d (.int .i64 m))),(3,.one (.d (.int .i64 b))),(4,.one (.fn fc [.ptr 1 0]))] [.arr false k ver (P++(X++(Y++S))),.box [.fn nm []]];unfold nL;rw[aO];simp only[kq3]at hlen;have w1:=mM (a:=m) (b:=a) (c:=X.length) (by omega) (by omega);have w2:=mM (a:=b) (b:=m) (c:=Y.length) (by omega) (by omega);simp -implicitDefEqProofs only[oS.d,J0,J1,J2,J3,J4,J5,J6,J7,J8,↓reduceIte,reduceCtorEq,w1,w2];refine bE (α:=Nat×Nat×List (List D)) (fun x=>[(10,.one (.d (.int .i64 x.1))),(11,.one (.d (.int .i64 x.2.1))),(0,.one (.own 0 ver len)),(2,.one (.d (.int .i64 m))),(4,.one (.fn fc [.ptr 1 0]))]) (fun x=>[.arr false k ver x.2.2,.box [.fn nm []]])
  (fun x=>1≤x.1∧1≤x.2.1∧∃D1 X1 Y1 E1,x.2.2=P++(D1++(X1++(Y1++(E1++S))))∧X1.length=x.1∧Y1.length=x.2.1∧P.length+D1.length+x.1=m∧D1++(Y1++(X1++E1))=Y++X) (fun x=>x.1+x.2.1) (X.length,Y.length,P++(X++(Y++S)))
  (aP [0,1] rfl rfl rfl rfl) ⟨hX,hY,[],X,Y,[],by simp,rfl,rfl,by show P.length+0+X.length=m;omega,by simp⟩ ?_
 rintro⟨i,j,rs⟩ ⟨hi,hj,D1,X1,Y1,E1,hrs,hl1,hl2,hD,hT⟩;simp only at hi hj hrs hl1 hl2 hD hT;have hTl:D1.length+Y1.length+X1.length+E1.length=Y.length+X.length:=by
  have:=congrArg List.length hT;simp only[kq3]at this;omega
 have hmem:∀x∈rs,x.length=k:=by
  intro x hx;refine hr x ?_;rw[hrs]at hx;have hT2:∀x,x∈D1++(Y1++(X1++E1))→x∈X∨x∈Y:=fun x h=>by rw[hT]at h;simpa[or_comm]using h
  simp only[kt5]at hx hT2 ⊢;rcases hx with h|h|h|h|h|h
  ·exact .inl h
  ·rcases hT2 x (.inl h)with h|h;exact .inr (.inl h);exact .inr (.inr (.inl h))
  ·rcases hT2 x (.inr (.inr (.inl h)))with h|h;exact .inr (.inl h);exact .inr (.inr (.inl h))
  ·rcases hT2 x (.inr (.inl h))with h|h;exact .inr (.inl h);exact .inr (.inr (.inl h))
  ·rcases hT2 x (.inr (.inr (.inr h)))with h|h;exact .inr (.inl h);exact .inr (.inr (.inl h))
  ·exact .inr (.inr (.inr h))
 have v1:=mM (a:=m) (b:=i) (c:=m-i) (by omega) (by omega);rcases Nat.lt_trichotomy i j with h|h|h
 ·have hc:((i:Int)=(j:Int))=False:=by simp;omega
  have hc2:((j:Int)<(i:Int))=False:=by simp;omega
  have v2:=oG (a:=m) (b:=j) rfl (by omega);have v3:=mM (a:=m+j) (b:=i) (c:=m+j-i) (by omega) (by omega);have v4:=mM (a:=j) (b:=i) (c:=j-i) (by omega) (by omega);obtain⟨Ya,Yb,rfl,hYa⟩:∃Ya Yb,Y1=Ya++Yb∧Ya.length=j-i:=⟨Y1.take (j-i),Y1.drop (j-i),(ku9 _ _).symm,by rw[kt3];omega⟩;simp only[kq3]at hl2 hTl;have e:rs=(P++D1)++(X1++(Ya++(Yb++(E1++S)))):=by rw[hrs];simp
  have hs:=zM7 (ver:=ver) (nm:=nm) (fc:=fc) H hR (P++D1) X1 Ya Yb (E1++S) (by omega) (by rw[←e];exact hmem) (m-i) (m+j-i) i len (by simp;omega) (by simp;omega) (by omega) (by simp;omega) hbig;unfold dU at hs;rw[←e]at hs;simp -implicitDefEqProofs only[oS.d,J0,J1,J2,J3,J4,J5,J6,J7,J8,↓reduceIte,reduceCtorEq,hc,hc2,v1,v2,v3,hne];refine bJ [0,1] (hs) rfl rfl rfl ?_;rintro _ _ ⟨rfl,rs',hp',rfl⟩;refine⟨_,_,rfl,?_⟩;simp -implicitDefEqProofs only[oS.d,J0,J1,J2,J3,J4,J5,J6,J7,J8,↓reduceIte,reduceCtorEq,v4];refine⟨(i,j-i,rs'),⟨hi,by show 1≤j-i;omega,D1,Yb,Ya,X1++E1,by show rs'=_;rw[hp'];simp,by show Yb.length=i;omega,hYa,hD,by rw[←hT];simp⟩,by show i+(j-i)<i+j;omega,?_⟩;exact(aP [0,1] rfl rfl rfl rfl)
 ·subst h;have hc:((i:Int)=(i:Int))=True:=by simp
  have e:rs=(P++D1)++(X1++([]++(Y1++(E1++S)))):=by rw[hrs];simp
  have hs:=zM7 (ver:=ver) (nm:=nm) (fc:=fc) H hR (P++D1) X1 [] Y1 (E1++S) (by omega) (by rw[←e];exact hmem) (m-i) m i len (by simp;omega) (by simp;omega) (by omega) (by simp;omega) hbig;unfold dU at hs;rw[←e]at hs;simp -implicitDefEqProofs only[oS.d,J0,J1,J2,J3,J4,J5,J6,J7,J8,↓reduceIte,reduceCtorEq,hc,v1,hne];refine bJ [0,1] (hs) rfl rfl rfl ?_;rintro _ _ ⟨rfl,rs',hp',rfl⟩;refine⟨_,_,rfl,?_⟩;simp -implicitDefEqProofs only[oS.d,J0,J1,J2,J3,J4,J5,J6,J7,J8,↓reduceIte,reduceCtorEq];apply aH [0,1];rfl;rfl;refine⟨rfl,_,?_,rfl⟩;rw[hp'];have:P++(Y++(X++S))=P++((Y++X)++S):=by simp
  rw[this,←hT];simp
 ·have hc:((i:Int)=(j:Int))=False:=by simp;omega
  have hc2:((j:Int)<(i:Int))=True:=by simp;omega
  have v4:=mM (a:=i) (b:=j) (c:=i-j) (by omega) (by omega);obtain⟨Xa,Xb,rfl,hXa⟩:∃Xa Xb,X1=Xa++Xb∧Xa.length=j:=⟨X1.take j,X1.drop j,(ku9 _ _).symm,by rw[kt3];omega⟩;simp only[kq3]at hl1 hTl;have e:rs=(P++D1)++(Xa++(Xb++(Y1++(E1++S)))):=by rw[hrs];simp
  have hs:=zM7 (ver:=ver) (nm:=nm) (fc:=fc) H hR (P++D1) Xa Xb Y1 (E1++S) (by omega) (by rw[←e];exact hmem) (m-i) m j len (by simp;omega) (by simp;omega) (by omega) (by simp;omega) hbig;unfold dU at hs;rw[←e]at hs;simp -implicitDefEqProofs only[oS.d,J0,J1,J2,J3,J4,J5,J6,J7,J8,↓reduceIte,reduceCtorEq,hc,hc2,v1,hne];refine bJ [0,1] (hs) rfl rfl rfl ?_;rintro _ _ ⟨rfl,rs',hp',rfl⟩;refine⟨_,_,rfl,?_⟩;simp -implicitDefEqProofs only[oS.d,J0,J1,J2,J3,J4,J5,J6,J7,J8,↓reduceIte,reduceCtorEq,v4];refine⟨(i-j,j,rs'),⟨by show 1≤i-j;omega,hj,D1++Y1,Xb,Xa,E1,by show rs'=_;rw[hp'];simp,by show Xb.length=i-j;omega,hXa,by show P.length+(D1++Y1).length+(i-j)=m;simp;omega,by rw[←hT];simp⟩,by show i-j+j<i+j;omega,?_⟩;exact(aP [0,1] rfl rfl rfl rfl)
theorem j97 {lt:ByteArray→ByteArray→Bool} (hlt:eK lt) (H:lV tS tE k) (hC:oK lt fc nm R) {f:FuncId} (hF:aJ kp8 f 53 (oD tS tE) []) (P X S:List (List D)) (hR:∀x∈P++(X++S),R x) (hr:∀x∈P++(X++S),x.length=k) (a b len:Nat)
  (ha:a=P.length) (hb:b=P.length+X.length) (hlen:(P++(X++S)).length=len) (hbig:len<1000000000) :
  dU f [.one (.own 0 ver len),.one (.d (.int .i64 a)),.one (.d (.int .i64 b)),.one (.fn fc [.ptr 1 0])] k ver nm (P++(X++S)) fun rs=>∃Z,Srd lt kyD Z∧Fil kyD Z X∧rs=P++(Z++S):=by
 obtain⟨b1,z1,b2,z2,hS,hb2,hz2,hk0⟩:=H.S;obtain⟨b3,z3,fs3,hE⟩:=H.E;unfold dU;refine aU mixed hF (by simp) ?_;show vwp kp8 2 (oD tS tE) _ [(0,.one (.own 0 ver len)),(1,.one (.d (.int .i64 a))),(2,.one (.d (.int .i64 b))),(3,.one (.fn fc [.ptr 1 0]))] [.arr false k ver (P++(X++S)),.box [.fn nm []]];unfold oD;rw[aO];simp only[kq3]at hlen;have w0:=bQ (a:=a) rfl (by omega);simp -implicitDefEqProofs only[oS.d,J0,J1,J2,J3,J4,J5,J6,J7,J8,↓reduceIte,reduceCtorEq,w0];refine bE (α:=Nat×List (List D)) (fun x=>[(8,.one (.d (.int .i64 x.1))),(0,.one (.own 0 ver len)),(1,.one (.d (.int .i64 a))),(2,.one (.d (.int .i64 b))),(3,.one (.fn fc [.ptr 1 0]))]) (fun x=>[.arr false k ver x.2,.box [.fn nm []]])
  (fun x=>a+1≤x.1∧∃Z,Srd lt kyD Z∧Fil kyD Z (X.take (x.1-a))∧x.2=P++(Z++(X.drop (x.1-a)++S))) (fun x=>len-x.1) (a+1,P++(X++S))
  (aP [0,1] rfl rfl rfl rfl) ⟨ks0 _,X.take 1,by cases X<;>simp[Srd],by show Fil kyD _ (X.take (a+1-a));rw[kv3];exact kn8,by show _=P++(X.take 1++(X.drop (a+1-a)++S));rw[kv3,←List.append_assoc (X.take 1),ku9]⟩ ?_
 rintro⟨i,rs⟩ ⟨hi,Z,hZ,hZf,hp⟩;simp only at hi hZf hp;rcases ks3 i b with h|h
 ·have hc:((i:Int)<(b:Int))=True:=by simp;omega
  have w1:=bQ (a:=i) rfl (by omega);obtain⟨x,hx0⟩:=bK (l:=X) (i:=i-a) (by omega);have hZl:Z.length=i-a:=by rw[hZf.len,kt3];omega
  have hZX:∀z∈Z,z∈X:=fun z hz=>ky1 (hZf.mem hz);have hxX:x∈X:=kq0 hx0;rw[wV hx0]at hp;have hin:i+1-a=i-a+1:=by omega
  simp -implicitDefEqProofs only[oS.d,J0,J1,J2,J3,J4,J5,J6,J7,J8,↓reduceIte,reduceCtorEq,hc];refine bE (α:=Nat×List (List D)) (fun x=>[(9,.one (.d (.int .i64 x.1))),(8,.one (.d (.int .i64 i))),(0,.one (.own 0 ver len)),(1,.one (.d (.int .i64 a))),(2,.one (.d (.int .i64 b))),(3,.one (.fn fc [.ptr 1 0]))]) (fun x=>[.arr false k ver x.2,.box [.fn nm []]])
   (fun q=>∃U V,Z=U++V∧q.1=a+U.length∧(∀v∈V,lt (kyD x) (kyD v)=true)∧q.2=P++(U++x::(V++(X.drop (i-a+1)++S)))) (fun x=>x.1) (i,rs)
   (aP [0,1] rfl rfl rfl rfl) ⟨Z,[],by simp,by show i=a+Z.length;omega,by simp,by rw[hp];simp⟩ ?_
  rintro⟨j,ss⟩ ⟨U,V,hUV,hj,hV,hq⟩;simp only at hj hq;have hmem:∀z∈ss,z∈P++(X++S):=by
   intro z hz;rw[hq]at hz;simp only[kt5,kt6]at hz ⊢;rcases hz with h|h|rfl|h|h|h
   ·exact .inl h
   ·exact .inr (.inl (hZX z (by rw[hUV];simp[h])))
   ·exact .inr (.inl hxX)
   ·exact .inr (.inl (hZX z (by rw[hUV];simp[h])))
   ·exact .inr (.inl (kC1 h))
   ·exact .inr (.inr h)
  have hfin:(∀u∈U,Lq lt kyD u x)→∃Z2,Srd lt kyD Z2∧Fil kyD Z2 (X.take (i+1-a))∧ss=P++(Z2++(X.drop (i+1-a)++S)):=by
   intro hU;have hm:=Mrg.ins hlt (x:=x) (hUV▸hZ) hV hU;refine⟨U++x::V,hm.1,?_,by rw[hq,hin];simp⟩;rw[hin,wW hx0];exact hm.2.trans ((hUV▸hZf).app kn8)
  have hUZ:Srd lt kyD U:=(kL.1 (hUV▸hZ)).1;have hUl:U.length≤i-a:=by have:=congrArg List.length hUV;simp only[kq3]at this;omega
  rcases ks3 a j with h2|h2
  ·have hd:((a:Int)<(j:Int))=True:=by simp;omega
   rcases List.eq_nil_or_concat U with rfl|⟨U2,y,rfl⟩
   ·simp at hj;omega
   simp only[List.concat_eq_append]at *;have hUl2:j=a+U2.length+1:=by rw[hj];simp;omega
   have e:ss=(P++U2)++y::([]++x::(V++(X.drop (i-a+1)++S))):=by rw[hq];simp
   obtain⟨gy,gx,gs⟩:=zk0 (U:=P++U2) (V:=[]) (W:=V++(X.drop (i-a+1)++S)) (x:=y) (y:=x) (i:=j-1) (j:=j) (by simp;omega) (by simp;omega);rw[←e]at gx gy gs;have hx:=gx;have hy:=gy;have hxk:=hr x (hmem x (kq0 hx));have hyk:=hr y (hmem y (kq0 hy));have hRx:=hR x (hmem x (kq0 hx));have hRy:=hR y (hmem y (kq0 hy));have hjl:=(kp9.1 hx).1;have hssl:ss.length=len:=by
    have:=congrArg List.length hUV;have h3:=congrArg List.length hq;simp only[kq3,kr4,kx9,List.length_nil]at this h3;have hal:i-a<X.length:=(kp9.1 hx0).1;omega
   have hgs2:(ss.set j y).set (j-1) x=(P++U2)++x::([]++y::(V++(X.drop (i-a+1)++S))):=by rw[←gs,kK1 _ _ (by omega)]
   clear gs gx gy e;have hy2:=zj9 (i:=j) (rows:=ss) hjl hy;have w2:=zg8 (a:=j) (c:=j-1) (by omega) (by omega);have l1:(j:Int)<(len:Int):=by omega
   have l2:((j-1:Nat):Int)<(len:Int):=by omega
   clear hq hmem;simp -implicitDefEqProofs only[oS.d,J0,J1,J2,J3,J4,J5,J6,J7,J8,↓reduceIte,reduceCtorEq,iL hS rfl,cQ hE,dR hE,hd,w2,l1,l2,hx,hy,hxk,hyk,kq2,kq4,kr8,jJ hxk,jJ hyk];refine za7 hC hRx hRy fun c hc0=>?_;rcases kC9 c 0 with h3|h3
   ·have he:(c<0)=True:=by simp;omega
    simp -implicitDefEqProofs only[oS.d,J0,J1,J2,J3,J4,J5,J6,J7,J8,↓reduceIte,reduceCtorEq,iL hS rfl,cQ hE,dR hE,he,w2,l1,l2,hx,hy,hxk,hyk,hy2,kq2,kq4,kr8,jJ hxk,jJ hyk,wS,wT,qR hxk,qR hyk];refine⟨(j-1,(ss.set j y).set (j-1) x),⟨U2,y::V,by rw[hUV];simp,by show j-1=a+U2.length;omega,fun v hv=>?_,?_⟩,by show j-1<j;omega,?_⟩
    ·rcases kt6.1 hv with rfl|hv
     ·exact hc0.1 h3
     ·exact hV v hv
    ·show(ss.set j y).set (j-1) x=_;rw[hgs2];simp
    ·exact(aP [0,1] rfl rfl rfl rfl)
   ·have he:(c<0)=False:=by simp;omega
    have hle:Lq lt kyD y x:=by
     unfold Lq;cases e:lt (kyD x) (kyD y)with
     |false=>rfl
     |true=>have:=hc0.2 e;omega
    obtain⟨Z2,g1,g2,g3⟩:=hfin (zI3 hlt hUZ fun u hu=>by simp at hu;rw[←hu];exact hle);simp -implicitDefEqProofs only[oS.d,J0,J1,J2,J3,J4,J5,J6,J7,J8,↓reduceIte,reduceCtorEq,he,w1];refine⟨(i+1,ss),⟨by show a+1≤i+1;omega,Z2,g1,g2,g3⟩,by show len-(i+1)<len-i;omega,?_⟩;exact(aP [0,1] rfl rfl rfl rfl)
  ·have hd:((a:Int)<(j:Int))=False:=by simp;omega
   have hU0:U=[]:=ku2.1 (by omega);obtain⟨Z2,g1,g2,g3⟩:=hfin (by rw[hU0];simp);clear hq;simp -implicitDefEqProofs only[oS.d,J0,J1,J2,J3,J4,J5,J6,J7,J8,↓reduceIte,reduceCtorEq,hd,w1];refine⟨(i+1,ss),⟨by show a+1≤i+1;omega,Z2,g1,g2,g3⟩,by show len-(i+1)<len-i;omega,?_⟩;exact(aP [0,1] rfl rfl rfl rfl)
 ·have hc:((i:Int)<(b:Int))=False:=by simp;omega
  rw[kw3 (by omega),List.nil_append]at hp;rw[kq6 (by omega)]at hZf;simp -implicitDefEqProofs only[oS.d,J0,J1,J2,J3,J4,J5,J6,J7,J8,↓reduceIte,reduceCtorEq,hc];apply aH [0,1];rfl;rfl;exact⟨rfl,_,⟨Z,hZ,hZf,hp⟩,rfl⟩
end
section
variable {tS tE tF:TypeId} {k:Nat} {fc nm:FuncId} {R:List D→Prop} {ver:Nat}
def Agr (T' T:Sl):Prop:=T'.lookup 0=T.lookup 0∧T'.lookup 1=T.lookup 1∧T'.lookup 2=T.lookup 2∧T'.lookup 3=T.lookup 3∧T'.lookup 4=T.lookup 4∧T'.lookup 18=T.lookup 18∧T'.lookup 20=T.lookup 20∧T'.lookup 24=T.lookup 24
theorem jf9 {f:FuncId} (hne:f≠288) {len:Nat} (rows:List (List D)) (G:List (List D)→Prop) (p q r:Nat) {T:Sl} {Q:VX→Sl→aB→Prop} (t0:T.lookup 0=some (.one (.own 0 ver len))) (t1:T.lookup 20=some (.one (.d (.int .i64 p)))) (t2:T.lookup 2=some (.one (.d (.int .i64 q)))) (t3:T.lookup 24=some (.one (.d (.int .i64 r)))) (t4:T.lookup 4=some (.one (.fn fc [.ptr 1 0])))
  (hcall:p<q→q<r→dU f [.one (.own 0 ver len),.one (.d (.int .i64 p)),.one (.d (.int .i64 q)),.one (.d (.int .i64 r)),.one (.fn fc [.ptr 1 0])] k ver nm rows G) (hno:¬(p<q∧q<r)→G rows)
  (hQ:∀T',Agr T' T→∀rows',G rows'→Q .normal T' [.arr false k ver rows',.box [.fn nm []]]):vwp kp8 2 (zF1 tS tF f) Q T [.arr false k ver rows,.box [.fn nm []]]:=by
 unfold zF1;rw[aO];rcases ks3 p q with h1|h1
 ·have e1:((p:Int)<(q:Int))=True:=by simp;omega
  rcases ks3 q r with h2|h2
  ·have e2:((q:Int)<(r:Int))=True:=by simp;omega
   have hc:=hcall h1 h2;unfold dU at hc;simp -implicitDefEqProofs only[oS.d,J0,J1,J2,J3,J4,J5,J6,J7,J8,↓reduceIte,reduceCtorEq,e1,e2,t0,t1,t2,t3,t4,hne];refine bJ [0,1] (hc) rfl rfl rfl ?_;rintro _ _ ⟨rfl,rs',hp',rfl⟩;refine⟨_,_,rfl,?_⟩;simp -implicitDefEqProofs only[oS.d,J0,J1,J2,J3,J4,J5,J6,J7,J8,↓reduceIte,reduceCtorEq];exact hQ _ (by exact⟨rfl,rfl,rfl,rfl,rfl,rfl,rfl,rfl⟩) _ hp'
  ·have e2:((q:Int)<(r:Int))=False:=by simp;omega
   simp -implicitDefEqProofs only[oS.d,J0,J1,J2,J3,J4,J5,J6,J7,J8,↓reduceIte,reduceCtorEq,e1,e2,t0,t1,t2,t3,t4];exact hQ _ (by exact⟨rfl,rfl,rfl,rfl,rfl,rfl,rfl,rfl⟩) _ (hno (by omega))
 ·have e1:((p:Int)<(q:Int))=False:=by simp;omega
  simp -implicitDefEqProofs only[oS.d,J0,J1,J2,J3,J4,J5,J6,J7,J8,↓reduceIte,reduceCtorEq,e1,t0,t1,t2,t3,t4];exact hQ _ (by exact⟨rfl,rfl,rfl,rfl,rfl,rfl,rfl,rfl⟩) _ (hno (by omega))
theorem jg0 {f:FuncId} (hne:f≠288) {len:Nat} (rows:List (List D)) (G:List (List D)→Prop) (p q r:Nat) {T:Sl} {Q:VX→Sl→aB→Prop} (t0:T.lookup 0=some (.one (.own 0 ver len))) (t1:T.lookup 1=some (.one (.d (.int .i64 p)))) (t2:T.lookup 20=some (.one (.d (.int .i64 q)))) (t3:T.lookup 18=some (.one (.d (.int .i64 r)))) (t4:T.lookup 4=some (.one (.fn fc [.ptr 1 0])))
  (hcall:p<q→q<r→dU f [.one (.own 0 ver len),.one (.d (.int .i64 p)),.one (.d (.int .i64 q)),.one (.d (.int .i64 r)),.one (.fn fc [.ptr 1 0])] k ver nm rows G) (hno:¬(p<q∧q<r)→G rows)
  (hQ:∀T',Agr T' T→∀rows',G rows'→Q .normal T' [.arr false k ver rows',.box [.fn nm []]]):vwp kp8 2 (zF2 tS tF f) Q T [.arr false k ver rows,.box [.fn nm []]]:=by
 unfold zF2;rw[aO];rcases ks3 p q with h1|h1
 ·have e1:((p:Int)<(q:Int))=True:=by simp;omega
  rcases ks3 q r with h2|h2
  ·have e2:((q:Int)<(r:Int))=True:=by simp;omega
   have hc:=hcall h1 h2;unfold dU at hc;simp -implicitDefEqProofs only[oS.d,J0,J1,J2,J3,J4,J5,J6,J7,J8,↓reduceIte,reduceCtorEq,e1,e2,t0,t1,t2,t3,t4,hne];refine bJ [0,1] (hc) rfl rfl rfl ?_;rintro _ _ ⟨rfl,rs',hp',rfl⟩;refine⟨_,_,rfl,?_⟩;simp -implicitDefEqProofs only[oS.d,J0,J1,J2,J3,J4,J5,J6,J7,J8,↓reduceIte,reduceCtorEq];exact hQ _ (by exact⟨rfl,rfl,rfl,rfl,rfl,rfl,rfl,rfl⟩) _ hp'
  ·have e2:((q:Int)<(r:Int))=False:=by simp;omega
   simp -implicitDefEqProofs only[oS.d,J0,J1,J2,J3,J4,J5,J6,J7,J8,↓reduceIte,reduceCtorEq,e1,e2,t0,t1,t2,t3,t4];exact hQ _ (by exact⟨rfl,rfl,rfl,rfl,rfl,rfl,rfl,rfl⟩) _ (hno (by omega))
 ·have e1:((p:Int)<(q:Int))=False:=by simp;omega
  simp -implicitDefEqProofs only[oS.d,J0,J1,J2,J3,J4,J5,J6,J7,J8,↓reduceIte,reduceCtorEq,e1,t0,t1,t2,t3,t4];exact hQ _ (by exact⟨rfl,rfl,rfl,rfl,rfl,rfl,rfl,rfl⟩) _ (hno (by omega))
theorem jg1 {f:FuncId} (hne:f≠288) {len:Nat} (rows:List (List D)) (G:List (List D)→Prop) (p q r:Nat) {T:Sl} {Q:VX→Sl→aB→Prop} (t0:T.lookup 0=some (.one (.own 0 ver len))) (t1:T.lookup 18=some (.one (.d (.int .i64 p)))) (t2:T.lookup 24=some (.one (.d (.int .i64 q)))) (t3:T.lookup 3=some (.one (.d (.int .i64 r)))) (t4:T.lookup 4=some (.one (.fn fc [.ptr 1 0])))
  (hcall:p<q→q<r→dU f [.one (.own 0 ver len),.one (.d (.int .i64 p)),.one (.d (.int .i64 q)),.one (.d (.int .i64 r)),.one (.fn fc [.ptr 1 0])] k ver nm rows G) (hno:¬(p<q∧q<r)→G rows)
  (hQ:∀T',Agr T' T→∀rows',G rows'→Q .normal T' [.arr false k ver rows',.box [.fn nm []]]):vwp kp8 2 (zF3 tS tF f) Q T [.arr false k ver rows,.box [.fn nm []]]:=by
 unfold zF3;rw[aO];rcases ks3 p q with h1|h1
 ·have e1:((p:Int)<(q:Int))=True:=by simp;omega
  rcases ks3 q r with h2|h2
  ·have e2:((q:Int)<(r:Int))=True:=by simp;omega
   have hc:=hcall h1 h2;unfold dU at hc;simp -implicitDefEqProofs only[oS.d,J0,J1,J2,J3,J4,J5,J6,J7,J8,↓reduceIte,reduceCtorEq,e1,e2,t0,t1,t2,t3,t4,hne];refine bJ [0,1] (hc) rfl rfl rfl ?_;rintro _ _ ⟨rfl,rs',hp',rfl⟩;refine⟨_,_,rfl,?_⟩;simp -implicitDefEqProofs only[oS.d,J0,J1,J2,J3,J4,J5,J6,J7,J8,↓reduceIte,reduceCtorEq];exact hQ _ (by exact⟨rfl,rfl,rfl,rfl,rfl,rfl,rfl,rfl⟩) _ hp'
  ·have e2:((q:Int)<(r:Int))=False:=by simp;omega
   simp -implicitDefEqProofs only[oS.d,J0,J1,J2,J3,J4,J5,J6,J7,J8,↓reduceIte,reduceCtorEq,e1,e2,t0,t1,t2,t3,t4];exact hQ _ (by exact⟨rfl,rfl,rfl,rfl,rfl,rfl,rfl,rfl⟩) _ (hno (by omega))
 ·have e1:((p:Int)<(q:Int))=False:=by simp;omega
  simp -implicitDefEqProofs only[oS.d,J0,J1,J2,J3,J4,J5,J6,J7,J8,↓reduceIte,reduceCtorEq,e1,t0,t1,t2,t3,t4];exact hQ _ (by exact⟨rfl,rfl,rfl,rfl,rfl,rfl,rfl,rfl⟩) _ (hno (by omega))
theorem zk1 {α:Type} {P X S:List α} {i:Nat} (h:i<X.length):(P++(X++S))[P.length+i]?=X[i]?:=by
 rw[kr5 (by omega),kv3,List.getElem?_append_left h]
theorem zk2 {α:Type} {l:List α} {u:α} (h:l.getLast?=some u):l[l.length-1]?=some u:=by rw[List.getLast?_eq_getElem?]at h;exact h
theorem jg2 {lt:ByteArray→ByteArray→Bool} (hlt:eK lt) {P X Y S rows:List (List D)} (hrows:rows=P++(X++(Y++S))) (hX:Srd lt kyD X) (hY:Srd lt kyD Y) {a m b s e n:Nat} (ha:a=P.length) (hm:m=P.length+X.length) (hb:b=P.length+X.length+Y.length)
  (h1:a≤s) (h2:s≤m) (h3:m≤e) (h4:e≤b) (hn:s+e=n)
  (c1:a<s→e<b→∃u v,rows[s-1]?=some u∧rows[n-s]?=some v∧lt (kyD v) (kyD u)=false) (c2:s<m→m<e→∃u v,rows[s]?=some u∧rows[n-1-s]?=some v∧lt (kyD v) (kyD u)=true) :
  ∃X1 X2 Y1 Y2,X=X1++X2∧Y=Y1++Y2∧X1.length=s-a∧Y1.length=e-m∧(∀y∈Y1,∀x∈X2,lt (kyD y) (kyD x)=true)∧(∀x∈X1,∀y∈Y2,Lq lt kyD x y):=by
 have gX:∀i,a≤i→i<m→rows[i]?=X[i-a]?:=by
  intro i hi hi2;have:=zk1 (P:=P) (X:=X) (S:=Y++S) (i:=i-a) (by omega);rw[show P.length+(i-a)=i by omega]at this;rw[hrows,this]
 have gY:∀i,m≤i→i<b→rows[i]?=Y[i-m]?:=by
  intro i hi hi2;have:=zk1 (P:=P++X) (X:=Y) (S:=S) (i:=i-m) (by omega);rw[show(P++X).length+(i-m)=i by simp;omega]at this;rw[hrows,←this];simp
 refine⟨X.take (s-a),X.drop (s-a),Y.take (e-m),Y.drop (e-m),(ku9 _ _).symm,(ku9 _ _).symm,by rw[kt3];omega,by rw[kt3];omega,?_,?_⟩
 ·intro y hy x hx;have hX2:Srd lt kyD (X.drop (s-a)):=kz9.sublist (kC5 _ _) hX;have hY1:Srd lt kyD (Y.take (e-m)):=kz9.sublist (kC6 _ _) hY;have l1:=ky9 hy;have l2:=ky9 hx;rw[kt3]at l1;rw[kx9]at l2;obtain⟨u,v,g1,g2,g3⟩:=c2 (by omega) (by omega);rw[gX s h1 (by omega)]at g1;rw[show n-1-s=e-1 by omega,gY (e-1) (by omega) (by omega)]at g2;have k1:∀y∈Y.take (e-m),lt (kyD y) (kyD u)=true:=z94 hlt hY1 fun w hw=>by
   have:=zk2 hw;rw[kt3,kC7 (by omega),ks5 (by omega),show e-m-1=e-1-m by omega,g2]at this;cases this;exact g3
  exact z95 hlt hX2 (fun w hw=>by
   rw[kv4,kA5,g1]at hw;cases hw;exact k1 y hy) x hx
 ·intro x hx y hy;have hX1:Srd lt kyD (X.take (s-a)):=kz9.sublist (kC6 _ _) hX;have hY2:Srd lt kyD (Y.drop (e-m)):=kz9.sublist (kC5 _ _) hY;have l1:=ky9 hx;have l2:=ky9 hy;rw[kt3]at l1;rw[kx9]at l2;obtain⟨u,v,g1,g2,g3⟩:=c1 (by omega) (by omega);rw[gX (s-1) (by omega) (by omega)]at g1;rw[show n-s=e by omega,gY e h3 (by omega)]at g2;have k1:∀x∈X.take (s-a),Lq lt kyD x v:=zI3 hlt hX1 fun w hw=>by
   have:=zk2 hw;rw[kt3,kC7 (by omega),ks5 (by omega),show s-a-1=s-1-a by omega,g1]at this;cases this;exact g3
  exact z96 hlt hY2 (fun w hw=>by
   rw[kv4,kA5,g2]at hw;cases hw;exact k1 x hx) y hy
theorem jg3 {lt:ByteArray→ByteArray→Bool} (hlt:eK lt) (H:lV tS tE k) (hC:oK lt fc nm R) {fM fO fR:FuncId} (hR2:aJ kp8 fR 38 (mJ tS tE) []) (hO:aJ kp8 fO 58 (nL tS tF fR) []) (hF:aJ kp8 fM 220 (oE tS tE tF fO fM) [])
  (hne:fR≠288) (hne2:fO≠288) (hne3:fM≠288):∀(d:Nat) (P X Y S:List (List D)) (_:1≤X.length) (_:1≤Y.length) (_:Srd lt kyD X) (_:Srd lt kyD Y) (_:∀x∈P++(X++(Y++S)),R x) (_:∀x∈P++(X++(Y++S)),x.length=k) (a m b len:Nat) (_:X.length+Y.length≤d)
  (_:a=P.length) (_:m=P.length+X.length) (_:b=P.length+X.length+Y.length) (_:(P++(X++(Y++S))).length=len) (_:len<1000000000),
  dU fM [.one (.own 0 ver len),.one (.d (.int .i64 a)),.one (.d (.int .i64 m)),.one (.d (.int .i64 b)),.one (.fn fc [.ptr 1 0])] k ver nm (P++(X++(Y++S))) fun rs=>∃Z,Mrg lt kyD X Y Z∧rs=P++(Z++S)
 |0,_,_,_,_,hX1,hY1,_,_,_,_,_,_,_,_,hd,_,_,_,_,_=>by omega
 |d+1,P,X,Y,S,hX1,hY1,hXs,hYs,hR,hr,a,m,b,len,hd,hPa,hPm,hPb,hlen0,hbig=>by
  obtain⟨b1,z1,b2,z2,hS,hb2,hz2,hk0⟩:=H.S;obtain⟨b3,z3,fs3,hE⟩:=H.E;have ih:=jg3 hlt H hC hR2 hO hF hne hne2 hne3 d;have hlen:=hlen0;simp only[kq3]at hlen;have ha:a<m:=by omega
  have hm:m<b:=by omega
  have hb:b≤len:=by omega
  have hrl:(P++(X++(Y++S))).length=len:=hlen0;obtain⟨rows,hrows⟩:∃rows,rows=P++(X++(Y++S)):=⟨_,rfl⟩;rw[←hrows]at hR hr hrl ⊢;have gX:∀t,t<X.length→rows[a+t]?=X[t]?:=fun t ht=>by rw[hrows,hPa];exact zk1 ht
  have gY:∀t,t<Y.length→rows[m+t]?=Y[t]?:=fun t ht=>by
   have:=zk1 (P:=P++X) (X:=Y) (S:=S) ht;rw[hrows,show m+t=(P++X).length+t by simp;omega,←this];simp
  unfold dU at ih ⊢;refine aU mixed hF (by simp) ?_;show vwp kp8 2 (oE tS tE tF fO fM) _ [(0,.one (.own 0 ver len)),(1,.one (.d (.int .i64 a))),(2,.one (.d (.int .i64 m))),(3,.one (.d (.int .i64 b))),(4,.one (.fn fc [.ptr 1 0]))] [.arr false k ver rows,.box [.fn nm []]];unfold oE;rw[aO];have w1:=mM (a:=m) (b:=a) (c:=m-a) (by omega) (by omega);have w2:=mM (a:=b) (b:=m) (c:=b-m) (by omega) (by omega);by_cases h1:m-a=1
  ·have hc:(((m-a:Nat):Int)=1)=True:=by simp;omega
   simp -implicitDefEqProofs only[oS.d,J0,J1,J2,J3,J4,J5,J6,J7,J8,↓reduceIte,reduceCtorEq,w1,hc];refine bE (α:=Nat×Nat) (fun x=>[(10,.one (.d (.int .i64 x.1))),(11,.one (.d (.int .i64 x.2))),(0,.one (.own 0 ver len)),(1,.one (.d (.int .i64 a))),(4,.one (.fn fc [.ptr 1 0]))]) (fun x=>[.arr false k ver rows,.box [.fn nm []]])
    (fun x=>(m≤x.1∧x.1≤x.2∧x.2≤b)∧(m<x.1→∃u w,rows[x.1-1]?=some u∧rows[a]?=some w∧lt (kyD u) (kyD w)=true)∧(x.2<b→∃u w,rows[x.2]?=some u∧rows[a]?=some w∧lt (kyD u) (kyD w)=false)) (fun x=>x.2-x.1) (m,b)
    (aP [0,1] rfl rfl rfl rfl) ⟨⟨ks0 _,by show m≤b;omega,ks0 _⟩,fun h=>absurd h (kA2 _),fun h=>absurd h (kA2 _)⟩ ?_
   rintro⟨i,j⟩ ⟨⟨hi,hij,hj⟩,hc8,hc9⟩;simp only at hi hij hj hc8 hc9;rcases ks3 i j with h|h
   ·have hc2:((i:Int)<(j:Int))=True:=by simp;omega
    have v1:=oG (a:=i) (b:=j) rfl (by omega);have v2:=za4 (n:=i+j) (by omega);have v3:=za5 (n:=i+j);have v4:=za6 (n:=(i+j) / 2) (by omega);have v5:=bQ (a:=(i+j) / 2) rfl (by omega);obtain⟨x,hx⟩:=bK (l:=rows) (i:=(i+j) / 2) (by omega);obtain⟨y,hy⟩:=bK (l:=rows) (i:=a) (by omega);have hxk:=hr x (kq0 hx);have hyk:=hr y (kq0 hy);have l1:(((i+j) / 2:Nat):Int)<(len:Int):=by omega
    have l2:(a:Int)<(len:Int):=by omega
    simp -implicitDefEqProofs only[oS.d,J0,J1,J2,J3,J4,J5,J6,J7,J8,↓reduceIte,reduceCtorEq,iL hS rfl,cQ hE,dR hE,hc2,v1,v2,v3,v4,wU,l1,l2,hx,hy,hxk,hyk,kq2,kq4,kr8,jJ hxk,jJ hyk];refine za7 hC (hR x (kq0 hx)) (hR y (kq0 hy)) fun c hc0=>?_;rcases kC9 c 0 with h3|h3
    ·have he:(c<0)=True:=by simp;omega
     simp -implicitDefEqProofs only[oS.d,J0,J1,J2,J3,J4,J5,J6,J7,J8,↓reduceIte,reduceCtorEq,he,v5];refine⟨((i+j) / 2+1,j),⟨⟨by show m≤(i+j) / 2+1;omega,by show(i+j) / 2+1≤j;omega,hj⟩,fun _=>⟨x,y,by show rows[(i+j) / 2+1-1]?=_;rw[kC3];exact hx,hy,hc0.1 h3⟩,hc9⟩,by show j-((i+j) / 2+1)<j-i;omega,?_⟩;exact(aP [0,1] rfl rfl rfl rfl)
    ·have he:(c<0)=False:=by simp;omega
     have hcf:lt (kyD x) (kyD y)=false:=by
      cases e:lt (kyD x) (kyD y)with
      |false=>rfl
      |true=>have:=hc0.2 e;omega
     simp -implicitDefEqProofs only[oS.d,J0,J1,J2,J3,J4,J5,J6,J7,J8,↓reduceIte,reduceCtorEq,he];refine⟨(i,(i+j) / 2),⟨⟨hi,by show i≤(i+j) / 2;omega,by show(i+j) / 2≤b;omega⟩,hc8,fun _=>⟨x,y,hx,hy,hcf⟩⟩,by show(i+j) / 2-i<j-i;omega,?_⟩;exact(aP [0,1] rfl rfl rfl rfl)
   ·have hc2:((i:Int)<(j:Int))=False:=by simp;omega
    simp -implicitDefEqProofs only[oS.d,J0,J1,J2,J3,J4,J5,J6,J7,J8,↓reduceIte,reduceCtorEq,hc2];obtain⟨x0,hX0⟩:∃x0,X=[x0]:=kH0.1 (by omega);have gx:rows[a]?=some x0:=by have:=gX 0 (by omega);rw[hX0]at this;simpa using this
    have hA:∀u∈Y.take (i-m),lt (kyD u) (kyD x0)=true:=z94 hlt (kz9.sublist (kC6 _ _) hYs) fun w hw=>by
     have h5:=zk2 hw;have h6:=(kp9.1 h5).1;rw[kt3,kC7 (by omega)]at h5 h6;rw[ks5 (by omega)]at h5;obtain⟨u,w',e1,e2,e3⟩:=hc8 (by omega);rw[gx]at e2;cases e2;have:=gY (i-m-1) (by omega);rw[show m+(i-m-1)=i-1 by omega,e1,h5]at this;cases this;exact e3
    have hB:∀v∈Y.drop (i-m),Lq lt kyD x0 v:=z96 hlt (kz9.sublist (kC5 _ _) hYs) fun w hw=>by
     rw[kv4,kA5]at hw;have h6:=(kp9.1 hw).1;obtain⟨u,w',e1,e2,e3⟩:=hc9 (by omega);rw[gx]at e2;cases e2;have:=gY (i-m) h6;rw[show m+(i-m)=j by omega,e1,hw]at this;cases this;exact e3
    have hMrg:=Mrg.ahead hlt (x:=x0) (U:=Y.take (i-m)) (V:=Y.drop (i-m)) (by rw[ku9];exact hYs) hA hB;rw[ku9]at hMrg;have hxk:=hr x0 (kq0 gx);have hyks:∀y∈Y,y.length=k:=fun y hy=>hr y (by rw[hrows];simp[hy]);have hst:rows=P++(Y.take (a-a)++x0::(Y.drop (a-a)++S)):=by rw[hrows,hX0];simp
    clear hA hB hc8 hc9 gX gY hr hR;clear hrows;refine bE (α:=Nat×List (List D)) (fun x=>[(13,.one (.d (.int .i64 x.1))),(10,.one (.d (.int .i64 i))),(0,.one (.own 0 ver len))]) (fun x=>[.arr false k ver x.2,.box [.fn nm []]])
     (fun x=>(a≤x.1∧x.1≤i-1)∧x.2=P++(Y.take (x.1-a)++x0::(Y.drop (x.1-a)++S))) (fun x=>len-x.1) (a,rows)
     (aP [0,1] rfl rfl rfl rfl) ⟨⟨ks0 _,by show a≤i-1;omega⟩,hst⟩ ?_
    rintro⟨q,rs⟩ ⟨⟨hq,hq2⟩,hp⟩;simp only at hq hq2 hp;have v1:=zg8 (a:=i) (c:=i-1) (by omega) (by omega);rcases ks3 q (i-1)with h4|h4
    ·have hc4:((q:Int)<((i-1:Nat):Int))=True:=by simp;omega
     have v2:=bQ (a:=q) rfl (by omega);obtain⟨y,hy0⟩:=bK (l:=Y) (i:=q-a) (by omega);have hyk:=hyks y (kq0 hy0);have e:rs=(P++Y.take (q-a))++x0::([]++y::(Y.drop (q-a+1)++S)):=by rw[hp,wV hy0];simp
     obtain⟨hx,hy,gs⟩:=zk0 (U:=P++Y.take (q-a)) (V:=[]) (W:=Y.drop (q-a+1)++S) (x:=x0) (y:=y) (i:=q) (j:=q+1) (by simp;omega) (by simp;omega);rw[←e]at hx hy gs;have hrl2:rs.length=len:=by
      have h3:=congrArg List.length hp;simp only[kq3,kr4,kt3,kx9]at h3;omega
     clear e hp;have hy2:=zj9 (i:=q) (rows:=rs) (by omega) hy;have l1:(q:Int)<(len:Int):=by omega
     have l2:((q+1:Nat):Int)<(len:Int):=by omega
     simp -implicitDefEqProofs only[oS.d,J0,J1,J2,J3,J4,J5,J6,J7,J8,↓reduceIte,reduceCtorEq,iL hS rfl,cQ hE,dR hE,hc4,v1,v2,l1,l2,hx,hy,hxk,hyk,hy2,kq2,kq4,kr8,jJ hxk,jJ hyk,wS,wT,qR hxk,qR hyk];refine⟨(q+1,(rs.set q y).set (q+1) x0),⟨⟨by show a≤q+1;omega,by show q+1≤i-1;omega⟩,?_⟩,by show len-(q+1)<len-q;omega,?_⟩
     ·show(rs.set q y).set (q+1) x0=P++(Y.take (q+1-a)++x0::(Y.drop (q+1-a)++S));rw[gs,show q+1-a=q-a+1 by omega,wW hy0];simp
     exact(aP [0,1] rfl rfl rfl rfl)
    ·have hc4:((q:Int)<((i-1:Nat):Int))=False:=by simp;omega
     have hqe:q-a=i-m:=by omega
     rw[hqe]at hp;simp -implicitDefEqProofs only[oS.d,J0,J1,J2,J3,J4,J5,J6,J7,J8,↓reduceIte,reduceCtorEq,v1,hc4];apply aH [0,1];rfl;rfl;exact⟨rfl,_,⟨_,hX0▸hMrg,by rw[hp];simp⟩,rfl⟩
  by_cases h2:b-m=1
  ·have hc:(((m-a:Nat):Int)=1)=False:=by simp;omega
   have hc1:(((b-m:Nat):Int)=1)=True:=by simp;omega
   simp -implicitDefEqProofs only[oS.d,J0,J1,J2,J3,J4,J5,J6,J7,J8,↓reduceIte,reduceCtorEq,w1,w2,hc,hc1];refine bE (α:=Nat×Nat) (fun x=>[(14,.one (.d (.int .i64 x.1))),(15,.one (.d (.int .i64 x.2))),(0,.one (.own 0 ver len)),(2,.one (.d (.int .i64 m))),(4,.one (.fn fc [.ptr 1 0]))]) (fun x=>[.arr false k ver rows,.box [.fn nm []]])
    (fun x=>(a≤x.1∧x.1≤x.2∧x.2≤m)∧(a<x.1→∃u w,rows[x.1-1]?=some u∧rows[m]?=some w∧lt (kyD w) (kyD u)=false)∧(x.2<m→∃u w,rows[x.2]?=some u∧rows[m]?=some w∧lt (kyD w) (kyD u)=true)) (fun x=>x.2-x.1) (a,m)
    (aP [0,1] rfl rfl rfl rfl) ⟨⟨ks0 _,by show a≤m;omega,ks0 _⟩,fun h=>absurd h (kA2 _),fun h=>absurd h (kA2 _)⟩ ?_
   rintro⟨i,j⟩ ⟨⟨hi,hij,hj⟩,hc8,hc9⟩;simp only at hi hij hj hc8 hc9;rcases ks3 i j with h|h
   ·have hc2:((i:Int)<(j:Int))=True:=by simp;omega
    have v1:=oG (a:=i) (b:=j) rfl (by omega);have v2:=za4 (n:=i+j) (by omega);have v3:=za5 (n:=i+j);have v4:=za6 (n:=(i+j) / 2) (by omega);have v5:=bQ (a:=(i+j) / 2) rfl (by omega);obtain⟨y,hy⟩:=bK (l:=rows) (i:=(i+j) / 2) (by omega);obtain⟨x,hx⟩:=bK (l:=rows) (i:=m) (by omega);have hxk:=hr x (kq0 hx);have hyk:=hr y (kq0 hy);have l1:(((i+j) / 2:Nat):Int)<(len:Int):=by omega
    have l2:(m:Int)<(len:Int):=by omega
    simp -implicitDefEqProofs only[oS.d,J0,J1,J2,J3,J4,J5,J6,J7,J8,↓reduceIte,reduceCtorEq,iL hS rfl,cQ hE,dR hE,hc2,v1,v2,v3,v4,wU,l1,l2,hx,hy,hxk,hyk,kq2,kq4,kr8,jJ hxk,jJ hyk];refine za7 hC (hR x (kq0 hx)) (hR y (kq0 hy)) fun c hc0=>?_;rcases kC9 c 0 with h3|h3
    ·have he:(c<0)=True:=by simp;omega
     simp -implicitDefEqProofs only[oS.d,J0,J1,J2,J3,J4,J5,J6,J7,J8,↓reduceIte,reduceCtorEq,he];refine⟨(i,(i+j) / 2),⟨⟨hi,by show i≤(i+j) / 2;omega,by show(i+j) / 2≤m;omega⟩,hc8,fun _=>⟨y,x,hy,hx,hc0.1 h3⟩⟩,by show(i+j) / 2-i<j-i;omega,?_⟩;exact(aP [0,1] rfl rfl rfl rfl)
    ·have he:(c<0)=False:=by simp;omega
     have hcf:lt (kyD x) (kyD y)=false:=by
      cases e:lt (kyD x) (kyD y)with
      |false=>rfl
      |true=>have:=hc0.2 e;omega
     simp -implicitDefEqProofs only[oS.d,J0,J1,J2,J3,J4,J5,J6,J7,J8,↓reduceIte,reduceCtorEq,he,v5];refine⟨((i+j) / 2+1,j),⟨⟨by show a≤(i+j) / 2+1;omega,by show(i+j) / 2+1≤j;omega,hj⟩,fun _=>⟨y,x,by show rows[(i+j) / 2+1-1]?=_;rw[kC3];exact hy,hx,hcf⟩,hc9⟩,by show j-((i+j) / 2+1)<j-i;omega,?_⟩;exact(aP [0,1] rfl rfl rfl rfl)
   ·have hc2:((i:Int)<(j:Int))=False:=by simp;omega
    simp -implicitDefEqProofs only[oS.d,J0,J1,J2,J3,J4,J5,J6,J7,J8,↓reduceIte,reduceCtorEq,hc2];obtain⟨y0,hY0⟩:∃y0,Y=[y0]:=kH0.1 (by omega);have gy:rows[m]?=some y0:=by have:=gY 0 (by omega);rw[hY0]at this;simpa using this
    have hA:∀u∈X.take (i-a),Lq lt kyD u y0:=zI3 hlt (kz9.sublist (kC6 _ _) hXs) fun w hw=>by
     have h5:=zk2 hw;have h6:=(kp9.1 h5).1;rw[kt3,kC7 (by omega)]at h5 h6;rw[ks5 (by omega)]at h5;obtain⟨u,w',e1,e2,e3⟩:=hc8 (by omega);rw[gy]at e2;cases e2;have:=gX (i-a-1) (by omega);rw[show a+(i-a-1)=i-1 by omega,e1,h5]at this;cases this;exact e3
    have hB:∀v∈X.drop (i-a),lt (kyD y0) (kyD v)=true:=z95 hlt (kz9.sublist (kC5 _ _) hXs) fun w hw=>by
     rw[kv4,kA5]at hw;have h6:=(kp9.1 hw).1;obtain⟨u,w',e1,e2,e3⟩:=hc9 (by omega);rw[gy]at e2;cases e2;have:=gX (i-a) h6;rw[show a+(i-a)=j by omega,e1,hw]at this;cases this;exact e3
    have hMrg:=Mrg.ins hlt (x:=y0) (U:=X.take (i-a)) (V:=X.drop (i-a)) (by rw[ku9];exact hXs) hB hA;rw[ku9]at hMrg;have hxk:=hr y0 (kq0 gy);have hyks:∀y∈X,y.length=k:=fun y hy=>hr y (by rw[hrows];simp[hy]);have hst:rows=P++(X.take (m-a)++y0::(X.drop (m-a)++S)):=by rw[hrows,hY0,kq6 (by omega),kw3 (by omega)];simp
    clear hA hB hc8 hc9 gX gY hr hR;clear hrows;refine bE (α:=Nat×List (List D)) (fun x=>[(17,.one (.d (.int .i64 x.1))),(14,.one (.d (.int .i64 i))),(0,.one (.own 0 ver len))]) (fun x=>[.arr false k ver x.2,.box [.fn nm []]])
     (fun x=>(i≤x.1∧x.1≤m)∧x.2=P++(X.take (x.1-a)++y0::(X.drop (x.1-a)++S))) (fun x=>x.1) (m,rows)
     (aP [0,1] rfl rfl rfl rfl) ⟨⟨by show i≤m;omega,ks0 _⟩,hst⟩ ?_
    rintro⟨q,rs⟩ ⟨⟨hq,hq2⟩,hp⟩;simp only at hq hq2 hp;rcases ks3 i q with h4|h4
    ·have hc4:((i:Int)<(q:Int))=True:=by simp;omega
     have v2:=zg8 (a:=q) (c:=q-1) (by omega) (by omega);obtain⟨y,hy0⟩:=bK (l:=X) (i:=q-1-a) (by omega);have hyk:=hyks y (kq0 hy0);have e:rs=(P++X.take (q-1-a))++y::([]++y0::(X.drop (q-a)++S)):=by rw[hp,show q-a=q-1-a+1 by omega,wW hy0];simp
     obtain⟨hy,hx,gs⟩:=zk0 (U:=P++X.take (q-1-a)) (V:=[]) (W:=X.drop (q-a)++S) (x:=y) (y:=y0) (i:=q-1) (j:=q) (by simp;omega) (by simp;omega);rw[←e]at hx hy gs;have hrl2:rs.length=len:=by
      have h3:=congrArg List.length hp;simp only[kq3,kr4,kt3,kx9]at h3;omega
     have hgs2:(rs.set q y).set (q-1) y0=(P++X.take (q-1-a))++y0::([]++y::(X.drop (q-a)++S)):=by rw[←gs,kK1 _ _ (by omega)]
     clear e hp gs;have hy2:=zj9 (i:=q) (rows:=rs) (by omega) hy;have l1:(q:Int)<(len:Int):=by omega
     have l2:((q-1:Nat):Int)<(len:Int):=by omega
     simp -implicitDefEqProofs only[oS.d,J0,J1,J2,J3,J4,J5,J6,J7,J8,↓reduceIte,reduceCtorEq,iL hS rfl,cQ hE,dR hE,hc4,v2,l1,l2,hx,hy,hxk,hyk,hy2,kq2,kq4,kr8,jJ hxk,jJ hyk,wS,wT,qR hxk,qR hyk];refine⟨(q-1,(rs.set q y).set (q-1) y0),⟨⟨by show i≤q-1;omega,by show q-1≤m;omega⟩,?_⟩,by show q-1<q;omega,?_⟩
     ·show(rs.set q y).set (q-1) y0=P++(X.take (q-1-a)++y0::(X.drop (q-1-a)++S));rw[hgs2,wV hy0,show q-a=q-1-a+1 by omega];simp
     exact(aP [0,1] rfl rfl rfl rfl)
    ·have hc4:((i:Int)<(q:Int))=False:=by simp;omega
     have hqe:q=i:=by omega
     subst hqe;simp -implicitDefEqProofs only[oS.d,J0,J1,J2,J3,J4,J5,J6,J7,J8,↓reduceIte,reduceCtorEq,hc4];apply aH [0,1];rfl;rfl;exact⟨rfl,_,⟨_,hY0▸hMrg,by rw[hp];simp⟩,rfl⟩
  have hc:(((m-a:Nat):Int)=1)=False:=by simp;omega
  have hc1:(((b-m:Nat):Int)=1)=False:=by simp;omega
  have v1:=oG (a:=a) (b:=b) rfl (by omega);have v2:=za4 (n:=a+b) (by omega);have v3:=za5 (n:=a+b);have v4:=za6 (n:=(a+b) / 2) (by omega);generalize hmid:(a+b) / 2=mid at *;have hmid1:a<mid:=by omega
  have hmid2:mid<b:=by omega
  have hmid3:a+b≤2*mid+1:=by omega
  have hmid4:2*mid≤a+b:=by omega
  have v5:=oG (a:=mid) (b:=m) rfl (by omega);have v6:=zg8 (a:=mid+m) (c:=mid+m-1) (by omega) (by omega);rcases ks3 mid m with h5|h5
  ·have hc5:((mid:Int)<(m:Int))=True:=by simp;omega
   have v7:=mM (a:=mid+m) (b:=b) (c:=mid+m-b) (by omega) (by omega);simp -implicitDefEqProofs only[oS.d,J0,J1,J2,J3,J4,J5,J6,J7,J8,↓reduceIte,reduceCtorEq,w1,w2,hc,hc1,v1,v2,v3,v4,wU,v5,v6,v7,hc5];refine bE (α:=Nat×Nat) (fun x=>[(20,.one (.d (.int .i64 x.1))),(21,.one (.d (.int .i64 x.2))),(22,.one (.d (.int .i64 (mid+m-1:Nat)))),(19,.one (.d (.int .i64 (mid+m:Nat)))),(18,.one (.d (.int .i64 mid))),(0,.one (.own 0 ver len)),(1,.one (.d (.int .i64 a))),(2,.one (.d (.int .i64 m))),(3,.one (.d (.int .i64 b))),(4,.one (.fn fc [.ptr 1 0]))]) (fun x=>[.arr false k ver rows,.box [.fn nm []]])
    (fun x=>((mid+m-b)≤x.1∧x.1≤x.2∧x.2≤mid)∧((mid+m-b)<x.1→∃u v,rows[x.1-1]?=some u∧rows[mid+m-x.1]?=some v∧lt (kyD v) (kyD u)=false)∧(x.2<mid→∃u v,rows[x.2]?=some u∧rows[mid+m-1-x.2]?=some v∧lt (kyD v) (kyD u)=true)) (fun x=>x.2-x.1) ((mid+m-b),mid)
    (aP [0,1] rfl rfl rfl rfl) ⟨⟨ks0 _,by show(mid+m-b)≤mid;omega,ks0 _⟩,fun h=>absurd h (kA2 _),fun h=>absurd h (kA2 _)⟩ ?_
   rintro⟨i,j⟩ ⟨⟨hi,hij,hj⟩,hc8,hc9⟩;simp only at hi hij hj hc8 hc9;rcases ks3 i j with h|h
   ·have hc2:((i:Int)<(j:Int))=True:=by simp;omega
    have u1:=oG (a:=i) (b:=j) rfl (by omega);have u2:=za4 (n:=i+j) (by omega);have u3:=za5 (n:=i+j);have u4:=za6 (n:=(i+j) / 2) (by omega);have u5:=bQ (a:=(i+j) / 2) rfl (by omega);have u6:=mM (a:=mid+m-1) (b:=(i+j) / 2) (c:=mid+m-1-(i+j) / 2) (by omega) (by omega);obtain⟨x,hx⟩:=bK (l:=rows) (i:=mid+m-1-(i+j) / 2) (by omega);obtain⟨y,hy⟩:=bK (l:=rows) (i:=(i+j) / 2) (by omega);have hxk:=hr x (kq0 hx);have hyk:=hr y (kq0 hy);have l1:(((i+j) / 2:Nat):Int)<(len:Int):=by omega
    have l2:((mid+m-1-(i+j) / 2:Nat):Int)<(len:Int):=by omega
    simp -implicitDefEqProofs only[oS.d,J0,J1,J2,J3,J4,J5,J6,J7,J8,↓reduceIte,reduceCtorEq,iL hS rfl,cQ hE,dR hE,hc2,u1,u2,u3,u4,u6,wU,l1,l2,hx,hy,hxk,hyk,kq2,kq4,kr8,jJ hxk,jJ hyk];refine za7 hC (hR x (kq0 hx)) (hR y (kq0 hy)) fun c hc0=>?_;rcases kC9 c 0 with h3|h3
    ·have he:(c<0)=True:=by simp;omega
     simp -implicitDefEqProofs only[oS.d,J0,J1,J2,J3,J4,J5,J6,J7,J8,↓reduceIte,reduceCtorEq,he];refine⟨(i,(i+j) / 2),⟨⟨hi,by show i≤(i+j) / 2;omega,by show(i+j) / 2≤mid;omega⟩,hc8,fun _=>⟨y,x,hy,hx,hc0.1 h3⟩⟩,by show(i+j) / 2-i<j-i;omega,?_⟩;exact(aP [0,1] rfl rfl rfl rfl)
    ·have he:(c<0)=False:=by simp;omega
     have hcf:lt (kyD x) (kyD y)=false:=by
      cases e:lt (kyD x) (kyD y)with
      |false=>rfl
      |true=>have:=hc0.2 e;omega
     simp -implicitDefEqProofs only[oS.d,J0,J1,J2,J3,J4,J5,J6,J7,J8,↓reduceIte,reduceCtorEq,he,u5];refine⟨((i+j) / 2+1,j),⟨⟨by show(mid+m-b)≤(i+j) / 2+1;omega,by show(i+j) / 2+1≤j;omega,hj⟩,fun _=>⟨y,x,by show rows[(i+j) / 2+1-1]?=_;rw[kC3];exact hy,by show rows[mid+m-((i+j) / 2+1)]?=_;rw[show mid+m-((i+j) / 2+1)=mid+m-1-(i+j) / 2 by omega];exact hx,hcf⟩,hc9⟩,by show j-((i+j) / 2+1)<j-i;omega,?_⟩;exact(aP [0,1] rfl rfl rfl rfl)
   ·have hc2:((i:Int)<(j:Int))=False:=by simp;omega
    have u7:=mM (a:=mid+m) (b:=i) (c:=mid+m-i) (by omega) (by omega);simp -implicitDefEqProofs only[oS.d,J0,J1,J2,J3,J4,J5,J6,J7,J8,↓reduceIte,reduceCtorEq,hc2,u7];obtain⟨X1,X2,Y1,Y2,eX,eY,lX1,lY1,c1,c2⟩:=jg2 hlt hrows hXs hYs (a:=a) (m:=m) (b:=b) (s:=i) (e:=mid+m-i) (n:=mid+m) hPa hPm hPb (by omega) (by omega) (by omega) (by omega) (by omega) (fun _ g=>hc8 (by omega)) (fun _ g=>by rw[show i=j by omega];exact hc9 (by omega));have lX:X.length=X1.length+X2.length:=by rw[eX,kq3]
    have lY:Y.length=Y1.length+Y2.length:=by rw[eY,kq3]
    have hX12:=kL.1 (eX▸hXs);have hY12:=kL.1 (eY▸hYs);have hmem:∀x,x∈P∨x∈X1∨x∈X2∨x∈Y1∨x∈Y2∨x∈S→x∈rows:=fun x h=>by
     rw[hrows,eX,eY];simp only[kt5];rcases h with h|h|h|h|h|h<;>simp[h]
    have er:rows=(P++X1)++(X2++(Y1++(Y2++S))):=by rw[hrows,eX,eY];simp
    show vwp _ _ _ _ _ _;refine jf9 hne2 rows (fun rs=>rs=P++(X1++(Y1++(X2++(Y2++S))))) i m (mid+m-i) rfl rfl rfl rfl rfl (fun g1 g2=>?_) (fun g=>?_) ?_
    ·have hro:=jf8 (ver:=ver) (nm:=nm) (fc:=fc) H hR2 hO hne (P++X1) X2 Y1 (Y2++S) (by omega) (by omega) (by rw[←er];exact hr) i m (mid+m-i) len (by simp;omega) (by simp;omega) (by simp;omega) (by rw[←er];exact hrl) hbig;rw[←er]at hro;unfold dU at hro ⊢;refine hro.mono ?_;rintro r h' ⟨e1,rs',e2,e3⟩;exact⟨e1,rs',by rw[e2];simp,e3⟩
    ·rw[er];rcases ks3 i m with g1|g1
     ·have:Y1=[]:=ku2.1 (by omega);rw[this];simp
     ·have:X2=[]:=ku2.1 (by omega);rw[this];simp
    rintro T1 ⟨a0,a1,a2,a3,a4,a5,a6,a7⟩ rows1 hp1;simp only[iC,kx5,cond_true,cond_false]at a0 a1 a2 a3 a4 a5 a6 a7;have hm1':∀x∈rows1,x∈rows:=fun x hx=>hmem x (by rw[hp1]at hx;simp only[kt5]at hx;rcases hx with h|h|h|h|h|h<;>simp[h]);have hl1:rows1.length=len:=by
     rw[hp1];simp only[kq3];omega
    simp -implicitDefEqProofs only[oS.d,J0,J1,J2,J3,J4,J5,J6,J7,J8,↓reduceIte,reduceCtorEq];show vwp _ _ _ _ _ _;refine jg0 hne3 rows1 (fun rs=>∃Z1,Mrg lt kyD X1 Y1 Z1∧rs=P++(Z1++(X2++(Y2++S)))) a i mid a0 a1 a6 a5 a4 (fun g1 g2=>?_) (fun g=>?_) ?_
    ·rw[hp1]at hm1' hl1 ⊢;exact ih P X1 Y1 (X2++(Y2++S)) (by omega) (by omega) hX12.1 hY12.1 (fun x hx=>hR x (hm1' x hx)) (fun x hx=>hr x (hm1' x hx)) a i mid len (by omega) hPa (by omega) (by omega) hl1 hbig
    ·rw[hp1];rcases ks3 a i with g1|g1
     ·have:Y1=[]:=ku2.1 (by omega);rw[this];exact⟨X1,kp2 hX12.1,by simp⟩
     ·have:X1=[]:=ku2.1 (by omega);rw[this];exact⟨Y1,Mrg.right hY12.1,by simp⟩
    rintro T2 ⟨c0,c1',c2',c3,c4,c5,c6,c7⟩ rows2 ⟨Z1,hZ1,hp2⟩;rw[a0]at c0;rw[a3]at c3;rw[a4]at c4;rw[a5]at c5;rw[a7]at c7;have lZ1:Z1.length=X1.length+Y1.length:=by rw[hZ1.2.len,kq3]
    have hm2':∀x∈rows2,x∈rows:=fun x hx=>hmem x (by
     rw[hp2]at hx;simp only[kt5]at hx;rcases hx with h|h|h|h|h
     ·simp[h]
     ·rcases kt5.1 (hZ1.2.mem h)with h|h<;>simp[h]
     ·simp[h]
     ·simp[h]
     ·simp[h])
    have er2:rows2=(P++Z1)++(X2++(Y2++S)):=by rw[hp2];simp
    have hl2:rows2.length=len:=by
     rw[hp2];simp only[kq3];omega
    clear hp2;simp -implicitDefEqProofs only[oS.d,J0,J1,J2,J3,J4,J5,J6,J7,J8,↓reduceIte,reduceCtorEq];show vwp _ _ _ _ _ _;refine jg1 hne3 rows2 (fun rs=>∃Z2,Mrg lt kyD X2 Y2 Z2∧rs=(P++Z1)++(Z2++S)) mid (mid+m-i) b c0 c5 c7 c3 c4 (fun g1 g2=>?_) (fun g=>?_) ?_
    ·rw[er2]at hm2' hl2 ⊢;exact ih (P++Z1) X2 Y2 S (by omega) (by omega) hX12.2.1 hY12.2.1 (fun x hx=>hR x (hm2' x hx)) (fun x hx=>hr x (hm2' x hx)) mid (mid+m-i) b len (by omega) (by simp;omega) (by simp;omega) (by simp;omega) hl2 hbig
    ·rw[er2];rcases ks3 mid (mid+m-i)with g1|g1
     ·have:Y2=[]:=ku2.1 (by omega);rw[this];exact⟨X2,kp2 hX12.2.1,by simp⟩
     ·have:X2=[]:=ku2.1 (by omega);rw[this];exact⟨Y2,Mrg.right hY12.2.1,by simp⟩
    rintro T3-rows3 ⟨Z2,hZ2,hp3⟩;have hfin:Mrg lt kyD X Y (Z1++Z2):=by
     rw[eX,eY];exact kp3 hlt (eX▸hXs) (eY▸hYs) c1 c2 hZ1 hZ2
    clear ih er hrows hmem er2 hm1' hm2' hp1;simp -implicitDefEqProofs only[oS.d,J0,J1,J2,J3,J4,J5,J6,J7,J8,↓reduceIte,reduceCtorEq];apply aH [0,1];rfl;rfl;exact⟨rfl,_,⟨_,hfin,by rw[hp3];simp⟩,rfl⟩
  ·have hc5:((mid:Int)<(m:Int))=False:=by simp;omega
   simp -implicitDefEqProofs only[oS.d,J0,J1,J2,J3,J4,J5,J6,J7,J8,↓reduceIte,reduceCtorEq,w1,w2,hc,hc1,v1,v2,v3,v4,wU,v5,v6,hc5];refine bE (α:=Nat×Nat) (fun x=>[(20,.one (.d (.int .i64 x.1))),(21,.one (.d (.int .i64 x.2))),(22,.one (.d (.int .i64 (mid+m-1:Nat)))),(19,.one (.d (.int .i64 (mid+m:Nat)))),(18,.one (.d (.int .i64 mid))),(0,.one (.own 0 ver len)),(1,.one (.d (.int .i64 a))),(2,.one (.d (.int .i64 m))),(3,.one (.d (.int .i64 b))),(4,.one (.fn fc [.ptr 1 0]))]) (fun x=>[.arr false k ver rows,.box [.fn nm []]])
    (fun x=>(a≤x.1∧x.1≤x.2∧x.2≤m)∧(a<x.1→∃u v,rows[x.1-1]?=some u∧rows[mid+m-x.1]?=some v∧lt (kyD v) (kyD u)=false)∧(x.2<m→∃u v,rows[x.2]?=some u∧rows[mid+m-1-x.2]?=some v∧lt (kyD v) (kyD u)=true)) (fun x=>x.2-x.1) (a,m)
    (aP [0,1] rfl rfl rfl rfl) ⟨⟨ks0 _,by show a≤m;omega,ks0 _⟩,fun h=>absurd h (kA2 _),fun h=>absurd h (kA2 _)⟩ ?_
   rintro⟨i,j⟩ ⟨⟨hi,hij,hj⟩,hc8,hc9⟩;simp only at hi hij hj hc8 hc9;rcases ks3 i j with h|h
   ·have hc2:((i:Int)<(j:Int))=True:=by simp;omega
    have u1:=oG (a:=i) (b:=j) rfl (by omega);have u2:=za4 (n:=i+j) (by omega);have u3:=za5 (n:=i+j);have u4:=za6 (n:=(i+j) / 2) (by omega);have u5:=bQ (a:=(i+j) / 2) rfl (by omega);have u6:=mM (a:=mid+m-1) (b:=(i+j) / 2) (c:=mid+m-1-(i+j) / 2) (by omega) (by omega);obtain⟨x,hx⟩:=bK (l:=rows) (i:=mid+m-1-(i+j) / 2) (by omega);obtain⟨y,hy⟩:=bK (l:=rows) (i:=(i+j) / 2) (by omega);have hxk:=hr x (kq0 hx);have hyk:=hr y (kq0 hy);have l1:(((i+j) / 2:Nat):Int)<(len:Int):=by omega
    have l2:((mid+m-1-(i+j) / 2:Nat):Int)<(len:Int):=by omega
    simp -implicitDefEqProofs only[oS.d,J0,J1,J2,J3,J4,J5,J6,J7,J8,↓reduceIte,reduceCtorEq,iL hS rfl,cQ hE,dR hE,hc2,u1,u2,u3,u4,u6,wU,l1,l2,hx,hy,hxk,hyk,kq2,kq4,kr8,jJ hxk,jJ hyk];refine za7 hC (hR x (kq0 hx)) (hR y (kq0 hy)) fun c hc0=>?_;rcases kC9 c 0 with h3|h3
    ·have he:(c<0)=True:=by simp;omega
     simp -implicitDefEqProofs only[oS.d,J0,J1,J2,J3,J4,J5,J6,J7,J8,↓reduceIte,reduceCtorEq,he];refine⟨(i,(i+j) / 2),⟨⟨hi,by show i≤(i+j) / 2;omega,by show(i+j) / 2≤m;omega⟩,hc8,fun _=>⟨y,x,hy,hx,hc0.1 h3⟩⟩,by show(i+j) / 2-i<j-i;omega,?_⟩;exact(aP [0,1] rfl rfl rfl rfl)
    ·have he:(c<0)=False:=by simp;omega
     have hcf:lt (kyD x) (kyD y)=false:=by
      cases e:lt (kyD x) (kyD y)with
      |false=>rfl
      |true=>have:=hc0.2 e;omega
     simp -implicitDefEqProofs only[oS.d,J0,J1,J2,J3,J4,J5,J6,J7,J8,↓reduceIte,reduceCtorEq,he,u5];refine⟨((i+j) / 2+1,j),⟨⟨by show a≤(i+j) / 2+1;omega,by show(i+j) / 2+1≤j;omega,hj⟩,fun _=>⟨y,x,by show rows[(i+j) / 2+1-1]?=_;rw[kC3];exact hy,by show rows[mid+m-((i+j) / 2+1)]?=_;rw[show mid+m-((i+j) / 2+1)=mid+m-1-(i+j) / 2 by omega];exact hx,hcf⟩,hc9⟩,by show j-((i+j) / 2+1)<j-i;omega,?_⟩;exact(aP [0,1] rfl rfl rfl rfl)
   ·have hc2:((i:Int)<(j:Int))=False:=by simp;omega
    have u7:=mM (a:=mid+m) (b:=i) (c:=mid+m-i) (by omega) (by omega);simp -implicitDefEqProofs only[oS.d,J0,J1,J2,J3,J4,J5,J6,J7,J8,↓reduceIte,reduceCtorEq,hc2,u7];obtain⟨X1,X2,Y1,Y2,eX,eY,lX1,lY1,c1,c2⟩:=jg2 hlt hrows hXs hYs (a:=a) (m:=m) (b:=b) (s:=i) (e:=mid+m-i) (n:=mid+m) hPa hPm hPb (by omega) (by omega) (by omega) (by omega) (by omega) (fun _ g=>hc8 (by omega)) (fun _ g=>by rw[show i=j by omega];exact hc9 (by omega));have lX:X.length=X1.length+X2.length:=by rw[eX,kq3]
    have lY:Y.length=Y1.length+Y2.length:=by rw[eY,kq3]
    have hX12:=kL.1 (eX▸hXs);have hY12:=kL.1 (eY▸hYs);have hmem:∀x,x∈P∨x∈X1∨x∈X2∨x∈Y1∨x∈Y2∨x∈S→x∈rows:=fun x h=>by
     rw[hrows,eX,eY];simp only[kt5];rcases h with h|h|h|h|h|h<;>simp[h]
    have er:rows=(P++X1)++(X2++(Y1++(Y2++S))):=by rw[hrows,eX,eY];simp
    show vwp _ _ _ _ _ _;refine jf9 hne2 rows (fun rs=>rs=P++(X1++(Y1++(X2++(Y2++S))))) i m (mid+m-i) rfl rfl rfl rfl rfl (fun g1 g2=>?_) (fun g=>?_) ?_
    ·have hro:=jf8 (ver:=ver) (nm:=nm) (fc:=fc) H hR2 hO hne (P++X1) X2 Y1 (Y2++S) (by omega) (by omega) (by rw[←er];exact hr) i m (mid+m-i) len (by simp;omega) (by simp;omega) (by simp;omega) (by rw[←er];exact hrl) hbig;rw[←er]at hro;unfold dU at hro ⊢;refine hro.mono ?_;rintro r h' ⟨e1,rs',e2,e3⟩;exact⟨e1,rs',by rw[e2];simp,e3⟩
    ·rw[er];rcases ks3 i m with g1|g1
     ·have:Y1=[]:=ku2.1 (by omega);rw[this];simp
     ·have:X2=[]:=ku2.1 (by omega);rw[this];simp
    rintro T1 ⟨a0,a1,a2,a3,a4,a5,a6,a7⟩ rows1 hp1;simp only[iC,kx5,cond_true,cond_false]at a0 a1 a2 a3 a4 a5 a6 a7;have hm1':∀x∈rows1,x∈rows:=fun x hx=>hmem x (by rw[hp1]at hx;simp only[kt5]at hx;rcases hx with h|h|h|h|h|h<;>simp[h]);have hl1:rows1.length=len:=by
     rw[hp1];simp only[kq3];omega
    simp -implicitDefEqProofs only[oS.d,J0,J1,J2,J3,J4,J5,J6,J7,J8,↓reduceIte,reduceCtorEq];show vwp _ _ _ _ _ _;refine jg0 hne3 rows1 (fun rs=>∃Z1,Mrg lt kyD X1 Y1 Z1∧rs=P++(Z1++(X2++(Y2++S)))) a i mid a0 a1 a6 a5 a4 (fun g1 g2=>?_) (fun g=>?_) ?_
    ·rw[hp1]at hm1' hl1 ⊢;exact ih P X1 Y1 (X2++(Y2++S)) (by omega) (by omega) hX12.1 hY12.1 (fun x hx=>hR x (hm1' x hx)) (fun x hx=>hr x (hm1' x hx)) a i mid len (by omega) hPa (by omega) (by omega) hl1 hbig
    ·rw[hp1];rcases ks3 a i with g1|g1
     ·have:Y1=[]:=ku2.1 (by omega);rw[this];exact⟨X1,kp2 hX12.1,by simp⟩
     ·have:X1=[]:=ku2.1 (by omega);rw[this];exact⟨Y1,Mrg.right hY12.1,by simp⟩
    rintro T2 ⟨c0,c1',c2',c3,c4,c5,c6,c7⟩ rows2 ⟨Z1,hZ1,hp2⟩;rw[a0]at c0;rw[a3]at c3;rw[a4]at c4;rw[a5]at c5;rw[a7]at c7;have lZ1:Z1.length=X1.length+Y1.length:=by rw[hZ1.2.len,kq3]
    have hm2':∀x∈rows2,x∈rows:=fun x hx=>hmem x (by
     rw[hp2]at hx;simp only[kt5]at hx;rcases hx with h|h|h|h|h
     ·simp[h]
     ·rcases kt5.1 (hZ1.2.mem h)with h|h<;>simp[h]
     ·simp[h]
     ·simp[h]
     ·simp[h])
    have er2:rows2=(P++Z1)++(X2++(Y2++S)):=by rw[hp2];simp
    have hl2:rows2.length=len:=by
     rw[hp2];simp only[kq3];omega
    clear hp2;simp -implicitDefEqProofs only[oS.d,J0,J1,J2,J3,J4,J5,J6,J7,J8,↓reduceIte,reduceCtorEq];show vwp _ _ _ _ _ _;refine jg1 hne3 rows2 (fun rs=>∃Z2,Mrg lt kyD X2 Y2 Z2∧rs=(P++Z1)++(Z2++S)) mid (mid+m-i) b c0 c5 c7 c3 c4 (fun g1 g2=>?_) (fun g=>?_) ?_
    ·rw[er2]at hm2' hl2 ⊢;exact ih (P++Z1) X2 Y2 S (by omega) (by omega) hX12.2.1 hY12.2.1 (fun x hx=>hR x (hm2' x hx)) (fun x hx=>hr x (hm2' x hx)) mid (mid+m-i) b len (by omega) (by simp;omega) (by simp;omega) (by simp;omega) hl2 hbig
    ·rw[er2];rcases ks3 mid (mid+m-i)with g1|g1
     ·have:Y2=[]:=ku2.1 (by omega);rw[this];exact⟨X2,kp2 hX12.2.1,by simp⟩
     ·have:X2=[]:=ku2.1 (by omega);rw[this];exact⟨Y2,Mrg.right hY12.2.1,by simp⟩
    rintro T3-rows3 ⟨Z2,hZ2,hp3⟩;have hfin:Mrg lt kyD X Y (Z1++Z2):=by
     rw[eX,eY];exact kp3 hlt (eX▸hXs) (eY▸hYs) c1 c2 hZ1 hZ2
    clear ih er hrows hmem er2 hm1' hm2' hp1;simp -implicitDefEqProofs only[oS.d,J0,J1,J2,J3,J4,J5,J6,J7,J8,↓reduceIte,reduceCtorEq];apply aH [0,1];rfl;rfl;exact⟨rfl,_,⟨_,hfin,by rw[hp3];simp⟩,rfl⟩
end
end Go.Vt.Tryz
