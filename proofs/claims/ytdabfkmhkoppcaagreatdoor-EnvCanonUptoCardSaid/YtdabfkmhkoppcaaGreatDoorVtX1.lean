import Derived.Test.YtdabfkmhkoppcaaGreatDoorVtW1
import Derived.Test.YtdabfkmhkoppcaaGreatDoorVtD13
import Derived.Test.YtdabfkmhkoppcaaGreatDoorVtA1
set_option linter.all false
set_option maxHeartbeats 2000000
set_option maxRecDepth 100000
open Int renaming natCast_nonneg→kq2,toNat_natCast→kq4
open List renaming drop_zero→kw7,getElem?_append_left→kr9,getElem?_append_right→kr5,getElem?_cons_succ→ks4,getElem?_cons_zero→kr6,getElem?_eq_getElem→kr1,getElem?_eq_some_iff→kp9,getElem?_map→ks1,getElem?_of_mem→kw9,length_append→kq3,length_cons→kr4,length_eq_zero_iff→ku2,length_map→kr8,length_nil→kr7,lookup→kt8,map_cons→kq1,map_nil→kq5,map_set→kK6,mem_append→kt5,mem_of_getElem?→kq0,mem_singleton→kv0,range→kt4,take_add_one→kw0,take_append_of_le_length→ky0,take_length→kv2,take_of_length_le→kq6,take_succ_cons→kv5,take_zero→kw1
open Nat renaming le_refl→ks0,lt_or_ge→ks3,reduceAdd→ks7,reduceBEq→kx5,reduceLeDiff→kw5,sub_self→kD4,zero_le→kt1
open Option renaming toList_some→kz8
open Go.Proofs.Tryz renaming prog→kp8
open Go.Vt.aF renaming encs→ks8
open Go.Vt.aG renaming renLs→ks9
open Go.Vt renaming dL→J0,mkV→J1
open Nat renaming reduceBEq→J2,reduceEqDiff→J3,reduceLT→J4,reduceLeDiff→J5,reduceAdd→J6,reduceMul→J7,reduceSub→J8
namespace Go.Vt.Tryz
open Go.Proofs Go.Vt.Al
theorem j20 {n:Nat} {Y:kX} {A:List Int} {XF:List (List D)} (hbig:A.length<1000000000) {h:aB} {id aid v:Nat} (hid:h[id]?=some (.box [.own aid v A.length])) (haid:h[aid]?=some (.arr false 1 v (nums A++XF)))
  (hn:id<n) (hh:bA h (idx (kt4 n)) (kt4 n)=some h) {K:VX→Sl→aB→Prop} {T0:Sl} (Pass:Nat→Prop)
  (hround:∀i x,A[i]?=some x→(∀j,i<j→j<A.length→Pass j)→∀K':Option VX→aB→Prop,(∀r,Pass i→K' none (h++r))→(∀h',K .ret T0 h'→K' (some .ret) h')→Y [.one (.d (.int .i64 i)),.one (.d (.int .i64 x))] h K')
  (hend:(∀j,j<A.length→Pass j)→K .normal T0 h) :
  dY kp8 n Y zA6 (xU K T0) [(0,.one .any),(1,.one (.ptr id 0))] [0] h none:=by
 conv in zA6=>cbv
 rw[kK,mL];refine lB rfl (r:=.one (.own aid v A.length)) (h':=h) (by simp[vop,iM,opd,cN,hid,mkV,kt8]) ?_;refine lB rfl (r:=.one (.d (.int .i64 A.length))) (h':=h) (by simp[vop,iM,opd,iO,haid,kt8,bI]) ?_;refine lB rfl (r:=.one (.d (.int .i64 ((A.length:Int)-1)))) (h':=h) (rZ (a:=A.length) (b:=1) rfl rfl ?_) ?_
 ·simp only[gZ,gV,gU];rw[rX (by omega) (by omega)];simp
 refine lB rfl (r:=.one (.d (.int .i64 ((A.length:Int)-1)))) (h':=h) rfl ?_;rw[lC,fI,wH,zF9];refine⟨fun m T ys h1 pd=>m≤A.length∧T=[(0,.one .any),(1,.one (.ptr id 0)),(3,.one (.d (.int .i64 ((m:Int)-1))))]∧(∃b,Yd b ys)∧h1=h∧pd=none∧∀j,m≤j→j<A.length→Pass j,⟨A.length,_,h,?_,ks0 _,rfl,⟨0,.base⟩,rfl,rfl,fun j h1 h2=>absurd h2 (by omega)⟩,?_⟩
 ·refine gJ (kt4 n) h (ko1 _) (nodup_range n) (by rw[kq6 (by simp)]) hh ⟨⟨_,ko0 _,rfl⟩,⟨_,ko0 _,?_⟩,⟨_,ko0 _,rfl⟩,trivial⟩;simp[cF,bP,bT,aG,wF rfl hn]
 ·rintro m T ys h1 pd ⟨hm,rfl,⟨b,hys⟩,rfl,rfl,hp⟩;rw[kK,kK,mL];refine gK hys (rW hys (by decide) (by decide)) (by decide) (by decide) (r:=.one (.d (.int .i64 ((m:Int)-1)))) (h':=h1) rfl fun ys hys=>?_;refine gK hys rfl (by decide) (by decide) (r:=.one (.d (.bool (decide (0≤(m:Int)-1))))) (h':=h1) (rZ (a:=(m:Int)-1) (b:=0) rfl rfl rfl) fun ys hys=>?_;rw[lC,fI,rY];refine⟨fun e=>?_,fun e=>?_⟩
  ·rw[wG,fI,kK,wH,kK,mL];have e:0≤(m:Int)-1:=of_decide_eq_true e;obtain⟨i,rfl⟩:∃i,m=i+1:=⟨m-1,by omega⟩;have hi:i<A.length:=by omega
   have hx:A[i]?=some A[i]:=kr1 hi;have hcast:((i+1:Nat):Int)-1=i:=by omega
   rw[hcast]at *;generalize A[i]=x at hx;have hg:(nums A++XF)[i]?=some [.int .i64 x]:=by
    rw[kr9 (by rw[bU];exact hi)];exact iP hx
   have hil:(i:Int)<(A.length:Int):=by omega
   refine z59 hys fun ys hys=>?_;refine gK hys (rW hys (by decide) (by decide)) (by decide) (by decide) (r:=.one (.d (.int .i64 i))) (h':=h1) rfl fun ys hys=>?_;refine gK hys rfl (by decide) (by decide) (r:=.one (.own aid v A.length)) (h':=h1) (by simp[vop,iM,opd,cN,hid,mkV,kt8,bI]) fun ys hys=>?_;refine gK hys (rW hys (by decide) (by decide)) (by decide) (by decide) (r:=.one (.d (.int .i64 i))) (h':=h1) rfl fun ys hys=>?_;refine gK hys rfl (by decide) (by decide) (r:=.one (.ept aid v i 0)) (h':=h1) (by simp[vop,iM,opd,kR,haid,kt8,bI,hi]) fun ys hys=>?_;refine gK hys rfl (by decide) (by decide) (r:=.one (.d (.int .i64 x))) (h':=h1) (by simp[vop,ti3,opd,cN,mkV,kt8,bI,haid,hg]) fun ys hys=>?_;refine z60 hys (by decide) (by decide) (vs:=[.one (.d (.int .i64 i)),.one (.d (.int .i64 x))]) rfl (fun ys hys=>hround i x hx (fun j h1 h2=>hp j (by omega) h2) _ (fun r hpi=>?_) (fun h' hK=>?_))
   ·refine gK hys rfl (by decide) (by decide) (r:=.one (.d (.bool false))) (h':=h1++r) rfl fun ys hys=>?_;rw[lC,fI,rY];refine⟨fun e=>(by cases e),fun _=>?_⟩;rw[wG,xS,fI,mL];refine gK hys (rW hys (by decide) (by decide)) (by decide) (by decide) (r:=.one (.d (.int .i64 i))) (h':=h1++r) rfl fun ys hys=>?_;refine gK hys rfl (by decide) (by decide) (r:=.one (.d (.int .i64 ((i:Int)-1)))) (h':=h1++r) (rZ (a:=i) (b:=1) rfl rfl ?_) (fun ys hys=>?_)
    ·simp only[gZ,gV,gU];rw[rX (by omega) (by omega)];simp
    refine gK hys rfl (by decide) (by decide) (r:=.one (.d (.int .i64 ((i:Int)-1)))) (h':=h1++r) rfl fun ys hys=>?_;rw[lC,fI];refine⟨i,_,h1,Nat.lt_succ_self i,?_,by omega,rfl,⟨_,hys⟩,rfl,rfl,fun j h1 h2=>?_⟩
    ·refine gJ (kt4 n) (h1++r) (ko1 _) (nodup_range n) (by rw[kq6 (by simp)]) (zg7 hh) ⟨⟨_,ko0 _,rfl⟩,⟨_,ko0 _,?_⟩,⟨_,ko0 _,rfl⟩,trivial⟩;simp[cF,bP,bT,aG,wF rfl hn]
    ·by_cases e:j=i
     ·subst e;exact hpi
     ·exact hp j (by omega) h2
   ·refine gK hys rfl (by decide) (by decide) (r:=.one (.d (.bool true))) (h':=h') rfl fun ys hys=>?_;rw[lC,fI,rY];exact⟨fun _=>hK,fun e=>(by cases e)⟩
  ·have e:¬0≤(m:Int)-1:=of_decide_eq_false e;have:m=0:=by omega
   subst this;exact hend fun j hj=>hp j (kt1 _) hj
theorem j21:xT kp8 194 19 zA6:=⟨Tryz.f194,_,Tryz.func194,rfl,rfl,rfl,by kernel_rfl,by kernel_rfl,rfl⟩
theorem j22 (v len:Nat) (xs:List (List D)):VC kp8 144 [.one (.own 0 v len)] [.arr false 1 v xs] fun r h'=>r = .one (.fn 194 [.ptr 1 0])∧h'=[.arr false 1 v xs,.box [.own 0 v len]]:=by
 refine aU mixed jL9 (by simp) ?_;show vwp kp8 1 zz0 _ [(0,.one (.own 0 v len))] [.arr false 1 v xs];conv in zz0=>cbv
 rw[aO];simp -implicitDefEqProofs only[oS.d,J0,J1,J2,J3,J4,J5,J6,J7,J8,↓reduceIte,reduceCtorEq];apply aH [0,1];rfl;rfl;exact⟨rfl,rfl⟩
def rH (vf vt:Nat) (A B:List Int) (XF XT:List (List D)):aB:=[.box [.own 1 vf A.length,.own 2 vt B.length,.fn 99 [.ptr 3 0]],.arr false 1 vf (nums A++XF),.arr false 1 vt (nums B++XT),.box [.ptr 0 0]]
theorem jb0 (vf vt:Nat) (A B:List Int) (XF XT:List (List D)) (hA:A.length<1000000000) (hAB:A.length=B.length) (n:Int) :
  VC kp8 101 [.one (.ptr 0 0),.one (.d (.int .i64 n))] (rH vf vt A B XF XT) fun r h'=>r = .one (.d (.int .i64 (im A B n)))∧h'=rH vf vt A B XF XT:=by
 have hb:=j22 vf A.length (nums A++XF);unfold rH;refine aU mixed jK5 (by simp) ?_;show vwp kp8 4 zx6 _ [(0,.one (.ptr 0 0)),(1,.one (.d (.int .i64 n)))] [.box [.own 1 vf A.length,.own 2 vt B.length,.fn 99 [.ptr 3 0]],.arr false 1 vf (nums A++XF),.arr false 1 vt (nums B++XT),.box [.ptr 0 0]];conv in zx6=>cbv
 rw[aO];simp -implicitDefEqProofs only[oS.d,J0,J1,J2,J3,J4,J5,J6,J7,J8,↓reduceIte,reduceCtorEq];refine aM [1] hb rfl rfl rfl rfl ?_;simp -implicitDefEqProofs only[oS.d,J0,J1,J2,J3,J4,J5,J6,J7,J8,↓reduceIte,reduceCtorEq];show vwp _ _ _ _ _ _;refine⟨194,[.ptr 7 0],19,_,rfl,rfl,j21,by decide,?_⟩;refine j20 (A:=A) (XF:=XF) hA (id:=7) (aid:=1) (v:=vf) rfl rfl (show 7<8 by decide) rfl (fun j=>A[j]?≠some n) ?_ ?_
 ·intro i x hx hp K' hn hr;refine⟨rfl,?_⟩;rw[aO];have hi:=(kp9.1 hx).1;obtain⟨y,hy⟩:=bK (l:=B) (i:=i) (by omega);have hg:(nums A++XF)[i]?=some [.int .i64 x]:=by
   rw[kr9 (by rw[bU];exact hi)];exact iP hx
  have hg2:(nums B++XT)[i]?=some [.int .i64 y]:=by
   rw[kr9 (by rw[bU];omega)];exact iP hy
  have l1:(i:Int)<(A.length:Int):=by omega
  have l2:(i:Int)<(B.length:Int):=by omega
  by_cases he:x=n
  ·have e1:(x=n)=True:=by simp[he]
   simp -implicitDefEqProofs only[oS.d,J0,J1,J2,J3,J4,J5,J6,J7,J8,↓reduceIte,reduceCtorEq,mG];rw[tX,aO];simp -implicitDefEqProofs only[oS.d,J0,J1,J2,J3,J4,J5,J6,J7,J8,↓reduceIte,reduceCtorEq,e1,hg,hg2,l1,l2,kq2,kq4];refine hr _ ?_;simp -implicitDefEqProofs only[oS.d,J0,J1,J2,J3,J4,J5,J6,J7,J8,↓reduceIte,reduceCtorEq];apply aH [0,1,2,3]
   ·simp only[dI,iC,kx5,cond_true,cond_false,pX,ti3,iM,cN,ks4,kr6,mkV,kw7,kr4,kr7,ks7,ks0,if_true,kv5,kw1,kq1,kq5,kw5];rfl
   ·first|rfl|(simp[fin,bO,bA,cF,bP,cW,bT,idx,dA,aG,cE,bD,ks9];first|exact⟨rfl,rfl⟩|exact⟨rfl,rfl,rfl⟩)
   have hl:cC A n=some i:=mN.2 ⟨he▸hx,fun j hj hc=>hp j hj (kp9.1 hc).1 hc⟩;refine⟨?_,rfl⟩;unfold im;rw[hl];simp only[List.getD_eq_getElem?_getD,hy,Option.getD_some]
  ·have e1:(x=n)=False:=by simp[he]
   simp -implicitDefEqProofs only[oS.d,J0,J1,J2,J3,J4,J5,J6,J7,J8,↓reduceIte,reduceCtorEq,mG];rw[tX,aO];simp -implicitDefEqProofs only[oS.d,J0,J1,J2,J3,J4,J5,J6,J7,J8,↓reduceIte,reduceCtorEq,e1,hg,hg2,l1,l2,kq2,kq4];exact hn [] fun hc=>he (Option.some.inj (hx.symm.trans hc))
 ·intro hp;simp -implicitDefEqProofs only[oS.d,J0,J1,J2,J3,J4,J5,J6,J7,J8,↓reduceIte,reduceCtorEq];apply aH [0,1,2,3]
  ·simp only[dI,iC,kx5,cond_true,cond_false,pX,ti3,iM,cN,ks4,kr6,mkV,kw7,kr4,kr7,ks7,ks0,if_true,kv5,kw1,kq1,kq5,kw5];rfl
  ·first|rfl|(simp[fin,bO,bA,cF,bP,cW,bT,idx,dA,aG,cE,bD,ks9];first|exact⟨rfl,rfl⟩|exact⟨rfl,rfl,rfl⟩)
  have hl:cC A n=none:=iQ.2 fun hm=>by
   obtain⟨j,hj⟩:=kw9 hm;exact hp j (kp9.1 hj).1 hj
  refine⟨?_,rfl⟩;unfold im;rw[hl]
theorem j23:lV 30 32 3:=⟨⟨_,_,_,_,kZ,by decide,rfl,by decide⟩,⟨_,_,_,kG⟩⟩
theorem zJ6 (l:List Ty) (hl:l.length<1000000000):VC kp8 252 [.one (.d (.sl (ks8 l)))] [] fun r h'=>(ks8 l=[]∧r = .one .nils∧h'=[])∨(r = .one (.own 0 1 (ks8 l).length)∧h'=[.arr false 3 1 (ks8 l)]):=
 z61 j23 jQ6 (ks8 l) (by rw[eI];simp only[mC,List.all_map,List.all_eq_true];intro t _;obtain⟨k,n,r⟩:=t;rfl) (by rw[cS];exact hl)
theorem zJ7 (A B:List Int):∀l:List Ty,cI.go A B l=l.map (cI A B)
 |[]=>rfl
 |t::r=>by simp only[cI.go,zJ7 A B r,kq1]
def mix {α:Type} (f:α→α) (l:List α) (i:Nat):List α:=(l.take i).map f++l.drop i
theorem zi3 {α:Type} {f:α→α} {l:List α} {i:Nat} {x:α} (h:l[i]?=some x):(mix f l i)[i]?=some x:=by
 have hl:=(kp9.1 h).1;unfold mix;rw[kr5 (by simp;omega),drop_cons' h];simp[Nat.min_eq_left (Nat.le_of_lt hl)]
 where
 drop_cons' {α:Type} {l:List α} {i:Nat} {x:α} (h:l[i]?=some x):l.drop i=x::l.drop (i+1):=by
  have hl:=(kp9.1 h).1;rw[List.drop_eq_getElem_cons hl];rw[kr1 hl]at h;rw[Option.some.inj h]
theorem zJ8 {α:Type} {f:α→α} {l:List α} {i:Nat} {x:α} (h:l[i]?=some x):(mix f l i).set i (f x)=mix f l (i+1):=by
 have hl:=(kp9.1 h).1;unfold mix;rw[zi3.drop_cons' h,kw0,h];have hlen:((l.take i).map f).length=i:=by simp;omega
 rw[List.set_append_right _ _ (by omega),hlen,kD4];simp
theorem zJ9 {α:Type} {f:α→α} {l:List α}:mix f l l.length=l.map f:=by simp[mix]
theorem zK0 (vf vt:Nat) (A B:List Int) (XF XT:List (List D)) (hA:A.length<1000000000) (hAB:A.length=B.length):∀(N:Nat) (t:Ty),tyn t≤N→N<100000000→
  VC kp8 200 [.one (.ptr 0 0),tyV t] (rH vf vt A B XF XT) fun r h'=>r=tyV (cI A B t)∧h'=rH vf vt A B XF XT
 |0,.mk k n l,h,_=>by simp only[tyn]at h;omega
 |N+1,.mk k n l,h,hN=>by
  have ih:=zK0 vf vt A B XF XT hA hAB N;have hst:=jb0 vf vt A B XF XT hA hAB n;simp only[tyn,mK]at h;have hlen:=eC (f:=tyn) (fun t=>by cases t;simp[tyn]) l;have hcl:=zJ6 l (by omega);have hl3:(ks8 l).length=l.length:=cS l;rw[hl3]at hcl;have hmem:∀(i:Nat) (u:Ty),l[i]?=some u→tyn u≤N:=fun i u hu=>by have:=dB (f:=tyn) (kq0 hu);omega
  simp only[rH]at ih hst ⊢;simp only[tyV,aF,cI,zJ7,kq1,kq5];refine aU mixed jN9 (by simp) ?_;show vwp kp8 4 zB1 _ [(0,.one (.ptr 0 0)),(1,.agg [.d (.int .i64 k),.d (.int .i64 n),.d (.sl (ks8 l))])] [.box [.own 1 vf A.length,.own 2 vt B.length,.fn 99 [.ptr 3 0]],.arr false 1 vf (nums A++XF),.arr false 1 vt (nums B++XT),.box [.ptr 0 0]];conv in zB1=>cbv
  rw[aO];obtain⟨n1,hn1⟩:∃n1,n1=if k=gN then im A B n else n:=⟨_,rfl⟩
  by_cases hk:k=6
  ·have hk1:(k=6)=True:=by simp[hk]
   have hk2:k=gN:=hk;rw[if_pos hk2]at hn1;simp -implicitDefEqProofs only[oS.d,J0,J1,J2,J3,J4,J5,J6,J7,J8,↓reduceIte,reduceCtorEq,hk1];refine aM [0,1,2,3] hst rfl rfl rfl rfl ?_;simp -implicitDefEqProofs only[oS.d,J0,J1,J2,J3,J4,J5,J6,J7,J8,↓reduceIte,reduceCtorEq];rw[←hn1];refine bJ [] hcl rfl rfl rfl ?_;rintro _ _ (⟨he,rfl,rfl⟩|⟨rfl,rfl⟩)
   ·have hl0:l=[]:=ku2.1 (by rw[←hl3,he];rfl);subst hl0;refine⟨_,_,rfl,?_⟩;simp -implicitDefEqProofs only[oS.d,J0,J1,J2,J3,J4,J5,J6,J7,J8,↓reduceIte,reduceCtorEq];refine bE (α:=Unit) (fun _=>[(22,.one (.d (.int .i64 0))),(21,.one (.d (.int .i64 0))),(3,.one (.ptr 4 0)),(4,.one (.ptr 5 0))]) (fun _=>[.box [.own 1 vf A.length,.own 2 vt B.length,.fn 99 [.ptr 3 0]],.arr false 1 vf (nums A++XF),.arr false 1 vt (nums B++XT),.box [.ptr 0 0],.box [.d (.int .i64 k),.d (.int .i64 n1),.d (.sl [])],.box [.d (.int .i64 0),.d (.int .i64 0),.nils]]) (fun _=>True) (fun _=>0) ()
     (gJ [0,1,2,3,4,5] [.box [.own 1 vf A.length,.own 2 vt B.length,.fn 99 [.ptr 3 0]],.arr false 1 vf (nums A++XF),.arr false 1 vt (nums B++XT),.box [.ptr 0 0],.box [.d (.int .i64 k),.d (.int .i64 n1),.d (.sl [])],.box [.d (.int .i64 0),.d (.int .i64 0),.nils]] ⟨kn5 _,kn5 _,kn5 _,kn5 _,⟨.inl rfl,.inl rfl,.inl rfl,.inr (.inl ⟨rfl,rfl⟩),trivial⟩,kn5 _,trivial⟩ rfl rfl rfl ⟨⟨_,ko0 _,rfl⟩,⟨_,ko0 _,rfl⟩,⟨_,ko0 _,rfl⟩,⟨_,ko0 _,rfl⟩,trivial⟩) trivial ?_
    intro _ _;have h00:((0:Int)<0)=False:=by simp
    simp -implicitDefEqProofs only[oS.d,J0,J1,J2,J3,J4,J5,J6,J7,J8,↓reduceIte,reduceCtorEq,h00];apply aH [0,1,2,3]
    ·simp only[dI,iC,kx5,cond_true,cond_false,ti3,kZ,kG,cN,ks4,kr6,mkV,kw7,kr4,kr7,ks7,ks0,if_true,kv5,kw1,kq1,kq5,kw5];rfl
    ·first|rfl|(simp[fin,bO,bA,cF,bP,cW,bT,idx,dA,aG,cE,bD,ks9];first|exact⟨rfl,rfl⟩|exact⟨rfl,rfl,rfl⟩)
    rw[hn1];simp only[if_pos hk2];first|exact⟨rfl,rfl⟩|exact⟨trivial,trivial⟩|exact⟨rfl,trivial⟩|exact⟨trivial,rfl⟩
   ·refine⟨_,_,rfl,?_⟩;simp -implicitDefEqProofs only[oS.d,J0,J1,J2,J3,J4,J5,J6,J7,J8,↓reduceIte,reduceCtorEq];refine bE (α:=Nat) (fun i=>[(22,.one (.d (.int .i64 i))),(21,.one (.d (.int .i64 l.length))),(20,.one (.own 6 1 l.length)),(0,.one (.ptr 0 0)),(3,.one (.ptr 4 0)),(4,.one (.ptr 5 0))]) (fun i=>[.box [.own 1 vf A.length,.own 2 vt B.length,.fn 99 [.ptr 3 0]],.arr false 1 vf (nums A++XF),.arr false 1 vt (nums B++XT),.box [.ptr 0 0],.box [.d (.int .i64 k),.d (.int .i64 n1),.own 6 1 l.length],.box [.d (.int .i64 0),.d (.int .i64 0),.nils],.arr false 3 1 (ks8 (mix (cI A B) l i))])
     (fun i=>i≤l.length) (fun i=>l.length-i) 0
     (aP [0,1,2,3,4,5,6] rfl rfl rfl rfl) (kt1 _) ?_
    intro i hi;have hw:=bQ (a:=i) rfl (by omega);rcases ks3 i l.length with h5|h5
    ·have hc:((i:Int)<(l.length:Int))=True:=by simp;omega
     obtain⟨u,hu⟩:=bK h5;have hg:(ks8 (mix (cI A B) l i))[i]?=some (aF u):=by rw[eI,ks1,zi3 hu];rfl
     have iu:=ih u (hmem i u hu) (by omega);have hset:(ks8 (mix (cI A B) l i)).set i (aF (cI A B u))=ks8 (mix (cI A B) l (i+1)):=by rw[←zJ8 hu,eI,eI,kK6]
     have l1:(i:Int)<(l.length:Int):=by omega
     generalize cI A B u=R at iu hset;obtain⟨rk,rn,rl⟩:=R;obtain⟨uk,un,ul⟩:=u;simp only[tyV,aF,kq1,kq5]at iu hset hg;simp -implicitDefEqProofs only[oS.d,J0,J1,J2,J3,J4,J5,J6,J7,J8,↓reduceIte,reduceCtorEq,hc,hg,l1,kq2,kq4];refine aM [0,1,2,3] iu rfl rfl rfl rfl ?_;simp -implicitDefEqProofs only[oS.d,J0,J1,J2,J3,J4,J5,J6,J7,J8,↓reduceIte,reduceCtorEq,hc,hg,l1,hset,hw,kq2,kq4];refine⟨i+1,by omega,by omega,?_⟩;exact(aP [0,1,2,3,4,5,6] rfl rfl rfl rfl)
    ·have hc:((i:Int)<(l.length:Int))=False:=by simp;omega
     have hie:i=l.length:=by omega
     subst hie;simp -implicitDefEqProofs only[oS.d,J0,J1,J2,J3,J4,J5,J6,J7,J8,↓reduceIte,reduceCtorEq,hc];apply aH [0,1,2,3]
     ·simp only[dI,iC,kx5,cond_true,cond_false,ti3,kZ,kG,cN,ks4,kr6,mkV,kw7,kr4,kr7,ks7,ks0,if_true,kv5,kw1,kq1,kq5,kw5];rfl
     ·first|rfl|(simp[fin,bO,bA,cF,bP,cW,bT,idx,dA,aG,cE,bD,ks9];first|exact⟨rfl,rfl⟩|exact⟨rfl,rfl,rfl⟩)
     rw[hn1,zJ9,kq6 (by rw[cS,kr8];exact ks0 _)];simp only[if_pos hk2];first|exact⟨rfl,rfl⟩|exact⟨trivial,trivial⟩|exact⟨rfl,trivial⟩|exact⟨trivial,rfl⟩
  ·have hk1:(k=6)=False:=by simp[hk]
   have hk2:¬k=gN:=hk;rw[if_neg hk2]at hn1;simp -implicitDefEqProofs only[oS.d,J0,J1,J2,J3,J4,J5,J6,J7,J8,↓reduceIte,reduceCtorEq,hk1];rw[←hn1];refine bJ [] hcl rfl rfl rfl ?_;rintro _ _ (⟨he,rfl,rfl⟩|⟨rfl,rfl⟩)
   ·have hl0:l=[]:=ku2.1 (by rw[←hl3,he];rfl);subst hl0;refine⟨_,_,rfl,?_⟩;simp -implicitDefEqProofs only[oS.d,J0,J1,J2,J3,J4,J5,J6,J7,J8,↓reduceIte,reduceCtorEq];refine bE (α:=Unit) (fun _=>[(22,.one (.d (.int .i64 0))),(21,.one (.d (.int .i64 0))),(3,.one (.ptr 4 0)),(4,.one (.ptr 5 0))]) (fun _=>[.box [.own 1 vf A.length,.own 2 vt B.length,.fn 99 [.ptr 3 0]],.arr false 1 vf (nums A++XF),.arr false 1 vt (nums B++XT),.box [.ptr 0 0],.box [.d (.int .i64 k),.d (.int .i64 n1),.d (.sl [])],.box [.d (.int .i64 0),.d (.int .i64 0),.nils]]) (fun _=>True) (fun _=>0) ()
     (gJ [0,1,2,3,4,5] [.box [.own 1 vf A.length,.own 2 vt B.length,.fn 99 [.ptr 3 0]],.arr false 1 vf (nums A++XF),.arr false 1 vt (nums B++XT),.box [.ptr 0 0],.box [.d (.int .i64 k),.d (.int .i64 n1),.d (.sl [])],.box [.d (.int .i64 0),.d (.int .i64 0),.nils]] ⟨kn5 _,kn5 _,kn5 _,kn5 _,⟨.inl rfl,.inl rfl,.inl rfl,.inr (.inl ⟨rfl,rfl⟩),trivial⟩,kn5 _,trivial⟩ rfl rfl rfl ⟨⟨_,ko0 _,rfl⟩,⟨_,ko0 _,rfl⟩,⟨_,ko0 _,rfl⟩,⟨_,ko0 _,rfl⟩,trivial⟩) trivial ?_
    intro _ _;have h00:((0:Int)<0)=False:=by simp
    simp -implicitDefEqProofs only[oS.d,J0,J1,J2,J3,J4,J5,J6,J7,J8,↓reduceIte,reduceCtorEq,h00];apply aH [0,1,2,3]
    ·simp only[dI,iC,kx5,cond_true,cond_false,ti3,kZ,kG,cN,ks4,kr6,mkV,kw7,kr4,kr7,ks7,ks0,if_true,kv5,kw1,kq1,kq5,kw5];rfl
    ·first|rfl|(simp[fin,bO,bA,cF,bP,cW,bT,idx,dA,aG,cE,bD,ks9];first|exact⟨rfl,rfl⟩|exact⟨rfl,rfl,rfl⟩)
    rw[hn1];simp only[if_neg hk2];first|exact⟨rfl,rfl⟩|exact⟨trivial,trivial⟩|exact⟨rfl,trivial⟩|exact⟨trivial,rfl⟩
   ·refine⟨_,_,rfl,?_⟩;simp -implicitDefEqProofs only[oS.d,J0,J1,J2,J3,J4,J5,J6,J7,J8,↓reduceIte,reduceCtorEq];refine bE (α:=Nat) (fun i=>[(22,.one (.d (.int .i64 i))),(21,.one (.d (.int .i64 l.length))),(20,.one (.own 6 1 l.length)),(0,.one (.ptr 0 0)),(3,.one (.ptr 4 0)),(4,.one (.ptr 5 0))]) (fun i=>[.box [.own 1 vf A.length,.own 2 vt B.length,.fn 99 [.ptr 3 0]],.arr false 1 vf (nums A++XF),.arr false 1 vt (nums B++XT),.box [.ptr 0 0],.box [.d (.int .i64 k),.d (.int .i64 n1),.own 6 1 l.length],.box [.d (.int .i64 0),.d (.int .i64 0),.nils],.arr false 3 1 (ks8 (mix (cI A B) l i))])
     (fun i=>i≤l.length) (fun i=>l.length-i) 0
     (aP [0,1,2,3,4,5,6] rfl rfl rfl rfl) (kt1 _) ?_
    intro i hi;have hw:=bQ (a:=i) rfl (by omega);rcases ks3 i l.length with h5|h5
    ·have hc:((i:Int)<(l.length:Int))=True:=by simp;omega
     obtain⟨u,hu⟩:=bK h5;have hg:(ks8 (mix (cI A B) l i))[i]?=some (aF u):=by rw[eI,ks1,zi3 hu];rfl
     have iu:=ih u (hmem i u hu) (by omega);have hset:(ks8 (mix (cI A B) l i)).set i (aF (cI A B u))=ks8 (mix (cI A B) l (i+1)):=by rw[←zJ8 hu,eI,eI,kK6]
     have l1:(i:Int)<(l.length:Int):=by omega
     generalize cI A B u=R at iu hset;obtain⟨rk,rn,rl⟩:=R;obtain⟨uk,un,ul⟩:=u;simp only[tyV,aF,kq1,kq5]at iu hset hg;simp -implicitDefEqProofs only[oS.d,J0,J1,J2,J3,J4,J5,J6,J7,J8,↓reduceIte,reduceCtorEq,hc,hg,l1,kq2,kq4];refine aM [0,1,2,3] iu rfl rfl rfl rfl ?_;simp -implicitDefEqProofs only[oS.d,J0,J1,J2,J3,J4,J5,J6,J7,J8,↓reduceIte,reduceCtorEq,hc,hg,l1,hset,hw,kq2,kq4];refine⟨i+1,by omega,by omega,?_⟩;exact(aP [0,1,2,3,4,5,6] rfl rfl rfl rfl)
    ·have hc:((i:Int)<(l.length:Int))=False:=by simp;omega
     have hie:i=l.length:=by omega
     subst hie;simp -implicitDefEqProofs only[oS.d,J0,J1,J2,J3,J4,J5,J6,J7,J8,↓reduceIte,reduceCtorEq,hc];apply aH [0,1,2,3]
     ·simp only[dI,iC,kx5,cond_true,cond_false,ti3,kZ,kG,cN,ks4,kr6,mkV,kw7,kr4,kr7,ks7,ks0,if_true,kv5,kw1,kq1,kq5,kw5];rfl
     ·first|rfl|(simp[fin,bO,bA,cF,bP,cW,bT,idx,dA,aG,cE,bD,ks9];first|exact⟨rfl,rfl⟩|exact⟨rfl,rfl,rfl⟩)
     rw[hn1,zJ9,kq6 (by rw[cS,kr8];exact ks0 _)];simp only[if_neg hk2];first|exact⟨rfl,rfl⟩|exact⟨trivial,trivial⟩|exact⟨rfl,trivial⟩|exact⟨trivial,rfl⟩
theorem j24 (l:List Int) (n:Int) (hl:l.length<1000000000):VC kp8 143 [.one (.d (.sl (nums l))),.one (.d (.int .i64 n))] [] fun r h'=>(∃k:Int,r = .one (.d (.int .i64 k))∧(0≤k↔n∈l))∧h'=[]:=by
 refine aU mixed z34 (by simp) ?_;show vwp kp8 0 yY _ [(0,.one (.d (.sl (nums l)))),(1,.one (.d (.int .i64 n)))] [];conv in yY=>cbv
 rw[aO];simp -implicitDefEqProofs only[oS.d,J0,J1,J2,J3,J4,J5,J6,J7,J8,↓reduceIte,reduceCtorEq,bU];refine bE (α:=Nat) (fun i=>[(8,.one (.d (.int .i64 i))),(7,.one (.d (.int .i64 l.length))),(0,.one (.d (.sl (nums l)))),(1,.one (.d (.int .i64 n)))]) (fun _=>[])
  (fun i=>i≤l.length∧n∉l.take i) (fun i=>l.length-i) 0
  (aP [] rfl rfl rfl rfl) ⟨kt1 _,by simp⟩ ?_
 rintro i ⟨hi,hn⟩;have hw:=bQ (a:=i) rfl (by omega);rcases ks3 i l.length with h|h
 ·have hc:((i:Int)<(l.length:Int))=True:=by simp;omega
  obtain⟨u,hu⟩:=bK h;have hg:=iP hu;by_cases he:n=u
  ·have he2:(n=u)=True:=by simp[he]
   simp -implicitDefEqProofs only[oS.d,J0,J1,J2,J3,J4,J5,J6,J7,J8,↓reduceIte,reduceCtorEq,hc,hg,he2,kq2,kq4,bU];apply aH [];rfl;rfl;have:n∈l:=he▸kq0 hu;exact⟨⟨i,rfl,by simp[this]⟩,rfl⟩
  ·have he2:(n=u)=False:=by simp[he]
   simp -implicitDefEqProofs only[oS.d,J0,J1,J2,J3,J4,J5,J6,J7,J8,↓reduceIte,reduceCtorEq,hc,hg,he2,hw,kq2,kq4,bU];refine⟨i+1,⟨by omega,?_⟩,by omega,?_⟩
   ·rw[kw0,hu];simp only[kz8,kt5,kv0,not_or];exact⟨hn,he⟩
   ·exact(aP [] rfl rfl rfl rfl)
 ·have hc:((i:Int)<(l.length:Int))=False:=by simp;omega
  simp -implicitDefEqProofs only[oS.d,J0,J1,J2,J3,J4,J5,J6,J7,J8,↓reduceIte,reduceCtorEq,hc,bU];apply aH [];rfl;rfl;rw[kq6 h]at hn;exact⟨⟨-1,rfl,by simp[hn]⟩,rfl⟩
theorem zQ (l:List Int) (n:Int) (hl:l.length<1000000000):VC kp8 100 [.one (.d (.sl (nums l))),.one (.d (.int .i64 n))] [] fun r h'=>r = .one (.d (.bool (decide (n∈l))))∧h'=[]:=by
 have hi:=j24 l n hl;refine aU mixed z22 (by simp) ?_;show vwp kp8 0 yV _ [(0,.one (.d (.sl (nums l)))),(1,.one (.d (.int .i64 n)))] [];conv in yV=>cbv
 rw[aO];simp -implicitDefEqProofs only[oS.d,J0,J1,J2,J3,J4,J5,J6,J7,J8,↓reduceIte,reduceCtorEq];refine bJ [] (hi) rfl rfl rfl ?_;rintro _ _ ⟨⟨k,rfl,hk⟩,rfl⟩;refine⟨_,_,rfl,?_⟩;simp -implicitDefEqProofs only[oS.d,J0,J1,J2,J3,J4,J5,J6,J7,J8,↓reduceIte,reduceCtorEq];refine⟨fun h=>?_,fun h=>?_⟩
 ·apply aH [];rfl;rfl;exact⟨by simp[hk.1 h],rfl⟩
 ·apply aH [];rfl;rfl;have hn:n∉l:=fun hm=>h (hk.2 hm);exact⟨by simp[hn],rfl⟩
theorem zK1 (l:List Int) (n:Int) (hl:l.length<1000000000):VC kp8 146 [.one (.d (.sl (nums l))),.one (.ptr 0 0)] [.box [.d (.int .i64 n)]] fun r h'=>r = .one (.d (.bool (decide (n∈l))))∧h'=[.box [.d (.int .i64 n)]]:=by
 have hi:=zQ l n hl;refine aU mixed z35 (by simp) ?_;show vwp kp8 1 yZ _ [(0,.one (.d (.sl (nums l)))),(1,.one (.ptr 0 0))] [.box [.d (.int .i64 n)]];conv in yZ=>cbv
 rw[aO];simp -implicitDefEqProofs only[oS.d,J0,J1,J2,J3,J4,J5,J6,J7,J8,↓reduceIte,reduceCtorEq];refine aM [] hi rfl rfl rfl rfl ?_;simp -implicitDefEqProofs only[oS.d,J0,J1,J2,J3,J4,J5,J6,J7,J8,↓reduceIte,reduceCtorEq];apply aH [0];rfl;rfl;exact⟨rfl,rfl⟩
theorem j25 (v:Nat) (l:List Int) (XF:List (List D)) (n:Int) (hl:l.length<1000000000):VC kp8 143 [.one (.own 0 v l.length),.one (.d (.int .i64 n))] [.arr false 1 v (nums l++XF)] fun r h'=>(∃k:Int,r = .one (.d (.int .i64 k))∧(0≤k↔n∈l))∧h'=[.arr false 1 v (nums l++XF)]:=by
 refine aU mixed z34 (by simp) ?_;show vwp kp8 1 yY _ [(0,.one (.own 0 v l.length)),(1,.one (.d (.int .i64 n)))] [.arr false 1 v (nums l++XF)];conv in yY=>cbv
 rw[aO];simp -implicitDefEqProofs only[oS.d,J0,J1,J2,J3,J4,J5,J6,J7,J8,↓reduceIte,reduceCtorEq,bU];refine bE (α:=Nat) (fun i=>[(8,.one (.d (.int .i64 i))),(7,.one (.d (.int .i64 l.length))),(0,.one (.own 0 v l.length)),(1,.one (.d (.int .i64 n)))]) (fun _=>[.arr false 1 v (nums l++XF)])
  (fun i=>i≤l.length∧n∉l.take i) (fun i=>l.length-i) 0
  (aP [0] rfl rfl rfl rfl) ⟨kt1 _,by simp⟩ ?_
 rintro i ⟨hi,hn⟩;have hw:=bQ (a:=i) rfl (by omega);rcases ks3 i l.length with h|h
 ·have hc:((i:Int)<(l.length:Int))=True:=by simp;omega
  obtain⟨u,hu⟩:=bK h;have hg:(nums l++XF)[i]?=some [.int .i64 u]:=by rw[kr9 (by rw[bU];exact h)];exact iP hu
  by_cases he:n=u
  ·have he2:(n=u)=True:=by simp[he]
   simp -implicitDefEqProofs only[oS.d,J0,J1,J2,J3,J4,J5,J6,J7,J8,↓reduceIte,reduceCtorEq,hc,hg,he2,kq2,kq4,bU];apply aH [0];rfl;rfl;have:n∈l:=he▸kq0 hu;exact⟨⟨i,rfl,by simp[this]⟩,rfl⟩
  ·have he2:(n=u)=False:=by simp[he]
   simp -implicitDefEqProofs only[oS.d,J0,J1,J2,J3,J4,J5,J6,J7,J8,↓reduceIte,reduceCtorEq,hc,hg,he2,hw,kq2,kq4,bU];refine⟨i+1,⟨by omega,?_⟩,by omega,?_⟩
   ·rw[kw0,hu];simp only[kz8,kt5,kv0,not_or];exact⟨hn,he⟩
   ·exact(aP [0] rfl rfl rfl rfl)
 ·have hc:((i:Int)<(l.length:Int))=False:=by simp;omega
  simp -implicitDefEqProofs only[oS.d,J0,J1,J2,J3,J4,J5,J6,J7,J8,↓reduceIte,reduceCtorEq,hc,bU];apply aH [0];rfl;rfl;rw[kq6 h]at hn;exact⟨⟨-1,rfl,by simp[hn]⟩,rfl⟩
theorem zi4 (v:Nat) (l:List Int) (XF:List (List D)) (n:Int) (hl:l.length<1000000000):VC kp8 100 [.one (.own 0 v l.length),.one (.d (.int .i64 n))] [.arr false 1 v (nums l++XF)] fun r h'=>r = .one (.d (.bool (decide (n∈l))))∧h'=[.arr false 1 v (nums l++XF)]:=by
 have hi:=j25 v l XF n hl;refine aU mixed z22 (by simp) ?_;show vwp kp8 1 yV _ [(0,.one (.own 0 v l.length)),(1,.one (.d (.int .i64 n)))] [.arr false 1 v (nums l++XF)];conv in yV=>cbv
 rw[aO];simp -implicitDefEqProofs only[oS.d,J0,J1,J2,J3,J4,J5,J6,J7,J8,↓reduceIte,reduceCtorEq];refine bJ [0] (hi) rfl rfl rfl ?_;rintro _ _ ⟨⟨k,rfl,hk⟩,rfl⟩;refine⟨_,_,rfl,?_⟩;simp -implicitDefEqProofs only[oS.d,J0,J1,J2,J3,J4,J5,J6,J7,J8,↓reduceIte,reduceCtorEq];refine⟨fun h=>?_,fun h=>?_⟩
 ·apply aH [0];rfl;rfl;exact⟨by simp[hk.1 h],rfl⟩
 ·apply aH [0];rfl;rfl;have hn:n∉l:=fun hm=>h (hk.2 hm);exact⟨by simp[hn],rfl⟩
theorem j26 (v:Nat) (l:List Int) (XF:List (List D)) (n:Int) (hl:l.length<1000000000):VC kp8 146 [.one (.own 0 v l.length),.one (.ptr 1 0)] [.arr false 1 v (nums l++XF),.box [.d (.int .i64 n)]] fun r h'=>r = .one (.d (.bool (decide (n∈l))))∧h'=[.arr false 1 v (nums l++XF),.box [.d (.int .i64 n)]]:=by
 have hi:=zi4 v l XF n hl;refine aU mixed z35 (by simp) ?_;show vwp kp8 2 yZ _ [(0,.one (.own 0 v l.length)),(1,.one (.ptr 1 0))] [.arr false 1 v (nums l++XF),.box [.d (.int .i64 n)]];conv in yZ=>cbv
 rw[aO];simp -implicitDefEqProofs only[oS.d,J0,J1,J2,J3,J4,J5,J6,J7,J8,↓reduceIte,reduceCtorEq];refine aM [0] hi rfl rfl rfl rfl ?_;simp -implicitDefEqProofs only[oS.d,J0,J1,J2,J3,J4,J5,J6,J7,J8,↓reduceIte,reduceCtorEq];apply aH [0,1];rfl;rfl;exact⟨rfl,rfl⟩
def jb1 (c o l q:List Int):Nat→List Int
 |0=>c
 |1=>o
 |2=>l
 |_=>q
theorem j27 (c o l q:List Int) (v:Nat) (XF:List (List D)) (n:Int) (hc:c.length<1000000000) (ho:o.length<1000000000) (hl:l.length<1000000000) (hq:q.length<1000000000) :
  VC kp8 195 [.one (.bsl 0 0 4),.one (.fn 146 [.ptr 2 0])] [.box [.d (.sl (nums c)),.d (.sl (nums o)),.own 1 v l.length,.d (.sl (nums q))],.arr false 1 v (nums l++XF),.box [.d (.int .i64 n)]] fun r h'=>(∃k:Int,r = .one (.d (.int .i64 k))∧(0≤k↔(n∈c∨n∈o∨n∈l∨n∈q)))∧h'=[.box [.d (.sl (nums c)),.d (.sl (nums o)),.own 1 v l.length,.d (.sl (nums q))],.arr false 1 v (nums l++XF),.box [.d (.int .i64 n)]]:=by
 have hc:=zK1 c n hc;have ho:=zK1 o n ho;have hq:=zK1 q n hq;have hl:=j26 v l XF n hl;refine aU mixed jN5 (by simp) ?_;show vwp kp8 3 zA7 _ [(0,.one (.bsl 0 0 4)),(1,.one (.fn 146 [.ptr 2 0]))] [.box [.d (.sl (nums c)),.d (.sl (nums o)),.own 1 v l.length,.d (.sl (nums q))],.arr false 1 v (nums l++XF),.box [.d (.int .i64 n)]];conv in zA7=>cbv
 rw[aO];simp -implicitDefEqProofs only[oS.d,J0,J1,J2,J3,J4,J5,J6,J7,J8,↓reduceIte,reduceCtorEq];refine bE (α:=Nat) (fun i=>[(8,.one (.d (.int .i64 i))),(7,.one (.d (.int .i64 4))),(0,.one (.bsl 0 0 4)),(1,.one (.fn 146 [.ptr 2 0]))]) (fun _=>[.box [.d (.sl (nums c)),.d (.sl (nums o)),.own 1 v l.length,.d (.sl (nums q))],.arr false 1 v (nums l++XF),.box [.d (.int .i64 n)]])
  (fun i=>i≤4∧∀j,j<i→n∉jb1 c o l q j) (fun i=>4-i) 0
  (aP [0,1,2] rfl rfl rfl rfl) ⟨kt1 _,fun j hj=>absurd hj (by omega)⟩ ?_
 rintro i ⟨hi,hn⟩;rcases(show i=0∨i=1∨i=2∨i=3∨i=4 from by omega)with rfl|rfl|rfl|rfl|rfl
 ·-- list 0
  have e0:(((0:Nat):Int)<4)=True:=by simp
  have hw:IntKind.i64.wrap (((0:Nat):Int)+1)=((1:Nat):Int):=bQ (a:=0) rfl (by omega);have z0:(0≤((0:Nat):Int))=True:=by simp
  have z1:((0:Nat):Int).toNat=0:=rfl;have e5:(((0:Nat):Int)<((4:Nat):Int))=True:=by simp
  simp -implicitDefEqProofs only[oS.d,J0,J1,J2,J3,J4,J5,J6,J7,J8,↓reduceIte,reduceCtorEq,e0,e5,z0,z1];refine aM [2] hc rfl rfl rfl rfl ?_;by_cases hm:n∈c
  ·simp -implicitDefEqProofs only[oS.d,J0,J1,J2,J3,J4,J5,J6,J7,J8,↓reduceIte,reduceCtorEq,hm];apply aH [0,1,2];rfl;rfl;exact⟨⟨0,rfl,by simp[hm]⟩,rfl⟩
  ·simp -implicitDefEqProofs only[oS.d,J0,J1,J2,J3,J4,J5,J6,J7,J8,↓reduceIte,reduceCtorEq,hm,hw];refine⟨1,⟨by omega,?_⟩,by omega,?_⟩
   ·intro j hj;rcases(show j=0 from by omega)with rfl;all_goals first|exact hm|exact hn _ (by omega)
   ·exact(aP [0,1,2] rfl rfl rfl rfl)
 ·-- list 1
  have e0:(((1:Nat):Int)<4)=True:=by simp
  have hw:IntKind.i64.wrap (((1:Nat):Int)+1)=((2:Nat):Int):=bQ (a:=1) rfl (by omega);have z0:(0≤((1:Nat):Int))=True:=by simp
  have z1:((1:Nat):Int).toNat=1:=rfl;have e5:(((1:Nat):Int)<((4:Nat):Int))=True:=by simp
  simp -implicitDefEqProofs only[oS.d,J0,J1,J2,J3,J4,J5,J6,J7,J8,↓reduceIte,reduceCtorEq,e0,e5,z0,z1];refine aM [2] ho rfl rfl rfl rfl ?_;by_cases hm:n∈o
  ·simp -implicitDefEqProofs only[oS.d,J0,J1,J2,J3,J4,J5,J6,J7,J8,↓reduceIte,reduceCtorEq,hm];apply aH [0,1,2];rfl;rfl;exact⟨⟨1,rfl,by simp[hm]⟩,rfl⟩
  ·simp -implicitDefEqProofs only[oS.d,J0,J1,J2,J3,J4,J5,J6,J7,J8,↓reduceIte,reduceCtorEq,hm,hw];refine⟨2,⟨by omega,?_⟩,by omega,?_⟩
   ·intro j hj;rcases(show j=0∨j=1 from by omega)with rfl|rfl;all_goals first|exact hm|exact hn _ (by omega)
   ·exact(aP [0,1,2] rfl rfl rfl rfl)
 ·-- list 2
  have e0:(((2:Nat):Int)<4)=True:=by simp
  have hw:IntKind.i64.wrap (((2:Nat):Int)+1)=((3:Nat):Int):=bQ (a:=2) rfl (by omega);have z0:(0≤((2:Nat):Int))=True:=by simp
  have z1:((2:Nat):Int).toNat=2:=rfl;have e5:(((2:Nat):Int)<((4:Nat):Int))=True:=by simp
  simp -implicitDefEqProofs only[oS.d,J0,J1,J2,J3,J4,J5,J6,J7,J8,↓reduceIte,reduceCtorEq,e0,e5,z0,z1];refine aM [1,2] hl rfl rfl rfl rfl ?_;by_cases hm:n∈l
  ·simp -implicitDefEqProofs only[oS.d,J0,J1,J2,J3,J4,J5,J6,J7,J8,↓reduceIte,reduceCtorEq,hm];apply aH [0,1,2];rfl;rfl;exact⟨⟨2,rfl,by simp[hm]⟩,rfl⟩
  ·simp -implicitDefEqProofs only[oS.d,J0,J1,J2,J3,J4,J5,J6,J7,J8,↓reduceIte,reduceCtorEq,hm,hw];refine⟨3,⟨by omega,?_⟩,by omega,?_⟩
   ·intro j hj;rcases(show j=0∨j=1∨j=2 from by omega)with rfl|rfl|rfl;all_goals first|exact hm|exact hn _ (by omega)
   ·exact(aP [0,1,2] rfl rfl rfl rfl)
 ·-- list 3
  have e0:(((3:Nat):Int)<4)=True:=by simp
  have hw:IntKind.i64.wrap (((3:Nat):Int)+1)=((4:Nat):Int):=bQ (a:=3) rfl (by omega);have z0:(0≤((3:Nat):Int))=True:=by simp
  have z1:((3:Nat):Int).toNat=3:=rfl;have e5:(((3:Nat):Int)<((4:Nat):Int))=True:=by simp
  simp -implicitDefEqProofs only[oS.d,J0,J1,J2,J3,J4,J5,J6,J7,J8,↓reduceIte,reduceCtorEq,e0,e5,z0,z1];refine aM [2] hq rfl rfl rfl rfl ?_;by_cases hm:n∈q
  ·simp -implicitDefEqProofs only[oS.d,J0,J1,J2,J3,J4,J5,J6,J7,J8,↓reduceIte,reduceCtorEq,hm];apply aH [0,1,2];rfl;rfl;exact⟨⟨3,rfl,by simp[hm]⟩,rfl⟩
  ·simp -implicitDefEqProofs only[oS.d,J0,J1,J2,J3,J4,J5,J6,J7,J8,↓reduceIte,reduceCtorEq,hm,hw];refine⟨4,⟨by omega,?_⟩,by omega,?_⟩
   ·intro j hj;rcases(show j=0∨j=1∨j=2∨j=3 from by omega)with rfl|rfl|rfl|rfl;all_goals first|exact hm|exact hn _ (by omega)
   ·exact(aP [0,1,2] rfl rfl rfl rfl)
 ·have e0:(((4:Nat):Int)<4)=False:=by simp
  simp -implicitDefEqProofs only[oS.d,J0,J1,J2,J3,J4,J5,J6,J7,J8,↓reduceIte,reduceCtorEq,e0];apply aH [0,1,2];rfl;rfl;have k0:=hn 0 (by omega);have k1:=hn 1 (by omega);have k2:=hn 2 (by omega);have k3:=hn 3 (by omega);simp only[jb1]at k0 k1 k2 k3;exact⟨⟨-1,rfl,by simp[k0,k1,k2,k3]⟩,rfl⟩
theorem j28 (c o l q:List Int) (v:Nat) (XF:List (List D)) (n:Int) (hc:c.length<1000000000) (ho:o.length<1000000000) (hl:l.length<1000000000) (hq:q.length<1000000000) :
  VC kp8 145 [.one (.bsl 0 0 4),.one (.fn 146 [.ptr 2 0])] [.box [.d (.sl (nums c)),.d (.sl (nums o)),.own 1 v l.length,.d (.sl (nums q))],.arr false 1 v (nums l++XF),.box [.d (.int .i64 n)]] fun r h'=>r = .one (.d (.bool (decide (n∈c∨n∈o∨n∈l∨n∈q))))∧h'=[.box [.d (.sl (nums c)),.d (.sl (nums o)),.own 1 v l.length,.d (.sl (nums q))],.arr false 1 v (nums l++XF),.box [.d (.int .i64 n)]]:=by
 have hi:=j27 c o l q v XF n hc ho hl hq;refine aU mixed jM0 (by simp) ?_;show vwp kp8 3 zz1 _ [(0,.one (.bsl 0 0 4)),(1,.one (.fn 146 [.ptr 2 0]))] [.box [.d (.sl (nums c)),.d (.sl (nums o)),.own 1 v l.length,.d (.sl (nums q))],.arr false 1 v (nums l++XF),.box [.d (.int .i64 n)]];conv in zz1=>cbv
 rw[aO];simp -implicitDefEqProofs only[oS.d,J0,J1,J2,J3,J4,J5,J6,J7,J8,↓reduceIte,reduceCtorEq];refine bJ [0,1,2] (hi) rfl rfl rfl ?_;rintro _ _ ⟨⟨k,rfl,hk⟩,rfl⟩;refine⟨_,_,rfl,?_⟩;simp -implicitDefEqProofs only[oS.d,J0,J1,J2,J3,J4,J5,J6,J7,J8,↓reduceIte,reduceCtorEq];refine⟨fun h=>?_,fun h=>?_⟩
 ·apply aH [0,1,2];rfl;rfl;exact⟨by simp[hk.1 h],rfl⟩
 ·apply aH [0,1,2];rfl;rfl;have hn:¬(n∈c∨n∈o∨n∈l∨n∈q):=fun hm=>h (hk.2 hm);exact⟨by simp[hn],rfl⟩
theorem jb2 {l:List Int} {k:Int} (h:∀i,0≤i→i<k→i∈l) (hk:0≤k):k≤l.length:=by
 have:∀(n:Nat) (l:List Int),(∀i:Nat,i<n→(i:Int)∈l)→n≤l.length:=by
  intro n;induction n with
  |zero=>intro l _;omega
  |succ n ih=>
   intro l h;have hm:=h n (by omega);have h1:=ih (l.erase n) fun i hi=>by
    rw[List.mem_erase_of_ne (by omega)];exact h i (by omega)
   have h2:=List.length_erase_of_mem hm;have h3:=List.length_pos_of_mem hm;omega
 have:=this k.toNat l fun i hi=>h i (by omega) (by omega);omega
theorem j29 (c o l q:List Int) (v:Nat) (XF:List (List D)) (hc:c.length<100000000) (ho:o.length<100000000) (hl:l.length<100000000) (hq:q.length<100000000) :
  VC kp8 102 [.one (.bsl 0 0 4)] [.box [.d (.sl (nums c)),.d (.sl (nums o)),.own 1 v l.length,.d (.sl (nums q))],.arr false 1 v (nums l++XF)] fun r h'=>(∃m:Int,r = .one (.d (.int .i64 m))∧m∉c∧m∉o∧m∉l∧m∉q)∧h'=[.box [.d (.sl (nums c)),.d (.sl (nums o)),.own 1 v l.length,.d (.sl (nums q))],.arr false 1 v (nums l++XF)]:=by
 refine aU mixed jK6 (by simp) ?_;show vwp kp8 2 zx7 _ [(0,.one (.bsl 0 0 4))] [.box [.d (.sl (nums c)),.d (.sl (nums o)),.own 1 v l.length,.d (.sl (nums q))],.arr false 1 v (nums l++XF)];conv in zx7=>cbv
 rw[aO];simp -implicitDefEqProofs only[oS.d,J0,J1,J2,J3,J4,J5,J6,J7,J8,↓reduceIte,reduceCtorEq];refine bE (α:=Nat) (fun i=>[(3,.one (.ptr 2 0)),(0,.one (.bsl 0 0 4))]) (fun i=>[.box [.d (.sl (nums c)),.d (.sl (nums o)),.own 1 v l.length,.d (.sl (nums q))],.arr false 1 v (nums l++XF),.box [.d (.int .i64 i)]])
  (fun i=>∀j:Int,0≤j→j<i→j∈c++o++l++q) (fun i=>c.length+o.length+l.length+q.length+1-i) 0
  (aP [0,1,2] rfl rfl rfl rfl) (fun j h1 h2=>absurd h2 (by omega)) ?_
 intro i hi;have hb:=jb2 hi (by omega);simp only[kq3]at hb;have hw:=bQ (a:=i) rfl (by omega);have h4:=j28 c o l q v XF i (by omega) (by omega) (by omega) (by omega);simp -implicitDefEqProofs only[oS.d,J0,J1,J2,J3,J4,J5,J6,J7,J8,↓reduceIte,reduceCtorEq];refine aM [0,1,2] h4 rfl rfl rfl rfl ?_;by_cases hm:((i:Int)∈c∨(i:Int)∈o∨(i:Int)∈l∨(i:Int)∈q)
 ·simp -implicitDefEqProofs only[oS.d,J0,J1,J2,J3,J4,J5,J6,J7,J8,↓reduceIte,reduceCtorEq,hm,hw];refine⟨i+1,fun j h1 h2=>?_,?_,?_⟩
  ·by_cases he:j=i
   ·subst he;simp only[kt5];rcases hm with h|h|h|h<;>simp[h]
   ·exact hi j h1 (by omega)
  ·have hb2:=jb2 (l:=c++o++l++q) (k:=((i+1:Nat):Int)) (fun j h1 h2=>by
    by_cases he:j=i
    ·subst he;simp only[kt5];rcases hm with h|h|h|h<;>simp[h]
    ·exact hi j h1 (by omega)) (by omega)
   simp only[kq3]at hb2;omega
  ·exact(aP [0,1,2] rfl rfl rfl rfl)
 ·simp -implicitDefEqProofs only[oS.d,J0,J1,J2,J3,J4,J5,J6,J7,J8,↓reduceIte,reduceCtorEq,hm];apply aH [0,1];rfl;rfl;simp only[not_or]at hm;exact⟨⟨i,rfl,hm.1,hm.2.1,hm.2.2.1,hm.2.2.2⟩,rfl⟩
def Fsh (c own ins o:List Int):Prop:=∀(i:Nat) (x u:Int),own[i]?=some x→o[i]?=some u→(x∉c→u=x)∧(x∈c→u∉c∧u∉own∧u∉o.take i∧u∉ins)
theorem j30 {A B c own ins o:List Int} (hc:∀n,n∈c↔∃m∈ins,m∉own∧im A B m=n) (hl:o.length=own.length) (h:Fsh c own ins o):eJ A B own o (fun n=>n∈ins):=by
 refine⟨hl,fun n hn hno hm=>?_,fun i j x y u v hij hx hy hxy hu hv huv=>?_⟩
 ·have hcn:im A B n∈c:=(hc _).2 ⟨n,hn,hno,rfl⟩;obtain⟨i,hi⟩:=kw9 hm;have hil:=(kp9.1 hi).1;obtain⟨x,hx⟩:=bK (l:=own) (i:=i) (by omega);have:=h i x _ hx hi;by_cases hxc:x∈c
  ·exact(this.2 hxc).1 hcn
  ·exact hxc (this.1 hxc▸hcn)
 ·have hi:=h i x u hx hu;have hj:=h j y v hy hv;by_cases hyc:y∈c
  ·refine(hj.2 hyc).2.2.1 ?_;rw[←huv];have:(o.take j)[i]?=some u:=by rw[List.getElem?_take_of_lt hij];exact hu
   exact kq0 this
  ·have hvy:=hj.1 hyc;by_cases hxc:x∈c
   ·exact(hi.2 hxc).2.1 (by rw[huv,hvy];exact kq0 hy)
   ·exact hxy (by rw[←hi.1 hxc,huv,hvy])
theorem jb3 {c own ins o:List Int} {k m:Int} (h:Fsh c own ins o) (hk:own[o.length]?=some k) (hm:(k∉c∧m=k)∨(k∈c∧m∉c∧m∉own∧m∉o∧m∉ins)):Fsh c own ins (o++[m]):=by
 intro i x u hx hu;rcases Nat.lt_trichotomy i o.length with hi|hi|hi
 ·rw[kr9 hi]at hu;have:=h i x u hx hu;rw[ky0 (by omega)];exact this
 ·subst hi;rw[hk]at hx;cases hx;rw[kr5 (ks0 _),kD4]at hu;have hmu:m=u:=by simpa using hu
  subst hmu;rw[ky0 (ks0 _),kv2];rcases hm with⟨h1,h2⟩|⟨h1,h2,h3,h4,h5⟩
  ·exact⟨fun _=>h2,fun hc=>absurd hc h1⟩
  ·exact⟨fun hc=>absurd h1 hc,fun _=>⟨h2,h3,h4,h5⟩⟩
 ·rw[List.getElem?_eq_none (by simp;omega)]at hu;cases hu
theorem jb4 (vf vt:Nat) (A B own ins:List Int) (XF XT:List (List D)) (hA:A.length<1000000000) (hAB:A.length=B.length) (ho:own.length<10000000) (hi:ins.length<10000000) :
  VC kp8 99 [.one (.d (.sl (nums own))),.one (.d (.sl (nums ins))),.one (.ptr 3 0)] (rH vf vt A B XF XT) fun r h'=>(∃out,r = .one (.d (.sl (nums out)))∧eJ A B own out (fun n=>n∈ins))∧h'=rH vf vt A B XF XT:=by
 have hst:=fun n=>jb0 vf vt A B XF XT hA hAB n;simp only[rH]at hst ⊢;refine aU mixed jK4 (by simp) ?_;show vwp kp8 4 zx5 _ [(0,.one (.d (.sl (nums own)))),(1,.one (.d (.sl (nums ins)))),(2,.one (.ptr 3 0))] [.box [.own 1 vf A.length,.own 2 vt B.length,.fn 99 [.ptr 3 0]],.arr false 1 vf (nums A++XF),.arr false 1 vt (nums B++XT),.box [.ptr 0 0]];conv in zx5=>cbv
 rw[aO];simp -implicitDefEqProofs only[oS.d,J0,J1,J2,J3,J4,J5,J6,J7,J8,↓reduceIte,reduceCtorEq,bU];refine bE (α:=Nat×List Int) (fun x=>[(14,.one (.d (.int .i64 x.1))),(13,.one (.d (.int .i64 ins.length))),(12,.one (.d (.sl (nums ins)))),(6,.one (.own 4 x.2.length x.2.length)),(0,.one (.d (.sl (nums own)))),(1,.one (.d (.sl (nums ins)))),(2,.one (.ptr 3 0))]) (fun x=>[.box [.own 1 vf A.length,.own 2 vt B.length,.fn 99 [.ptr 3 0]],.arr false 1 vf (nums A++XF),.arr false 1 vt (nums B++XT),.box [.ptr 0 0],.arr false 1 x.2.length (nums x.2)])
  (fun x=>x.1≤ins.length∧x.2.length≤x.1∧∀n,n∈x.2↔∃m∈ins.take x.1,m∉own∧im A B m=n) (fun x=>ins.length-x.1) (0,[])
  (oC [(6,1)] [] [0,1,2,3,4] rfl rfl rfl rfl rfl rfl) ⟨kt1 _,ks0 _,by simp⟩ ?_
 rintro⟨i,c⟩ ⟨h1,h2,h3⟩;dsimp only at h1 h2 h3 ⊢;have hw:=bQ (a:=i) rfl (by omega);have htk:(nums c).take c.length=nums c:=kq6 (by rw[bU];exact ks0 _);rcases ks3 i ins.length with h5|h5
 ·have hc:((i:Int)<(ins.length:Int))=True:=by simp;omega
  obtain⟨k,hk⟩:=bK h5;have hg:=iP hk;have hco:=zQ own k (by omega);simp -implicitDefEqProofs only[oS.d,J0,J1,J2,J3,J4,J5,J6,J7,J8,↓reduceIte,reduceCtorEq,hc,hg,kq2,kq4];refine aM [] hco rfl rfl rfl rfl ?_;by_cases hm:k∈own
  ·simp -implicitDefEqProofs only[oS.d,J0,J1,J2,J3,J4,J5,J6,J7,J8,↓reduceIte,reduceCtorEq,hm,hw];refine⟨(i+1,c),⟨by show i+1≤ins.length;omega,by show c.length≤i+1;omega,fun n=>?_⟩,by show ins.length-(i+1)<ins.length-i;omega,?_⟩
   ·show n∈c↔∃m∈ins.take (i+1),_;rw[h3 n,kw0,hk];simp only[kz8,kt5,kv0];constructor
    ·rintro⟨m,a1,a2,a3⟩;exact⟨m,.inl a1,a2,a3⟩
    ·rintro⟨m,a1|a1,a2,a3⟩
     ·exact⟨m,a1,a2,a3⟩
     ·exact absurd (a1▸hm) a2
   ·exact(aP [0,1,2,3,4] rfl rfl rfl rfl)
  ·have hcap:(c.length+1)*8≤aV∧c.length+1≤aV:=by simp[aV];omega
   have e2:nums c++[[.int .i64 (im A B k)]]=nums (c++[im A B k]):=by simp[nums]
   have e3:c.length+1=(c++[im A B k]).length:=by simp
   simp -implicitDefEqProofs only[oS.d,J0,J1,J2,J3,J4,J5,J6,J7,J8,↓reduceIte,reduceCtorEq,hm];refine aM [0,1,2,3] (hst k) rfl rfl rfl rfl ?_;simp -implicitDefEqProofs only[oS.d,J0,J1,J2,J3,J4,J5,J6,J7,J8,↓reduceIte,reduceCtorEq,hcap,htk,hw];rw[e2,e3];refine⟨(i+1,c++[im A B k]),⟨by show i+1≤ins.length;omega,by show(c++[im A B k]).length≤i+1;simp;omega,fun n=>?_⟩,by show ins.length-(i+1)<ins.length-i;omega,?_⟩
   ·show n∈c++[im A B k]↔∃m∈ins.take (i+1),_;rw[kt5,h3 n,kw0,hk];simp only[kz8,kt5,kv0];constructor
    ·rintro(⟨m,a1,a2,a3⟩|e)
     ·exact⟨m,.inl a1,a2,a3⟩
     ·exact⟨k,.inr rfl,hm,e.symm⟩
    ·rintro⟨m,a1|a1,a2,a3⟩
     ·exact .inl ⟨m,a1,a2,a3⟩
     ·subst a1;exact .inr a3.symm
   ·exact(aP [0,1,2,3,4] rfl rfl rfl rfl)
 ·have hc:((i:Int)<(ins.length:Int))=False:=by simp;omega
  have hie:i=ins.length:=by omega
  subst hie;rw[kv2]at h3;simp -implicitDefEqProofs only[oS.d,J0,J1,J2,J3,J4,J5,J6,J7,J8,↓reduceIte,reduceCtorEq,hc,bU];refine bE (α:=Nat×List Int) (fun x=>[(31,.one (.d (.int .i64 x.1))),(30,.one (.d (.int .i64 own.length))),(29,.one (.d (.sl (nums own)))),(9,.one (.own 4 x.2.length x.2.length)),(6,.one (.d (.sl (nums c)))),(0,.one (.d (.sl (nums own)))),(1,.one (.d (.sl (nums ins))))]) (fun x=>[.box [.own 1 vf A.length,.own 2 vt B.length,.fn 99 [.ptr 3 0]],.arr false 1 vf (nums A++XF),.arr false 1 vt (nums B++XT),.box [.ptr 0 0],.arr false 1 x.2.length (nums x.2)])
   (fun x=>x.1≤own.length∧x.2.length=x.1∧Fsh c own ins x.2) (fun x=>own.length-x.1) (0,[])
   (oA [(9,1)] [] [0,1,2,3,5] _ rfl rfl (ko1 _) rfl rfl rfl ⟨⟨_,ko0 _,rfl⟩,⟨_,ko0 _,rfl⟩,⟨_,ko0 _,rfl⟩,⟨_,ko0 _,rfl⟩,⟨_,ko0 _,by simp[cF,bP,bT,idx,htk]⟩,⟨_,ko0 _,rfl⟩,⟨_,ko0 _,rfl⟩,trivial⟩) ⟨kt1 _,rfl,fun i x u _ hu=>by cases hu⟩ ?_
  rintro⟨j,o⟩ ⟨g1,g2,g3⟩;dsimp only at g1 g2 g3 ⊢;have hw:=bQ (a:=j) rfl (by omega);have hto:(nums o).take o.length=nums o:=kq6 (by rw[bU];exact ks0 _);rcases ks3 j own.length with h6|h6
  ·have hcj:((j:Int)<(own.length:Int))=True:=by simp;omega
   obtain⟨k,hk⟩:=bK h6;have hg:=iP hk;have hco:=zQ c k (by omega);have hcap:(o.length+1)*8≤aV∧o.length+1≤aV:=by simp[aV];omega
   simp -implicitDefEqProofs only[oS.d,J0,J1,J2,J3,J4,J5,J6,J7,J8,↓reduceIte,reduceCtorEq,hcj,hg,kq2,kq4];refine aM [] hco rfl rfl rfl rfl ?_;by_cases hm:k∈c
   ·have hun:=j29 c own o ins o.length [] (by omega) (by omega) (by omega) (by omega);simp only[List.append_nil]at hun;have nb:Nat.beq 1 1=true:=rfl;simp -implicitDefEqProofs only[oS.d,J0,J1,J2,J3,J4,J5,J6,J7,J8,↓reduceIte,reduceCtorEq,hm,nb,rC];refine bJ [5,4] (hun) rfl rfl rfl ?_;rintro _ _ ⟨⟨m,rfl,m1,m2,m3,m4⟩,rfl⟩;refine⟨_,_,rfl,?_⟩;have e2:nums o++[[.int .i64 m]]=nums (o++[m]):=by simp[nums]
    have e3:o.length+1=(o++[m]).length:=by simp
    simp -implicitDefEqProofs only[oS.d,J0,J1,J2,J3,J4,J5,J6,J7,J8,↓reduceIte,reduceCtorEq,hcap,hto,hw];rw[e2,e3];refine⟨(j+1,o++[m]),⟨by show j+1≤own.length;omega,by show(o++[m]).length=j+1;simp;omega,jb3 g3 (by rw[g2];exact hk) (.inr ⟨hm,m1,m2,m3,m4⟩)⟩,by show own.length-(j+1)<own.length-j;omega,?_⟩;exact(aP [0,1,2,3,4] rfl rfl rfl rfl)
   ·have e2:nums o++[[.int .i64 k]]=nums (o++[k]):=by simp[nums]
    have e3:o.length+1=(o++[k]).length:=by simp
    simp -implicitDefEqProofs only[oS.d,J0,J1,J2,J3,J4,J5,J6,J7,J8,↓reduceIte,reduceCtorEq,hm,hcap,hto,hw];rw[e2,e3];refine⟨(j+1,o++[k]),⟨by show j+1≤own.length;omega,by show(o++[k]).length=j+1;simp;omega,jb3 g3 (by rw[g2];exact hk) (.inl ⟨hm,rfl⟩)⟩,by show own.length-(j+1)<own.length-j;omega,?_⟩;exact(aP [0,1,2,3,4] rfl rfl rfl rfl)
  ·have hcj:((j:Int)<(own.length:Int))=False:=by simp;omega
   simp -implicitDefEqProofs only[oS.d,J0,J1,J2,J3,J4,J5,J6,J7,J8,↓reduceIte,reduceCtorEq,hcj];apply aH [0,1,2,3]
   ·rfl
   ·simp[fin,bO,bA,cF,bP,cW,bT,idx,dA,aG,cE,bD,ks9];first|exact⟨rfl,rfl⟩|exact⟨rfl,rfl,rfl⟩
   refine⟨⟨o,by rw[hto],j30 h3 (by omega) g3⟩,rfl⟩
end Go.Vt.Tryz
