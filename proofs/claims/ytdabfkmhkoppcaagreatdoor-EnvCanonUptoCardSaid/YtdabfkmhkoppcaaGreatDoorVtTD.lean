import Derived.Test.YtdabfkmhkoppcaaGreatDoorVtFz
import Derived.Test.YtdabfkmhkoppcaaGreatDoorVtX1
set_option linter.all false
set_option maxHeartbeats 4000000
set_option maxRecDepth 100000
open Int renaming natCast_nonneg→kq2,toNat_natCast→kq4
open List renaming drop_zero→kw7,getElem?_cons_succ→ks4,getElem?_cons_zero→kr6,length_cons→kr4,length_nil→kr7,map_cons→kq1,map_nil→kq5,mem_of_getElem?→kq0,take_of_length_le→kq6,take_succ_cons→kv5,take_zero→kw1
open Nat renaming le_refl→ks0,lt_or_ge→ks3,reduceAdd→ks7,reduceBEq→kx5,reduceLeDiff→kw5,zero_le→kt1
open Go.Proofs.Tryz renaming prog→kp8
open Go.Vt.aF renaming encs→ks8
open Go.Vt.aG renaming renLs→ks9
open Go.Vt renaming dL→J0,mkV→J1
open Nat renaming reduceBEq→J2,reduceEqDiff→J3,reduceLT→J4,reduceLeDiff→J5,reduceAdd→J6,reduceMul→J7,reduceSub→J8
namespace Go.Vt.Tryz
open Go.Proofs Go.Vt.Al
def wpt:Bool→L
 |true=>.ptr 0 0
 |false=>.d .nilp
def wh (p:Bool) (v:Nat) (X:ByteArray) (fr:List Int):aB:=[.bx (some 222) [wpt p,.own 1 v X.size,.d (.sl (nums fr))],.ar (some 5) false 1 v (cT X)]
theorem jk4 (p:Bool) (v:Nat) (X:ByteArray) (fr:List Int) (hfr:fr.length<1000000000):∀(N:Nat) (t:Ty),tyn t≤N→N<100000000→eU t→
  VC kp8 227 [.one (.ptr 0 0),tyV t] [.bx (some 222) [wpt p,.own 1 v X.size,.d (.sl (nums fr))],.ar (some 5) false 1 v (cT X)] fun r h'=>r=tyV (mkT fr t)∧h'=[.bx (some 222) [wpt p,.own 1 v X.size,.d (.sl (nums fr))],.ar (some 5) false 1 v (cT X)]
 |0,.mk k n l,h,_,_=>by simp only[tyn]at h;omega
 |N+1,.mk k n l,h,hN,ho=>by
  have ih:=jk4 p v X fr hfr N;simp only[tyn,mK]at h;simp only[eU,zk8]at ho;have hlen:=eC (f:=tyn) (fun t=>by cases t;simp[tyn]) l;have hcl:=zJ6 l (by omega);have hl3:(ks8 l).length=l.length:=cS l;rw[hl3]at hcl;have hmem:∀(i:Nat) (u:Ty),l[i]?=some u→tyn u≤N:=fun i u hu=>by have:=dB (f:=tyn) (kq0 hu);omega
  have hcn:=fun m=>zQ fr m hfr;obtain⟨R0,hR0⟩:∃R0,R0=mkT fr (.mk k n l):=⟨_,rfl⟩;rw[←hR0];rw[mkT,ji4]at hR0;simp only[tyV,aF,kq1,kq5];refine aU mixed jQ0 (by simp) ?_;show vwp kp8 2 zD2 _ [(0,.one (.ptr 0 0)),(1,.agg [.d (.int .i64 k),.d (.int .i64 n),.d (.sl (ks8 l))])] [.bx (some 222) [wpt p,.own 1 v X.size,.d (.sl (nums fr))],.ar (some 5) false 1 v (cT X)];conv in zD2=>cbv
  rw[aO];by_cases hk:k=6∧n∉fr
  ·obtain⟨hk6,hn⟩:=hk;have g1:(k=6)=True:=by simp[hk6]
   have g2:(n∈fr)=False:=by simp[hn]
   rw[if_pos ⟨hk6,hn⟩]at hR0;have c1:=hcn n;simp only[g2,decide_false]at c1;simp -implicitDefEqProofs only[oS.d,J0,J1,J2,J3,J4,J5,J6,J7,J8,↓reduceIte,reduceCtorEq,g1];refine aM [] c1 rfl rfl rfl rfl ?_;simp -implicitDefEqProofs only[oS.d,J0,J1,J2,J3,J4,J5,J6,J7,J8,↓reduceIte,reduceCtorEq];refine bE (α:=Nat) (fun i=>[(24,.one (.d (.int .i64 i))),(23,.one (.d (.int .i64 n))),(5,.one (.d (.int .i64 (lG fr i)))),(0,.one (.ptr 0 0)),(4,.one (.ptr 3 0))]) (fun _=>[.bx (some 222) [wpt p,.own 1 v X.size,.d (.sl (nums fr))],.ar (some 5) false 1 v (cT X),.box [.d (.int .i64 k),.d (.int .i64 n),.d (.sl (ks8 l))],.box [.d (.int .i64 0),.d (.int .i64 0),.nils]])
    (fun i=>i≤n.toNat) (fun i=>n.toNat-i) 0
    (aP [0,1,2,3] rfl rfl (by cases p<;>rfl) rfl) (kt1 _) ?_
   intro i hi;have hw:i<n.toNat→IntKind.i64.wrap ((i:Int)+1)=((i+1:Nat):Int):=fun h=>by rw[uM ⟨by omega,by have:=ho.1.2;omega⟩];simp
   rcases ks3 i n.toNat with h5|h5
   ·have hc:((i:Int)<n)=True:=by simp;omega
    have hw:=hw h5;have c2:=hcn (i:Int);by_cases hm:(i:Int)∈fr
    ·have hcb:lG fr (i+1)=lG fr i:=by rw[lG,if_pos hm]
     simp only[hm,decide_true]at c2;simp -implicitDefEqProofs only[oS.d,J0,J1,J2,J3,J4,J5,J6,J7,J8,↓reduceIte,reduceCtorEq,hc];refine aM [] c2 rfl rfl rfl rfl ?_;simp -implicitDefEqProofs only[oS.d,J0,J1,J2,J3,J4,J5,J6,J7,J8,↓reduceIte,reduceCtorEq,hw];refine⟨i+1,by omega,by omega,?_⟩;rw[hcb];exact(aP [0,1,2,3] rfl rfl (by cases p<;>rfl) rfl)
    ·have hcb:lG fr (i+1)=IntKind.i64.wrap (lG fr i+1):=by rw[lG,if_neg hm]
     simp only[hm,decide_false]at c2;simp -implicitDefEqProofs only[oS.d,J0,J1,J2,J3,J4,J5,J6,J7,J8,↓reduceIte,reduceCtorEq,hc];refine aM [] c2 rfl rfl rfl rfl ?_;simp -implicitDefEqProofs only[oS.d,J0,J1,J2,J3,J4,J5,J6,J7,J8,↓reduceIte,reduceCtorEq,hw];refine⟨i+1,by omega,by omega,?_⟩;rw[hcb];exact(aP [0,1,2,3] rfl rfl (by cases p<;>rfl) rfl)
   ·have hc:((i:Int)<n)=False:=by simp;omega
    have hie:i=n.toNat:=by omega
    subst hie;simp -implicitDefEqProofs only[oS.d,J0,J1,J2,J3,J4,J5,J6,J7,J8,↓reduceIte,reduceCtorEq,hc];cases p;all_goals
     refine zr8 [] [0,1] (vs:=[.agg [.d (.int .i64 7),.d (.int .i64 (lG fr n.toNat)),.nils]]) (r1:=.agg [.d (.int .i64 7),.d (.int .i64 (lG fr n.toNat)),.d (.sl [])]) ?_ rfl ⟨.inl rfl,.inl rfl,.inr (.inl ⟨rfl,rfl⟩),trivial⟩ (ko1 _) rfl ?_
     ·simp[dI,cN,mkV,List.lookup,kG]
     ·rw[hR0];exact⟨rfl,rfl⟩
  rw[if_neg hk]at hR0;by_cases hk6:k=6
  case' pos=>
   have hn:n∈fr:=Classical.byContradiction fun h=>hk ⟨hk6,h⟩;have g1:(k=6)=True:=by simp[hk6]
   have g2:(n∈fr)=True:=by simp[hn]
   have c1:=hcn n;simp only[g2,decide_true]at c1;simp -implicitDefEqProofs only[oS.d,J0,J1,J2,J3,J4,J5,J6,J7,J8,↓reduceIte,reduceCtorEq,g1];refine aM [] c1 rfl rfl rfl rfl ?_;simp -implicitDefEqProofs only[oS.d,J0,J1,J2,J3,J4,J5,J6,J7,J8,↓reduceIte,reduceCtorEq]
  case' neg=>
   have g1:(k=6)=False:=by simp[hk6]
   simp -implicitDefEqProofs only[oS.d,J0,J1,J2,J3,J4,J5,J6,J7,J8,↓reduceIte,reduceCtorEq,g1]
  all_goals
   refine bJ [] hcl rfl rfl rfl ?_;rintro _ _ (⟨he,rfl,rfl⟩|⟨rfl,rfl⟩)
   ·have hl0:l=[]:=List.length_eq_zero_iff.1 (by rw[←hl3,he];rfl);subst hl0;refine⟨_,_,rfl,?_⟩;simp -implicitDefEqProofs only[oS.d,J0,J1,J2,J3,J4,J5,J6,J7,J8,↓reduceIte,reduceCtorEq];refine bE (α:=Unit) (fun _=>[(46,.one (.d (.int .i64 0))),(45,.one (.d (.int .i64 0))),(3,.one (.ptr 2 0)),(4,.one (.ptr 3 0))]) (fun _=>[.bx (some 222) [wpt p,.own 1 v X.size,.d (.sl (nums fr))],.ar (some 5) false 1 v (cT X),.box [.d (.int .i64 k),.d (.int .i64 n),.d (.sl [])],.box [.d (.int .i64 0),.d (.int .i64 0),.nils]]) (fun _=>True) (fun _=>0) ()
     (gJ [0,1,2,3] [.bx (some 222) [wpt p,.own 1 v X.size,.d (.sl (nums fr))],.ar (some 5) false 1 v (cT X),.box [.d (.int .i64 k),.d (.int .i64 n),.d (.sl [])],.box [.d (.int .i64 0),.d (.int .i64 0),.nils]] ⟨kn5 _,kn5 _,⟨.inl rfl,.inl rfl,.inl rfl,.inr (.inl ⟨rfl,rfl⟩),trivial⟩,kn5 _,trivial⟩ rfl rfl (by cases p<;>rfl) ⟨⟨_,ko0 _,rfl⟩,⟨_,ko0 _,rfl⟩,⟨_,ko0 _,rfl⟩,⟨_,ko0 _,rfl⟩,trivial⟩) trivial ?_
    intro _ _;have h00:((0:Int)<0)=False:=by simp
    simp -implicitDefEqProofs only[oS.d,J0,J1,J2,J3,J4,J5,J6,J7,J8,↓reduceIte,reduceCtorEq,h00];cases p;all_goals
     apply aH [0,1]
     ·simp only[dI,iC,kx5,cond_true,cond_false,ti3,kZ,kG,iM,cN,ks4,kr6,mkV,kw7,kr4,kr7,ks7,ks0,if_true,kv5,kw1,kq1,kq5,kw5];rfl
     ·first|rfl|(simp[fin,bO,bA,cF,bP,cW,bT,idx,dA,aG,cE,bD,ks9];first|exact⟨rfl,rfl⟩|exact⟨rfl,rfl,rfl⟩)
     rw[hR0];first|exact⟨rfl,rfl⟩|exact⟨trivial,trivial⟩|exact⟨rfl,trivial⟩|exact⟨trivial,rfl⟩
   ·refine⟨_,_,rfl,?_⟩;simp -implicitDefEqProofs only[oS.d,J0,J1,J2,J3,J4,J5,J6,J7,J8,↓reduceIte,reduceCtorEq];refine bE (α:=Nat) (fun i=>[(46,.one (.d (.int .i64 i))),(45,.one (.d (.int .i64 l.length))),(44,.one (.own 4 1 l.length)),(0,.one (.ptr 0 0)),(3,.one (.ptr 2 0)),(4,.one (.ptr 3 0))]) (fun i=>[.bx (some 222) [wpt p,.own 1 v X.size,.d (.sl (nums fr))],.ar (some 5) false 1 v (cT X),.box [.d (.int .i64 k),.d (.int .i64 n),.own 4 1 l.length],.box [.d (.int .i64 0),.d (.int .i64 0),.nils],.arr false 3 1 (ks8 (mix (mkT fr) l i))])
     (fun i=>i≤l.length) (fun i=>l.length-i) 0
     (aP [0,1,2,3,4] rfl rfl (by cases p<;>rfl) rfl) (kt1 _) ?_
    intro i hi;have hw:=bQ (a:=i) rfl (by omega);rcases ks3 i l.length with h5|h5
    ·have hc:((i:Int)<(l.length:Int))=True:=by simp;omega
     obtain⟨u,hu⟩:=bK h5;have hg:(ks8 (mix (mkT fr) l i))[i]?=some (aF u):=by rw[eI,List.getElem?_map,zi3 hu];rfl
     have iu:=ih u (hmem i u hu) (by omega) (ho.2 u (kq0 hu));have hset:(ks8 (mix (mkT fr) l i)).set i (aF (mkT fr u))=ks8 (mix (mkT fr) l (i+1)):=by rw[←zJ8 hu,eI,eI,List.map_set]
     have l1:(i:Int)<(l.length:Int):=by omega
     generalize mkT fr u=R at iu hset;obtain⟨rk,rn,rl⟩:=R;obtain⟨uk,un,ul⟩:=u;simp only[tyV,aF,kq1,kq5]at iu hset hg;simp -implicitDefEqProofs only[oS.d,J0,J1,J2,J3,J4,J5,J6,J7,J8,↓reduceIte,reduceCtorEq,hc,hg,l1,kq2,kq4];cases p;all_goals
      simp only[wpt]at iu ⊢;refine aM [0,1] iu rfl rfl rfl rfl ?_;simp -implicitDefEqProofs only[oS.d,J0,J1,J2,J3,J4,J5,J6,J7,J8,↓reduceIte,reduceCtorEq,hc,hg,l1,hset,hw,kq2,kq4];refine⟨i+1,by omega,by omega,?_⟩;exact(aP [0,1,2,3,4] rfl rfl rfl rfl)
    ·have hc:((i:Int)<(l.length:Int))=False:=by simp;omega
     have hie:i=l.length:=by omega
     subst hie;simp -implicitDefEqProofs only[oS.d,J0,J1,J2,J3,J4,J5,J6,J7,J8,↓reduceIte,reduceCtorEq,hc];cases p;all_goals
      apply aH [0,1]
      ·simp only[dI,iC,kx5,cond_true,cond_false,ti3,kZ,kG,iM,cN,ks4,kr6,mkV,kw7,kr4,kr7,ks7,ks0,if_true,kv5,kw1,kq1,kq5,kw5];rfl
      ·first|rfl|(simp[fin,bO,bA,cF,bP,cW,bT,idx,dA,aG,cE,bD,ks9];first|exact⟨rfl,rfl⟩|exact⟨rfl,rfl,rfl⟩)
      rw[hR0,zJ9,kq6 (by rw[cS,List.length_map];exact ks0 _)];first|exact⟨rfl,rfl⟩|exact⟨trivial,trivial⟩|exact⟨rfl,trivial⟩|exact⟨trivial,rfl⟩
theorem zP2 (p:Bool) (v:Nat) (X:ByteArray) (fr:List Int) (hfr:fr.length<1000000000) (t:Ty) (ht:tyn t<10000000) (ho:eU t) :
  VC kp8 160 [.one (.ptr 0 0),tyV t] (wh p v X fr) fun r h'=>r = .one (.d (.str (tyB (mkT fr t))))∧h'=wh p v X fr:=by
 have c1:=jk4 p v X fr hfr (tyn t) t (ks0 _) (by omega) ho;have hm:=ji7 fr t;have hz:=uL fr t ho;have c2:=jk3 _ (mkT fr t) (ks0 _) (by omega) (hm.1 ho) (by omega);generalize tyB (mkT fr t)=s at c2 ⊢;generalize mkT fr t=u at c1 c2;obtain⟨k,n,l⟩:=t;obtain⟨uk,un,ul⟩:=u;simp only[wh,tyV,aF,kq1,kq5]at c1 c2 ⊢;refine aU mixed jM9 (by simp) ?_;show vwp kp8 2 zA0 _ [(0,.one (.ptr 0 0)),(1,.agg [.d (.int .i64 k),.d (.int .i64 n),.d (.sl (ks8 l))])] [.bx (some 222) [wpt p,.own 1 v X.size,.d (.sl (nums fr))],.ar (some 5) false 1 v (cT X)];conv in zA0=>cbv
 rw[aO];simp -implicitDefEqProofs only[oS.d,J0,J1,J2,J3,J4,J5,J6,J7,J8,↓reduceIte,reduceCtorEq];cases p;all_goals
  simp only[wpt]at c1 ⊢;refine aM [0,1] c1 rfl rfl rfl rfl ?_;simp -implicitDefEqProofs only[oS.d,J0,J1,J2,J3,J4,J5,J6,J7,J8,↓reduceIte,reduceCtorEq];refine aM [] c2 rfl rfl rfl rfl ?_;simp -implicitDefEqProofs only[oS.d,J0,J1,J2,J3,J4,J5,J6,J7,J8,↓reduceIte,reduceCtorEq];apply aH [0,1];rfl;rfl;exact⟨rfl,rfl⟩
theorem zP3:∃j,kp8.info? 220=some j∧(j.size != 0)=true:=by
 have h:(match kp8.info? 220 with|some j=>j.size != 0|none=>false)=true:=by kernel_rfl
 split at h
 ·rename_i j hj;exact⟨j,hj,h⟩
 ·cases h
theorem zP4:kp8.underlying 217=some (.pointer 220):=by kernel_rfl
theorem jk5:kp8.underlying 398=some .unsafePointer:=by kernel_rfl
theorem ki6 (n:Nat) (h:n=3):liesAt kp8 kp8.depth 222 (n / kp8.cellsOf 222) 0 220 1=true:=by
 subst h
 kernel_rfl
theorem ki7 {ls:List L} {r:aB}:zc2 kp8 (.bx (some 222) ls::r) 217 .neq (.one (.ptr 0 0)) (.one (.ptr 0 0))=some (.bool false):=by
 obtain⟨j,hj,_⟩:=zP3;unfold zc2;simp only[and_self,if_true,kr6,zP4,hj]
theorem ki8 {a b c:L} {r:aB}:qY kp8 (.bx (some 222) [a,b,c]::r) 217 398 0 0=true:=by
 obtain⟨j,hj,h2⟩:=zP3;unfold qY;simp only[kr6,zP4,jk5,hj,h2,kr4,kr7];rfl
theorem ki9 {a b c:L} {r:aB}:qY kp8 (.bx (some 222) [a,b,c]::r) 398 217 0 0=true:=by
 obtain⟨j,hj,h2⟩:=zP3;unfold qY;simp only[kr6,zP4,jk5,hj,Option.isSome_some,Bool.true_and];exact ki6 _ rfl
theorem kj0:mX kp8 288=true:=by rw[zZ7];rfl
theorem kj1 (p:Bool) (v:Nat) (X:ByteArray) (fr:List Int):VC kp8 259 [.one (.ptr 0 0)] (wh p v X fr) fun r h'=>r = .tup []∧h'=wh true v X fr:=by
 cases p with
 |false=>
  simp only[wh,wpt];refine aU mixed z55 (by simp) ?_;show vwp kp8 2 zE _ [(0,.one (.ptr 0 0))] [.bx (some 222) [.d .nilp,.own 1 v X.size,.d (.sl (nums fr))],.ar (some 5) false 1 v (cT X)];conv in zE=>cbv
  rw[aO];have e1:∀H,gV H .ptr .eql (.one (.d .nilp)) (.one (.d .nilp))=some (.bool true):=fun _=>rfl;simp -implicitDefEqProofs only[oS.d,J0,J1,J2,J3,J4,J5,J6,J7,J8,↓reduceIte,reduceCtorEq,e1];rw[jj8 yT z09 rfl rfl ki8];simp -implicitDefEqProofs only[oS.d,J0,J1,J2,J3,J4,J5,J6,J7,J8,↓reduceIte,reduceCtorEq];rw[ki3 kj0 rfl];simp -implicitDefEqProofs only[oS.d,J0,J1,J2,J3,J4,J5,J6,J7,J8,↓reduceIte,reduceCtorEq];rw[jj8 z09 yT rfl rfl ki9];simp -implicitDefEqProofs only[oS.d,J0,J1,J2,J3,J4,J5,J6,J7,J8,↓reduceIte,reduceCtorEq];apply aH [0,1];rfl;rfl;exact⟨rfl,rfl⟩
 |true=>
  simp only[wh,wpt];refine aU mixed z55 (by simp) ?_;show vwp kp8 2 zE _ [(0,.one (.ptr 0 0))] [.bx (some 222) [.ptr 0 0,.own 1 v X.size,.d (.sl (nums fr))],.ar (some 5) false 1 v (cT X)];conv in zE=>cbv
  rw[aO];have e1:gV [.bx (some 222) [.ptr 0 0,.own 1 v X.size,.d (.sl (nums fr))],.ar (some 5) false 1 v (cT X)] .ptr .eql (.one (.ptr 0 0)) (.one (.d .nilp))=some (.bool false):=rfl;have e2:∀H,gV H .ptr .neq (.one (.ptr 0 0)) (.one (.ptr 0 0))=none:=fun _=>rfl;simp -implicitDefEqProofs only[oS.d,J0,J1,J2,J3,J4,J5,J6,J7,J8,↓reduceIte,reduceCtorEq,e1,e2,ki7];apply aH [0,1];rfl;rfl;exact⟨rfl,rfl⟩
theorem kj2:kp8.underlying 218=some (.slice 5):=by kernel_rfl
theorem kj3:kp8.underlying 9=some .string:=by kernel_rfl
theorem kj4:zd1 kp8 5=true:=by kernel_rfl
theorem kj5 (a b:ByteArray):cT (a++b)=cT a++cT b:=by
 show(a++b).data.toList.map _=a.data.toList.map _++b.data.toList.map _;rw[zb1];simp
theorem jk6 {B:aI} {v:Nat} {X s:ByteArray} (h0:0<s.size) (hs:X.size+s.size≤140737488355328):uX kp8 [B,.ar (some 5) false 1 v (cT X)] 218 9 (.own 1 v X.size) s=some (.own 1 (v+1) (X++s).size,[B,.ar (some 5) false 1 (v+1) (cT (X++s))]):=by
 have hx:(cT X).length=X.size:=zp6 X;unfold uX;simp only[kj2,kj3,kj4,h0,true_and,and_self,if_true,ks4,kr6,aV,hs];rw[kq6 (by omega),←kj5,bM];rfl
theorem kj6 (X:ByteArray):mU (cT X)=some X.data.toList:=by
 have g:∀l:List UInt8,mU (l.map fun b=>[D.int .u8 (b.toNat:Int)])=some l:=by
  intro l;induction l with
  |nil=>rfl
  |cons b l ih=>
   have hb:b.toNat<256:=b.toNat_lt;have h1:zc0 [D.int .u8 (b.toNat:Int)]=some b:=by
    show(if 0≤(b.toNat:Int)∧(b.toNat:Int)<256 then some (b.toNat:Int).toNat.toUInt8 else none)=some b;rw[if_pos ⟨by omega,by omega⟩];simp
   rw[kq1,mU,h1,ih]
 exact g X.data.toList
theorem kj7:kp8.underlying 298=some (.pointer 5):=by kernel_rfl
theorem kj8:kp8.cellsOf 5=1:=by kernel_rfl
theorem kj9 {B:aI} {v:Nat} {X:ByteArray} (h0:0<X.size):uY [B,.ar (some 5) false 1 v (cT X)] (.own 1 v X.size)=some (.ept 1 v 0 0):=by
 obtain⟨n,hn⟩:∃n,X.size=n+1:=⟨X.size-1,by omega⟩;rw[hn];unfold uY;simp
theorem kk0 {B:aI} {v:Nat} {X:ByteArray} (h0:0<X.size) (hs:X.size≤140737488355328):uZ kp8 [B,.ar (some 5) false 1 v (cT X)] 298 (.ept 1 v 0 0) (X.size:Int)=some (.one (.d (.str X)),[B,.dead]):=by
 obtain⟨n,hn⟩:∃n,X.size=n+1:=⟨X.size-1,by omega⟩;have hx:(cT X).length=X.size:=zp6 X;have ht:(cT X).take (n+1)=cT X:=kq6 (by omega);have e:(X.size:Int)=Int.ofNat (n+1):=by rw[hn];rfl
 rw[e];unfold uZ;simp only[ks4,kr6,kj7];rw[if_pos (by refine⟨?_,?_,kj8,by omega,by simp only[aV];omega⟩<;>first|rfl|trivial),ht,kj6];rfl
theorem kk1 (p:Bool) (v:Nat) (X s:ByteArray) (fr:List Int) (h0:0<s.size) (hs:X.size+s.size≤140737488355328) :
  VC kp8 224 [.one (.ptr 0 0),.one (.d (.str s))] (wh p v X fr) fun r h'=>r = .tup [.one (.d (.int .i64 s.size)),.one .nili]∧h'=wh true (v+1) (X++s) fr:=by
 have c:=kj1 p v X fr;have opi:∀T:Sl,opd T (.const .nilIface)=some (.one .nili):=fun _=>rfl;have h3:(s.size:Int)=s.size:=rfl;cases p with
 |false=>
  simp only[wh,wpt]at c ⊢;refine aU mixed z47 (by simp) ?_;show vwp kp8 2 zC _ [(0,.one (.ptr 0 0)),(1,.one (.d (.str s)))] [.bx (some 222) [.d .nilp,.own 1 v X.size,.d (.sl (nums fr))],.ar (some 5) false 1 v (cT X)];conv in zC=>cbv
  rw[aO];simp -implicitDefEqProofs only[oS.d,J0,J1,J2,J3,J4,J5,J6,J7,J8,↓reduceIte,reduceCtorEq,opi];refine aM [0,1] c rfl rfl rfl rfl ?_;simp -implicitDefEqProofs only[oS.d,J0,J1,J2,J3,J4,J5,J6,J7,J8,↓reduceIte,reduceCtorEq];rw[jj9 (by decide) rfl rfl (jk6 h0 hs)];simp -implicitDefEqProofs only[oS.d,J0,J1,J2,J3,J4,J5,J6,J7,J8,↓reduceIte,reduceCtorEq,opi];apply aH [0,1];rfl;rfl;exact⟨rfl,rfl⟩
 |true=>
  simp only[wh,wpt]at c ⊢;refine aU mixed z47 (by simp) ?_;show vwp kp8 2 zC _ [(0,.one (.ptr 0 0)),(1,.one (.d (.str s)))] [.bx (some 222) [.ptr 0 0,.own 1 v X.size,.d (.sl (nums fr))],.ar (some 5) false 1 v (cT X)];conv in zC=>cbv
  rw[aO];simp -implicitDefEqProofs only[oS.d,J0,J1,J2,J3,J4,J5,J6,J7,J8,↓reduceIte,reduceCtorEq,opi];refine aM [0,1] c rfl rfl rfl rfl ?_;simp -implicitDefEqProofs only[oS.d,J0,J1,J2,J3,J4,J5,J6,J7,J8,↓reduceIte,reduceCtorEq];rw[jj9 (by decide) rfl rfl (jk6 h0 hs)];simp -implicitDefEqProofs only[oS.d,J0,J1,J2,J3,J4,J5,J6,J7,J8,↓reduceIte,reduceCtorEq,opi];apply aH [0,1];rfl;rfl;exact⟨rfl,rfl⟩
theorem kk2 (p:Bool) (v:Nat) (X:ByteArray) (fr:List Int) (h0:0<X.size) (hs:X.size≤140737488355328) :
  VC kp8 109 [.one (.ptr 0 0)] (wh p v X fr) fun r h'=>r = .one (.d (.str X))∧h'=[.bx (some 222) [wpt p,.own 1 v X.size,.d (.sl (nums fr))],.dead]:=by
 cases p;all_goals
  simp only[wh,wpt];refine aU mixed z26 (by simp) ?_;show vwp kp8 2 yX _ [(0,.one (.ptr 0 0))] _;conv in yX=>cbv
  rw[aO];simp -implicitDefEqProofs only[oS.d,J0,J1,J2,J3,J4,J5,J6,J7,J8,↓reduceIte,reduceCtorEq];rw[jk0 rfl (kj9 h0)];simp -implicitDefEqProofs only[oS.d,J0,J1,J2,J3,J4,J5,J6,J7,J8,↓reduceIte,reduceCtorEq];rw[jk1 rfl rfl (kk0 h0 hs)];simp -implicitDefEqProofs only[oS.d,J0,J1,J2,J3,J4,J5,J6,J7,J8,↓reduceIte,reduceCtorEq];apply aH [0,1];rfl;rfl;exact⟨rfl,rfl⟩
theorem uN (p:Bool) (v:Nat) (X s:ByteArray) (fr:List Int) (d:Nat) (hd:d<1000000000) (hs:X.size+(lnB d s).size≤140737488355328) :
  VC kp8 159 [.one (.ptr 0 0),.one (.d (.int .i64 d)),.one (.d (.str s))] (wh p v X fr) fun r h'=>r = .tup []∧h'=wh true (v+1) (X++lnB d s) fr:=by
 have hl:=mQ d s;have c1:=ki0 ⟨#[32,32]⟩ d (by omega) (by show 2*d≤_;omega);have c2:=kk1 p v X (lnB d s) fr (by omega) hs;have e1:((ByteArray.mk (Lib.repeatL [32,32] d).toArray).size+s.size≤9223372036854775807)=True:=by
  rw[uK,Lib.repeatL_length];simp only[eq_iff_iff,iff_true,kr4,kr7];omega
 have e2:((ByteArray.mk (Lib.repeatL [32,32] d).toArray++s).size+(ByteArray.mk #[10]).size≤9223372036854775807)=True:=by
  have e1:(ByteArray.mk #[10]).size=1:=rfl;rw[bM,uK,Lib.repeatL_length];simp only[eq_iff_iff,iff_true,kr4,kr7];omega
 unfold lnB at c2 ⊢;have er:(ByteArray.mk #[32,32]).data.toList=[32,32]:=rfl;rw[er]at c1;cases p with
 |false=>
  simp only[wh,wpt]at c2 ⊢;refine aU mixed z40 (by simp) ?_;show vwp kp8 2 zA _ [(0,.one (.ptr 0 0)),(1,.one (.d (.int .i64 d))),(2,.one (.d (.str s)))] [.bx (some 222) [.d .nilp,.own 1 v X.size,.d (.sl (nums fr))],.ar (some 5) false 1 v (cT X)];conv in zA=>cbv
  rw[aO];simp -implicitDefEqProofs only[oS.d,J0,J1,J2,J3,J4,J5,J6,J7,J8,↓reduceIte,reduceCtorEq];refine aM [] c1 rfl rfl rfl rfl ?_;simp -implicitDefEqProofs only[oS.d,J0,J1,J2,J3,J4,J5,J6,J7,J8,↓reduceIte,reduceCtorEq,e1,e2];refine aM [0,1] c2 rfl rfl rfl rfl ?_;simp -implicitDefEqProofs only[oS.d,J0,J1,J2,J3,J4,J5,J6,J7,J8,↓reduceIte,reduceCtorEq];apply aH [0,1];rfl;rfl;exact⟨rfl,rfl⟩
 |true=>
  simp only[wh,wpt]at c2 ⊢;refine aU mixed z40 (by simp) ?_;show vwp kp8 2 zA _ [(0,.one (.ptr 0 0)),(1,.one (.d (.int .i64 d))),(2,.one (.d (.str s)))] [.bx (some 222) [.ptr 0 0,.own 1 v X.size,.d (.sl (nums fr))],.ar (some 5) false 1 v (cT X)];conv in zA=>cbv
  rw[aO];simp -implicitDefEqProofs only[oS.d,J0,J1,J2,J3,J4,J5,J6,J7,J8,↓reduceIte,reduceCtorEq];refine aM [] c1 rfl rfl rfl rfl ?_;simp -implicitDefEqProofs only[oS.d,J0,J1,J2,J3,J4,J5,J6,J7,J8,↓reduceIte,reduceCtorEq,e1,e2];refine aM [0,1] c2 rfl rfl rfl rfl ?_;simp -implicitDefEqProofs only[oS.d,J0,J1,J2,J3,J4,J5,J6,J7,J8,↓reduceIte,reduceCtorEq];apply aH [0,1];rfl;rfl;exact⟨rfl,rfl⟩
end Go.Vt.Tryz
