import Derived.Test.YtdabfkmhkoppcaaGreatDoorVtD13
import Derived.Test.YtdabfkmhkoppcaaGreatDoorVtX1
import Derived.Test.YtdabfkmhkoppcaaGreatDoorVtX5
set_option linter.all false
set_option maxHeartbeats 1000000
set_option maxRecDepth 100000
open Int renaming natCast_nonneg→kq2,toNat_natCast→kq4
open List renaming append_nil→ku3,cons_append→kr0,drop_zero→kw7,getElem?_cons_succ→ks4,getElem?_cons_zero→kr6,getElem?_map→ks1,length_cons→kr4,length_map→kr8,length_nil→kr7,length_take→kt3,lookup→kt8,map_cons→kq1,map_nil→kq5,nil_append→kr2,range→kt4,take_of_length_le→kq6,take_succ_cons→kv5,take_zero→kw1
open Nat renaming beq→kx4,le_refl→ks0,reduceAdd→ks7,reduceBEq→kx5,reduceLeDiff→kw5,zero_le→kt1
open Go.Proofs.Tryz renaming prog→kp8
open Go.Vt.aA renaming funs→kq8,sigs→kq9,subs→kq7
open Go.Vt.aF renaming encs→ks8
open Go.Vt.aG renaming renLs→ks9
open Go.Vt renaming dL→J0,mkV→J1
open Nat renaming reduceBEq→J2,reduceEqDiff→J3,reduceLT→J4,reduceLeDiff→J5,reduceAdd→J6,reduceMul→J7,reduceSub→J8
namespace Go.Vt.Tryz
open Go.Proofs
section iter
variable {P:Program} {n:Nat} {Y:kX} {T:Sl} {ys:List Tmp} {h:aB} {pd:Option VX}
inductive Ye (e:Nat):Nat→List Tmp→Prop
 |base:Ye e 0 [0]
 |more {b:Nat} {ys:List Tmp}:Ye e b ys→Ye e (b+1) (e::ys)
theorem Ye.mem0 {e b:Nat} {ys:List Tmp} (hy:Ye e b ys):iK 0 ys=true:=by
 induction hy with
 |base=>rfl
 |@more b ys _ ih=>show(kx4 0 e||iK 0 ys)=true;rw[ih,Bool.or_true]
theorem Ye.memN {e b j:Nat} {ys:List Tmp} (hy:Ye e b ys) (h0:j≠0) (h1:j≠e):iK j ys=false:=by
 induction hy with
 |base=>show(kx4 j 0||false)=false;rw[rV h0];rfl
 |@more b ys _ ih=>show(kx4 j e||iK j ys)=false;rw[rV h1,ih];rfl
theorem Ye.drop {e b d:Nat} {ys:List Tmp} (h0:d≠0) (h1:d≠e) (hy:Ye e b ys):Ye e b (jF (some d) ys):=by
 induction hy with
 |base=>show Ye e 0 (if kx4 0 d=true then []else [0]);rw[rV (Ne.symm h0)];exact .base
 |@more b ys _ ih=>
  show Ye e (b+1) (if kx4 e d=true then jF (some d) ys else e::jF (some d) ys);rw[rV (Ne.symm h1)];exact .more ih
theorem oJ {e b:Nat} {l:List VOp} {d:Tmp} {op:Op} {r:V} {h':aB} {K:KO} (hy:Ye e b ys) (hop:yop (VOp.mk (some d) op none) ys = .no) (h0:d≠0) (h1:d≠e) (hv:vop P T h (mkO op)=some (r,h')) (hk:∀ys,Ye e b ys→eH P Y l ((d,r)::T) ys h' pd K):eH P Y (VOp.mk (some d) op none::l) T ys h pd K:=
 lB hop hv (hk _ (hy.drop h0 h1))
theorem j42 {l:List VOp} {op:Op} {r:V} {h':aB} {K:KO} (hop:yop (VOp.mk none op none) ys = .no) (hv:vop P T h (mkO op)=some (r,h')) (hk:eH P Y l T ys h' pd K):eH P Y (VOp.mk none op none::l) T ys h pd K:=
 lB hop hv (by rw[show jF none ys=ys by cases ys<;>rfl];exact hk)
theorem j43 {e b d i:Nat} (hy:Ye e b ys) (h0:i≠0) (h1:i≠e):yop (VOp.mk (some d) (.move (.tmp i)) none) ys = .no:=by
 show(if iK i ys=true then YOp.mv d else .no)=_;rw[hy.memN h0 h1];rfl
theorem j44 {e b:Nat} {l:List VOp} {K:KO} (hy:Ye e b ys) (hk:∀ys,Ye e (b+1) ys→eH P Y l ((e,.one .any)::T) ys h pd K):eH P Y (VOp.mk (some e) (.move (.tmp 0)) none::l) T ys h pd K:=by
 refine z57 ?_ (hk _ ?_)
 ·show(if iK 0 ys=true then YOp.mv e else .no)=_;rw[hy.mem0];rfl
 ·exact .more hy
theorem j45 {e b:Nat} {l:List VOp} {d:Tmp} {args:Array Operand} {ts:Array TypeId} {vs:List V} {K:KO} (hy:Ye e (b+1) ys) (h0:d≠0) (h1:d≠e) (ha:eO T args.toList=some vs) (hk:∀ys,Ye e (b+1) ys→Y vs h fun pd' h'=>eH P Y l ((d,.one (.d (.bool pd'.isNone)))::T) ys h' pd' K):eH P Y (VOp.mk (some d) (.call (.mk (.value (.tmp e)) args ts)) none::l) T ys h none K:=by
 refine z58 (args:=args.toList) ?_ ha (hk _ (hy.drop h0 h1));show(if iK e ys=true then YOp.yl args.toList else .no)=_;have:iK e ys=true:=by
  cases hy with
  |@more b ys _=>show(kx4 e e||_)=true;rw[Nat.beq_refl e];rfl
 rw[this];rfl
end iter
theorem zi9:xT kp8 229 20 zg5:=⟨Tryz.f229,_,Tryz.func229,rfl,rfl,rfl,by kernel_rfl,by kernel_rfl,rfl⟩
def zK3 (n:Nat) (h h0:aB):Prop:=∃ids:List Nat,bO ids=true∧ids.take n=kt4 n∧bA h (idx ids) ids=some h0
theorem jc0 {n i:Nat} {ids:List Nat} (h:ids.take n=kt4 n) (hi:i<n):idx ids i=some i:=by
 have e:ids=kt4 n++ids.drop n:=by rw[←h,List.take_append_drop]
 have:∀(a b:List Nat) (k:Nat),idx a i=some k→idx (a++b) i=some k:=by
  intro a;induction a with
  |nil=>intro b k h;cases h
  |cons x r ih=>
   intro b k h;simp only[kr0,idx]at h ⊢;split
   ·rename_i e;rw[if_pos e]at h;exact h
   ·rename_i e;rw[if_neg e]at h;obtain⟨j,hj,rfl⟩:=Option.map_eq_some_iff.1 h;rw[ih b j hj];rfl
 rw[e];exact this _ _ _ (wF rfl hi)
theorem jc1 {α:Type} {n N:Nat} {Y:kX} {x3:List (ByteArray×Stx)} (hbig:x3.length<1000000000) (Hi:α→aB) (Inv:Nat→α→Prop) {id:Nat} (hn:id<n) (hlen:∀s,(Hi s).length=N) {K:VX→Sl→aB→Prop} {T0:Sl}
  (hround:∀(i:Nat) (x:ByteArray×Stx) (s:α),x3[i]?=some x→Inv i s→∀K':Option VX→aB→Prop,(∀s' h2,Inv (i+1) s'→zK3 n h2 (Hi s')→K' none h2)→Y [.one (.d (.str x.1)),stW x.2] (Hi s++[.box ((cA x).map .d)]) K')
  (hend:∀s,Inv x3.length s→K .normal T0 (Hi s)) (s0:α) (h0:Inv 0 s0) {hs:aB} {la' lb' lc' ld':L} (his:hs[id]?=some (.box [la',lb',.d (.sl (kq7 x3)),lc',ld'])) (bs:List (Nat×Nat×Nat)) {hb:aB} (k0:eP hs bs=some hb) (k1:zK3 n hb (Hi s0)) :
  dY kp8 n Y zg5 (xU K T0) [(0,.one .any),(1,.one (.ptr id 0))] [0] hs none:=by
 obtain⟨ids0,a1,a2,a3⟩:=k1;have hsl:=kJ x3;conv in zg5=>cbv
 rw[kK,mL];refine lB rfl (r:=.one (.ptr id 2)) (h':=hs) (by simp[vop,kI,opd,mT,his,kt8]) ?_;refine lB rfl (r:=.one (.d (.sl (kq7 x3)))) (h':=hs) (by simp[vop,nI,opd,cN,his,mkV,kt8,bI]) ?_;refine lB rfl (r:=.one (.d (.int .i64 x3.length))) (h':=hs) (by simp[vop,nI,opd,iO,kt8,bI,hsl]) ?_;refine lB rfl (r:=.one (.d (.int .i64 (0:Nat)))) (h':=hs) rfl ?_;rw[lC,fI,wH,zF9];refine⟨fun m T ys h1 pd=>∃i s,m=x3.length-i∧i≤x3.length∧T=[(0,.one .any),(1,.one (.ptr id 0)),(6,.one (.d (.sl (kq7 x3)))),(7,.one (.d (.int .i64 x3.length))),(8,.one (.d (.int .i64 i)))]∧(∃b,Ye 12 b ys)∧h1=Hi s∧pd=none∧Inv i s,⟨x3.length-0,_,Hi s0,?_,0,s0,rfl,kt1 _,rfl,⟨0,.base⟩,rfl,rfl,h0⟩,?_⟩
 ·refine oA [] bs ids0 _ rfl k0 (ko1 _) a1 a2 a3 ⟨⟨_,ko0 _,rfl⟩,⟨_,ko0 _,?_⟩,⟨_,ko0 _,rfl⟩,⟨_,ko0 _,rfl⟩,⟨_,ko0 _,rfl⟩,trivial⟩;simp[cF,bP,bT,aG,jc0 a2 hn]
 ·rintro m T ys h1 pd ⟨i,s,rfl,hi,rfl,⟨b,hys⟩,rfl,rfl,hI⟩;rw[kK,mL];refine oJ hys rfl (by decide) (by decide) (r:=.one (.d (.bool (decide ((i:Int)<(x3.length:Int)))))) (h':=Hi s) (rZ (a:=(i:Int)) (b:=(x3.length:Int)) rfl rfl rfl) fun ys hys=>?_;rw[lC,fI,kK,rY];refine⟨fun e=>?_,fun e=>?_⟩
  ·have e:(i:Int)<(x3.length:Int):=of_decide_eq_true e;have hil:i<x3.length:=by omega
   obtain⟨x,hx⟩:=bK hil;have hg:(kq7 x3)[i]?=some (cA x):=by rw[qA,ks1,hx];rfl
   have hlN:=hlen s;have hR:=fun K' hK=>hround i x s hx hI K' hK;rw[wG,fI,kK,wH,kK,mL];obtain⟨xn,⟨u1,u2,u3,u4,u5⟩⟩:=x;simp only[cA,aA,stW,kq1,kq5]at hg hR;refine oJ hys rfl (by decide) (by decide) (r:=.one (.ref [.str xn,.sl (u1.map aD),.sl (u2.map aE),.sl (kq7 u3),.sl (kq8 u4),.sl (kq9 u5)])) (h':=Hi s) (by simp[vop,nI,opd,kR,kt8,bI,hil,hg]) fun ys hys=>?_;refine oJ hys rfl (by decide) (by decide) (r:=.agg [.d (.str xn),.d (.sl (u1.map aD)),.d (.sl (u2.map aE)),.d (.sl (kq7 u3)),.d (.sl (kq8 u4)),.d (.sl (kq9 u5))]) (h':=Hi s) (by simp[vop,mI,opd,cN,mkV,kt8,bI]) fun ys hys=>?_;refine oJ hys rfl (by decide) (by decide) (r:=.one (.ptr N 0)) (h':=Hi s++[.box [.d (.str ⟨#[]⟩),.nils,.nils,.nils,.nils,.nils]]) (by simp[vop,mI,iG,kC,zZ8,hlN]) fun ys hys=>?_;have hgN:∀o,(Hi s++[o])[N]?=some o:=fun o=>by rw[←hlN,List.getElem?_append_right (ks0 _)];simp
   have hsN:∀o o',(Hi s++[o]).set N o'=Hi s++[o']:=fun o o'=>by rw[←hlN,List.set_append_right _ _ (ks0 _)];simp
   refine j42 rfl (r:=.one .any) (h':=Hi s++[.box [.d (.str xn),.d (.sl (u1.map aD)),.d (.sl (u2.map aE)),.d (.sl (kq7 u3)),.d (.sl (kq8 u4)),.d (.sl (kq9 u5))]]) (by simp[vop,mI,opd,sO,kt8,bI,jR,hgN,hsN,iG,mB]) ?_;rw[lC,fI,kK,mL];refine j44 hys fun ys hys=>?_;refine oJ hys rfl (by decide) (by decide) (r:=.one (.ptr N 0)) (h':=Hi s++[.box [.d (.str xn),.d (.sl (u1.map aD)),.d (.sl (u2.map aE)),.d (.sl (kq7 u3)),.d (.sl (kq8 u4)),.d (.sl (kq9 u5))]]) (by simp[vop,mI,opd,mT,hgN,kt8,bI]) fun ys hys=>?_;refine oJ hys rfl (by decide) (by decide) (r:=.one (.d (.str xn))) (h':=Hi s++[.box [.d (.str xn),.d (.sl (u1.map aD)),.d (.sl (u2.map aE)),.d (.sl (kq7 u3)),.d (.sl (kq8 u4)),.d (.sl (kq9 u5))]]) (by simp[vop,ti9,opd,cN,hgN,mkV,kt8,bI]) fun ys hys=>?_;refine oJ hys rfl (by decide) (by decide) (r:=.one (.ptr N 1)) (h':=Hi s++[.box [.d (.str xn),.d (.sl (u1.map aD)),.d (.sl (u2.map aE)),.d (.sl (kq7 u3)),.d (.sl (kq8 u4)),.d (.sl (kq9 u5))]]) (by simp[vop,mI,opd,mT,hgN,kt8,bI]) fun ys hys=>?_;refine oJ hys rfl (by decide) (by decide) (r:=.agg [.d (.sl (u1.map aD)),.d (.sl (u2.map aE)),.d (.sl (kq7 u3)),.d (.sl (kq8 u4)),.d (.sl (kq9 u5))]) (h':=Hi s++[.box [.d (.str xn),.d (.sl (u1.map aD)),.d (.sl (u2.map aE)),.d (.sl (kq7 u3)),.d (.sl (kq8 u4)),.d (.sl (kq9 u5))]]) (by simp[vop,kI,opd,cN,hgN,mkV,kt8,bI]) fun ys hys=>?_;refine j45 hys (by decide) (by decide) (vs:=[.one (.d (.str xn)),.agg [.d (.sl (u1.map aD)),.d (.sl (u2.map aE)),.d (.sl (kq7 u3)),.d (.sl (kq8 u4)),.d (.sl (kq9 u5))]]) rfl (fun ys hys=>hR _ fun s' h2 hI' ⟨ids,b1,b2,b3⟩=>?_);refine oJ hys rfl (by decide) (by decide) (r:=.one (.d (.bool false))) (h':=h2) rfl fun ys hys=>?_;rw[lC,fI,rY];refine⟨fun e=>(by cases e),fun _=>?_⟩;rw[wG,xS,fI,mL];refine oJ hys rfl (by decide) (by decide) (r:=.one (.d (.int .i64 ((i+1:Nat):Int)))) (h':=h2) (rZ (a:=(i:Int)) (b:=1) rfl rfl ?_) fun ys hys=>?_
   ·simp only[gZ,gV,gU];rw[rX (by omega) (by omega)];simp
   refine oJ hys (j43 hys (by decide) (by decide)) (by decide) (by decide) (r:=.one (.d (.int .i64 ((i+1:Nat):Int)))) (h':=h2) rfl fun ys hys=>?_;rw[lC,fI];refine⟨x3.length-(i+1),_,Hi s',by omega,?_,i+1,s',rfl,by omega,rfl,⟨_,hys⟩,rfl,rfl,hI'⟩;refine gJ ids h2 (ko1 _) b1 b2 b3 ⟨⟨_,ko0 _,rfl⟩,⟨_,ko0 _,?_⟩,⟨_,ko0 _,rfl⟩,⟨_,ko0 _,rfl⟩,⟨_,ko0 _,rfl⟩,trivial⟩;simp[cF,bP,bT,aG,jc0 b2 hn]
  ·have e:¬(i:Int)<(x3.length:Int):=of_decide_eq_false e;have:i=x3.length:=by omega
   subst this;exact hend s hI
theorem zK4 {α:Type} {n N:Nat} {Y:kX} {x3:List (ByteArray×Stx)} (hbig:x3.length<1000000000) (Hi:α→aB) (Inv:Nat→α→Prop) {id:Nat} {la lb lc ld:L} (hid:∀s,(Hi s)[id]?=some (.box [la,lb,.d (.sl (kq7 x3)),lc,ld]))
  (hn:id<n) (hN:n≤N) (hlen:∀s,(Hi s).length=N) (hh:∀s,bA (Hi s) (idx (kt4 N)) (kt4 N)=some (Hi s)) {K:VX→Sl→aB→Prop} {T0:Sl}
  (hround:∀(i:Nat) (x:ByteArray×Stx) (s:α),x3[i]?=some x→Inv i s→∀K':Option VX→aB→Prop,(∀s' r,Inv (i+1) s'→K' none (Hi s'++r))→Y [.one (.d (.str x.1)),stW x.2] (Hi s++[.box ((cA x).map .d)]) K')
  (hend:∀s,Inv x3.length s→K .normal T0 (Hi s)) (s0:α) (h0:Inv 0 s0) :
  dY kp8 n Y zg5 (xU K T0) [(0,.one .any),(1,.one (.ptr id 0))] [0] (Hi s0) none:=
 have ht:∀s' r,zK3 n (Hi s'++r) (Hi s'):=fun s' r=>⟨kt4 N,nodup_range N,by rw[List.take_range,Nat.min_eq_left hN],zg7 (hh s')⟩
 jc1 hbig Hi Inv hn hlen (fun i x s hx hI K' hK=>hround i x s hx hI K' fun s' r hs=>hK s' _ hs (ht s' r)) hend s0 h0 (hid s0) [] rfl (by have:=ht s0 [];rwa [ku3]at this)
theorem zj0 {T:Sl}:opd T (.const (.agg #[.string (ByteArray.mk #[]),.slice none 0 0,.slice none 0 0,.slice none 0 0,.slice none 0 0,.slice none 0 0]))=some (.agg [.d (.str ⟨#[]⟩),.nils,.nils,.nils,.nils,.nils]):=rfl
theorem zK5 {T:Sl}:opd T (.const (.agg #[.string (ByteArray.mk #[]),.slice none 0 0,.slice none 0 0,.slice none 0 0,.slice none 0 0,.slice none 0 0,.slice none 0 0,.slice none 0 0,.slice none 0 0,.slice none 0 0,.slice none 0 0,.slice none 0 0,.slice none 0 0]))=some (.agg [.d (.str ⟨#[]⟩),.nils,.nils,.nils,.nils,.nils,.nils,.nils,.nils,.nils,.nils,.nils,.nils]):=rfl
theorem zj1 {T:Sl}:opd T (.const (.agg #[.string (ByteArray.mk #[]),.slice none 0 0,.slice none 0 0,.slice none 0 0,.slice none 0 0,.slice none 0 0,.slice none 0 0]))=some (.agg [.d (.str ⟨#[]⟩),.nils,.nils,.nils,.nils,.nils,.nils]):=rfl
theorem zj2 (x1:List Tym) (x2:List Vam) (x3:List (ByteArray×Stx)) (x4:List (ByteArray×List Int×Stx×List Int×Stx)) (x5:List (ByteArray×List Int×Stx)) :
  VC kp8 162 [.agg [.d (.sl (x1.map aD)),.d (.sl (x2.map aE)),.d (.sl (kq7 x3)),.d (.sl (kq8 x4)),.d (.sl (kq9 x5))]] [] fun r h'=>r = .one (.fn 229 [.ptr 0 0])∧h'=[.box [.d (.sl (x1.map aD)),.d (.sl (x2.map aE)),.d (.sl (kq7 x3)),.d (.sl (kq8 x4)),.d (.sl (kq9 x5))]]:=by
 refine aU mixed jN0 (by simp) ?_;show vwp kp8 0 zA1 _ [(0,.agg [.d (.sl (x1.map aD)),.d (.sl (x2.map aE)),.d (.sl (kq7 x3)),.d (.sl (kq8 x4)),.d (.sl (kq9 x5))])] [];conv in zA1=>cbv
 rw[aO];simp -implicitDefEqProofs only[oS.d,J0,J1,J2,J3,J4,J5,J6,J7,J8,↓reduceIte,reduceCtorEq];apply aH [0];rfl;rfl;exact⟨rfl,rfl⟩
open Go.Proofs Go.Vt.Al
def rB (vf vt:Nat) (A B:List Int) (XF XT:List (List D)) (X Z:List L):aB:=[.box [.own 1 vf A.length,.own 2 vt B.length,.fn 99 [.ptr 3 0]],.arr false 1 vf (nums A++XF),.arr false 1 vt (nums B++XT),.box [.ptr 0 0],.box [.ptr 0 0],.box X,.box Z]
theorem j46 (vf vt:Nat) (A B own out:List Int) (XF XT:List (List D)) (hAB:A.length=B.length) (a0 a1 a2 a3 a4 a5 z0 z1 z2 z3 z4 z5:D) :
  VCD kp8 199 [.one (.ptr 7 0),.one (.ptr 8 0)] (rB vf vt (A++own) (B++out) XF XT [.d a0,.d a1,.d a2,.d a3,.d a4,.d a5] [.d z0,.d z1,.d z2,.d z3,.d z4,.d z5]++[.box [.ptr 0 0],.box [.d (.int .i64 A.length)]]) fun h'=>h'=rB vf vt A B (nums own++XF) (nums out++XT) [.d a0,.d a1,.d a2,.d a3,.d a4,.d a5] [.d z0,.d z1,.d z2,.d z3,.d z4,.d z5]++[.box [.ptr 0 0],.box [.d (.int .i64 A.length)]]:=by
 have e1:nums (A++own)++XF=nums A++(nums own++XF):=by simp[nums]
 have e2:nums (B++out)++XT=nums B++(nums out++XT):=by simp[nums]
 simp only[rB,e1,e2];refine zi6 mixed z42 (by kernel_rfl) (by simp) ?_;show vwp kp8 9 zB _ [(0,.one (.ptr 7 0)),(1,.one (.ptr 8 0))] _;conv in zB=>cbv
 have h1:A.length≤(A++own).length:=by simp
 have h2:A.length≤(B++out).length:=by simp;omega
 rw[aO];simp -implicitDefEqProofs only[oS.d,J0,J1,J2,J3,J4,J5,J6,J7,J8,↓reduceIte,reduceCtorEq,h1,h2,kq2,kq4];apply aH [0,1,2,3,4,5,6,7,8];rfl;rfl;rw[hAB]
theorem j47 {g:FuncId} (a0 a1 a2 a3 a4 a5:D) (A B own ins:List Int) (Rz:List Int→D→D→D→D→D→D→Prop) (hAB:A.length=B.length) (hA:A.length+own.length<1000000000) (ho:own.length<10000000) (hi:ins.length<10000000)
  (hdo:∀(out:List Int),eJ A B own out (fun n=>n∈ins)→∀(vf vt:Nat) (XF XT:List (List D)),VC kp8 g [.one (.d (.sl (nums out))),.one (.ptr 4 0),.one (.ptr 5 0),.one (.ptr 6 0)] (rB vf vt (A++own) (B++out) XF XT [.d a0,.d a1,.d a2,.d a3,.d a4,.d a5] [.nils,.nils,.nils,.nils,.nils,.nils]) fun r h'=>r = .tup []∧∃vf vt XF XT z0 z1 z2 z3 z4 z5,h'=rB vf vt (A++own) (B++out) XF XT [.d a0,.d a1,.d a2,.d a3,.d a4,.d a5] [.d z0,.d z1,.d z2,.d z3,.d z4,.d z5]∧Rz out z0 z1 z2 z3 z4 z5)
  (vf vt:Nat) (XF XT:List (List D)) :
  VC kp8 148 [.one (.ptr 0 0),.one (.d (.sl (nums own))),.one (.d (.sl (nums ins))),.one (.fn g [.ptr 4 0,.ptr 5 0,.ptr 6 0])] (rB vf vt A B XF XT [.d a0,.d a1,.d a2,.d a3,.d a4,.d a5] [.nils,.nils,.nils,.nils,.nils,.nils]) fun r h'=>r = .tup []∧∃out vf vt XF XT z0 z1 z2 z3 z4 z5,h'=rB vf vt A B XF XT [.d a0,.d a1,.d a2,.d a3,.d a4,.d a5] [.d z0,.d z1,.d z2,.d z3,.d z4,.d z5]∧eJ A B own out (fun n=>n∈ins)∧Rz out z0 z1 z2 z3 z4 z5:=by
 have hfr:=jb4 vf vt A B own ins XF XT (by omega) hAB ho hi;simp only[rB,rH]at hfr ⊢;refine zi5 mixed jb7 (by simp) ?_;show vwp kp8 7 (oI zU (.ops zV)) _ [(0,.one (.ptr 0 0)),(1,.one (.d (.sl (nums own)))),(2,.one (.d (.sl (nums ins)))),(3,.one (.fn g [.ptr 4 0,.ptr 5 0,.ptr 6 0]))] _;simp only[zU,zV,oI];rw[aO];simp -implicitDefEqProofs only[oS.d,J0,J1,J2,J3,J4,J5,J6,J7,J8,↓reduceIte,reduceCtorEq];refine bJ [0,1,2,3] hfr rfl rfl rfl ?_;rintro _ _ ⟨⟨out,rfl,hbo⟩,rfl⟩;refine⟨_,_,rfl,?_⟩;have hlo:=hbo.1;have hdo:=hdo out hbo (vf+1) (vt+1) [] [];simp only[rB,ku3]at hdo;have hcap1:(A.length+own.length)*8≤aV∧A.length+own.length≤aV:=by simp[aV];omega
 have hcap2:(B.length+out.length)*8≤aV∧B.length+out.length≤aV:=by simp[aV];omega
 have htk1:=pA A XF;have htk2:=pA B XT;have hal1:((nums own).all fun e=>e.length == 1)=true:=by simp[nums]
 have hal2:((nums out).all fun e=>e.length == 1)=true:=by simp[nums]
 have e1:nums A++nums own=nums (A++own):=by simp[nums]
 have e2:A.length+own.length=(A++own).length:=by simp
 have e3:nums B++nums out=nums (B++out):=by simp[nums]
 have e4:B.length+out.length=(B++out).length:=by simp
 simp -implicitDefEqProofs only[oS.d,J0,J1,J2,J3,J4,J5,J6,J7,J8,↓reduceIte,reduceCtorEq,hcap1,hcap2,htk1,htk2,hal1,hal2,bU];refine⟨_,_,rfl,?_⟩;rw[e1,e2,e3,e4];show vwp kp8 9 zW _ _ _;unfold zW;rw[aO];simp -implicitDefEqProofs only[oS.d,J0,J1,J2,J3,J4,J5,J6,J7,J8,↓reduceIte,reduceCtorEq];refine bJ [0,1,2,3,4,5,6] hdo rfl rfl rfl ?_;rintro _ _ ⟨rfl,vf1,vt1,XF1,XT1,z0,z1,z2,z3,z4,z5,rfl,h2⟩;refine⟨_,_,rfl,?_⟩;simp -implicitDefEqProofs only[oS.d,J0,J1,J2,J3,J4,J5,J6,J7,J8,↓reduceIte,reduceCtorEq];refine⟨_,j46 vf1 vt1 A B own out XF1 XT1 hAB a0 a1 a2 a3 a4 a5 z0 z1 z2 z3 z4 z5,?_⟩;rintro _ rfl;simp only[rB,kr0,kr2];apply aH [0,1,2,3,4,5,6];rfl;rfl;exact⟨rfl,out,vf1,vt1,_,_,z0,z1,z2,z3,z4,z5,rfl,hbo,h2⟩
theorem j48 (vf vt:Nat) (A B own out:List Int) (XF XT:List (List D)) (hAB:A.length=B.length) (a0 a1 a2 a3 a4 a5 a6 a7 a8 a9 a10 a11 z0 z1 z2 z3 z4 z5 z6 z7 z8 z9 z10 z11:D) :
  VCD kp8 199 [.one (.ptr 7 0),.one (.ptr 8 0)] (rB vf vt (A++own) (B++out) XF XT [.d a0,.d a1,.d a2,.d a3,.d a4,.d a5,.d a6,.d a7,.d a8,.d a9,.d a10,.d a11] [.d z0,.d z1,.d z2,.d z3,.d z4,.d z5,.d z6,.d z7,.d z8,.d z9,.d z10,.d z11]++[.box [.ptr 0 0],.box [.d (.int .i64 A.length)]]) fun h'=>h'=rB vf vt A B (nums own++XF) (nums out++XT) [.d a0,.d a1,.d a2,.d a3,.d a4,.d a5,.d a6,.d a7,.d a8,.d a9,.d a10,.d a11] [.d z0,.d z1,.d z2,.d z3,.d z4,.d z5,.d z6,.d z7,.d z8,.d z9,.d z10,.d z11]++[.box [.ptr 0 0],.box [.d (.int .i64 A.length)]]:=by
 have e1:nums (A++own)++XF=nums A++(nums own++XF):=by simp[nums]
 have e2:nums (B++out)++XT=nums B++(nums out++XT):=by simp[nums]
 simp only[rB,e1,e2];refine zi6 mixed z42 (by kernel_rfl) (by simp) ?_;show vwp kp8 9 zB _ [(0,.one (.ptr 7 0)),(1,.one (.ptr 8 0))] _;conv in zB=>cbv
 have h1:A.length≤(A++own).length:=by simp
 have h2:A.length≤(B++out).length:=by simp;omega
 rw[aO];simp -implicitDefEqProofs only[oS.d,J0,J1,J2,J3,J4,J5,J6,J7,J8,↓reduceIte,reduceCtorEq,h1,h2,kq2,kq4];apply aH [0,1,2,3,4,5,6,7,8];rfl;rfl;rw[hAB]
theorem j49 {g:FuncId} (a0 a1 a2 a3 a4 a5 a6 a7 a8 a9 a10 a11:D) (A B own ins:List Int) (Rz:List Int→D→D→D→D→D→D→D→D→D→D→D→D→Prop) (hAB:A.length=B.length) (hA:A.length+own.length<1000000000) (ho:own.length<10000000) (hi:ins.length<10000000)
  (hdo:∀(out:List Int),eJ A B own out (fun n=>n∈ins)→∀(vf vt:Nat) (XF XT:List (List D)),VC kp8 g [.one (.d (.sl (nums out))),.one (.ptr 4 0),.one (.ptr 5 0),.one (.ptr 6 0)] (rB vf vt (A++own) (B++out) XF XT [.d a0,.d a1,.d a2,.d a3,.d a4,.d a5,.d a6,.d a7,.d a8,.d a9,.d a10,.d a11] [.nils,.nils,.nils,.nils,.nils,.nils,.nils,.nils,.nils,.nils,.nils,.nils]) fun r h'=>r = .tup []∧∃vf vt XF XT z0 z1 z2 z3 z4 z5 z6 z7 z8 z9 z10 z11,h'=rB vf vt (A++own) (B++out) XF XT [.d a0,.d a1,.d a2,.d a3,.d a4,.d a5,.d a6,.d a7,.d a8,.d a9,.d a10,.d a11] [.d z0,.d z1,.d z2,.d z3,.d z4,.d z5,.d z6,.d z7,.d z8,.d z9,.d z10,.d z11]∧Rz out z0 z1 z2 z3 z4 z5 z6 z7 z8 z9 z10 z11)
  (vf vt:Nat) (XF XT:List (List D)) :
  VC kp8 148 [.one (.ptr 0 0),.one (.d (.sl (nums own))),.one (.d (.sl (nums ins))),.one (.fn g [.ptr 4 0,.ptr 5 0,.ptr 6 0])] (rB vf vt A B XF XT [.d a0,.d a1,.d a2,.d a3,.d a4,.d a5,.d a6,.d a7,.d a8,.d a9,.d a10,.d a11] [.nils,.nils,.nils,.nils,.nils,.nils,.nils,.nils,.nils,.nils,.nils,.nils]) fun r h'=>r = .tup []∧∃out vf vt XF XT z0 z1 z2 z3 z4 z5 z6 z7 z8 z9 z10 z11,h'=rB vf vt A B XF XT [.d a0,.d a1,.d a2,.d a3,.d a4,.d a5,.d a6,.d a7,.d a8,.d a9,.d a10,.d a11] [.d z0,.d z1,.d z2,.d z3,.d z4,.d z5,.d z6,.d z7,.d z8,.d z9,.d z10,.d z11]∧eJ A B own out (fun n=>n∈ins)∧Rz out z0 z1 z2 z3 z4 z5 z6 z7 z8 z9 z10 z11:=by
 have hfr:=jb4 vf vt A B own ins XF XT (by omega) hAB ho hi;simp only[rB,rH]at hfr ⊢;refine zi5 mixed jb7 (by simp) ?_;show vwp kp8 7 (oI zU (.ops zV)) _ [(0,.one (.ptr 0 0)),(1,.one (.d (.sl (nums own)))),(2,.one (.d (.sl (nums ins)))),(3,.one (.fn g [.ptr 4 0,.ptr 5 0,.ptr 6 0]))] _;simp only[zU,zV,oI];rw[aO];simp -implicitDefEqProofs only[oS.d,J0,J1,J2,J3,J4,J5,J6,J7,J8,↓reduceIte,reduceCtorEq];refine bJ [0,1,2,3] hfr rfl rfl rfl ?_;rintro _ _ ⟨⟨out,rfl,hbo⟩,rfl⟩;refine⟨_,_,rfl,?_⟩;have hlo:=hbo.1;have hdo:=hdo out hbo (vf+1) (vt+1) [] [];simp only[rB,ku3]at hdo;have hcap1:(A.length+own.length)*8≤aV∧A.length+own.length≤aV:=by simp[aV];omega
 have hcap2:(B.length+out.length)*8≤aV∧B.length+out.length≤aV:=by simp[aV];omega
 have htk1:=pA A XF;have htk2:=pA B XT;have hal1:((nums own).all fun e=>e.length == 1)=true:=by simp[nums]
 have hal2:((nums out).all fun e=>e.length == 1)=true:=by simp[nums]
 have e1:nums A++nums own=nums (A++own):=by simp[nums]
 have e2:A.length+own.length=(A++own).length:=by simp
 have e3:nums B++nums out=nums (B++out):=by simp[nums]
 have e4:B.length+out.length=(B++out).length:=by simp
 simp -implicitDefEqProofs only[oS.d,J0,J1,J2,J3,J4,J5,J6,J7,J8,↓reduceIte,reduceCtorEq,hcap1,hcap2,htk1,htk2,hal1,hal2,bU];refine⟨_,_,rfl,?_⟩;rw[e1,e2,e3,e4];show vwp kp8 9 zW _ _ _;unfold zW;rw[aO];simp -implicitDefEqProofs only[oS.d,J0,J1,J2,J3,J4,J5,J6,J7,J8,↓reduceIte,reduceCtorEq];refine bJ [0,1,2,3,4,5,6] hdo rfl rfl rfl ?_;rintro _ _ ⟨rfl,vf1,vt1,XF1,XT1,z0,z1,z2,z3,z4,z5,z6,z7,z8,z9,z10,z11,rfl,h2⟩;refine⟨_,_,rfl,?_⟩;simp -implicitDefEqProofs only[oS.d,J0,J1,J2,J3,J4,J5,J6,J7,J8,↓reduceIte,reduceCtorEq];refine⟨_,j48 vf1 vt1 A B own out XF1 XT1 hAB a0 a1 a2 a3 a4 a5 a6 a7 a8 a9 a10 a11 z0 z1 z2 z3 z4 z5 z6 z7 z8 z9 z10 z11,?_⟩;rintro _ rfl;simp only[rB,kr0,kr2];apply aH [0,1,2,3,4,5,6];rfl;rfl;exact⟨rfl,out,vf1,vt1,_,_,z0,z1,z2,z3,z4,z5,z6,z7,z8,z9,z10,z11,rfl,hbo,h2⟩
theorem j50 (vf vt:Nat) (A B:List Int) (XF XT:List (List D)) (hA:A.length<1000000000) (hAB:A.length=B.length) (l:List Ty) (hl:aK tyn l<100000000) :
  VC kp8 201 [.one (.ptr 0 0),.one (.d (.sl (ks8 l)))] (rH vf vt A B XF XT) fun r h'=>r = .one (.d (.sl (ks8 (cI.go A B l))))∧h'=rH vf vt A B XF XT:=by
 have hty:=fun u (hu:tyn u<100000000)=>zK0 vf vt A B XF XT hA hAB (tyn u) u (ks0 _) hu;have hlen:=eC (f:=tyn) (fun t=>by cases t;simp[tyn]) l;simp only[rH,zJ7]at hty ⊢;refine aU mixed jO0 (by simp) ?_;show vwp kp8 4 zB2 _ [(0,.one (.ptr 0 0)),(1,.one (.d (.sl (ks8 l))))] [.box [.own 1 vf A.length,.own 2 vt B.length,.fn 99 [.ptr 3 0]],.arr false 1 vf (nums A++XF),.arr false 1 vt (nums B++XT),.box [.ptr 0 0]];conv in zB2=>cbv
 rw[aO];simp -implicitDefEqProofs only[oS.d,J0,J1,J2,J3,J4,J5,J6,J7,J8,↓reduceIte,reduceCtorEq,cS];refine bE (α:=Nat) (fun x=>[(10,.one (.d (.int .i64 x))),(9,.one (.d (.int .i64 l.length))),(8,.one (.d (.sl (ks8 l)))),(5,.one (.own 4 x x)),(0,.one (.ptr 0 0))]) (fun x=>[.box [.own 1 vf A.length,.own 2 vt B.length,.fn 99 [.ptr 3 0]],.arr false 1 vf (nums A++XF),.arr false 1 vt (nums B++XT),.box [.ptr 0 0],.arr false 3 x (ks8 ((l.map (cI A B)).take x))])
  (fun x=>x≤l.length) (fun x=>l.length-x) 0
  (oC [(5,3)] [] [0,1,2,3,4] rfl rfl rfl rfl rfl rfl) (kt1 _) ?_
 intro i hi;have hw:=bQ (a:=i) rfl (by omega);rcases Nat.lt_or_ge i l.length with h5|h5
 ·have hlt:((i:Int)<(l.length:Int))=True:=by simp;omega
  obtain⟨u,hu⟩:=bK h5;have hmu:=dB (f:=tyn) (List.mem_of_getElem? hu);have iu:=hty u (by omega);have hg:(ks8 l)[i]?=some (aF u):=by rw[eI,ks1,hu];rfl
  have hrow:(ks8 ((l.map (cI A B)).take i))++[aF (cI A B u)]=ks8 ((l.map (cI A B)).take (i+1)):=by
   rw[List.take_add_one,ks1,hu,eI,eI];simp
  have htk:(ks8 ((l.map (cI A B)).take i)).take i=ks8 ((l.map (cI A B)).take i):=kq6 (by rw[cS,kt3];omega);have hcap:(i+1)*40≤aV∧i+1≤aV:=by simp[aV];omega
  generalize (cI A B) u=R at iu hrow;obtain⟨rk,rn,rl⟩:=R;obtain⟨uk,un,ul⟩:=u;simp only[tyV,aF,kq1,kq5]at iu hrow hg;simp -implicitDefEqProofs only[oS.d,J0,J1,J2,J3,J4,J5,J6,J7,J8,↓reduceIte,reduceCtorEq,hlt,hg,kq2,kq4];refine aM [0,1,2,3] iu rfl rfl rfl rfl ?_;simp -implicitDefEqProofs only[oS.d,J0,J1,J2,J3,J4,J5,J6,J7,J8,↓reduceIte,reduceCtorEq,hcap,htk,hw];rw[hrow];refine⟨i+1,by omega,by omega,?_⟩;exact(aP [0,1,2,3,4] rfl rfl rfl rfl)
 ·have hlt:((i:Int)<(l.length:Int))=False:=by simp;omega
  have hie:i=l.length:=by omega
  subst hie;simp -implicitDefEqProofs only[oS.d,J0,J1,J2,J3,J4,J5,J6,J7,J8,↓reduceIte,reduceCtorEq,hlt];apply aH [0,1,2,3]
  ·rfl
  ·simp[fin,bO,bA,cF,bP,cW,bT,idx,dA,aG,cE,bD,ks9];first|exact⟨rfl,rfl⟩|exact⟨rfl,rfl,rfl⟩
  refine⟨?_,rfl⟩;rw[kq6 (by rw[cS,kt3,kr8];omega),kq6 (by rw[kr8];exact ks0 _)]
def RS (x:Stx) (A B:List Int):Prop:=∀(vf vt:Nat) (XF XT:List (List D)),VC kp8 150 [.one (.ptr 0 0),stW x] (rH vf vt A B XF XT) fun r h'=>∃x',r=stW x'∧aW A B x x'∧∃vf vt XF XT,h'=rH vf vt A B XF XT
theorem zK6 {y:Stx} {q A B:List Int} (H:∀out,out.length=q.length→RS y (A++q) (B++out)) (hAB:A.length=B.length) (hA:A.length+q.length<1000000000) (hq:q.length<10000000) (hy:stn y<10000000) (vf vt:Nat) (XF XT:List (List D)) :
  VC kp8 103 [.one (.ptr 0 0),abW q y] (rH vf vt A B XF XT) fun r h'=>∃q' y',r=abW q' y'∧eJ A B q q' (aL y)∧aW (A++q) (B++q') y y'∧∃vf vt XF XT,h'=rH vf vt A B XF XT:=by
 have hw:=zi8 y [] (by omega) (by simp;omega) 0 0 [] [] [] (by simp;omega);have hQe:∃Q:Int→Prop,Q=aL y:=⟨_,rfl⟩;obtain⟨Q,hQ⟩:=hQe;have hce:∃c:Nat,c=stn y:=⟨_,rfl⟩;obtain⟨Qc,hQc⟩:=hce;have hRe:∃R:List Int→Stx→Prop,R=fun out y'=>aW (A++q) (B++out) y y':=⟨_,rfl⟩;obtain⟨R,hR⟩:=hRe;have H1:∀out,out.length=q.length→∀(vf vt:Nat) (XF XT:List (List D)),VC kp8 150 [.one (.ptr 0 0),stW y] (rH vf vt (A++q) (B++out) XF XT) fun r h'=>∃x',r=stW x'∧R out x'∧∃vf vt XF XT,h'=rH vf vt (A++q) (B++out) XF XT:=by rw[hR];exact H
 have hG:∀q' y',R q' y'→aW (A++q) (B++q') y y':=by rw[hR];exact fun _ _ h=>h
 suffices hs:VC kp8 103 [.one (.ptr 0 0),abW q y] (rH vf vt A B XF XT) fun r h'=>∃q' y',r=abW q' y'∧eJ A B q q' Q∧R q' y'∧∃vf vt XF XT,h'=rH vf vt A B XF XT by
  rw[hQ,hR]at hs;exact hs
 rw[←hQ,←hQc]at hw;rw[←hQc]at hy;clear hG hR hQ hQc H;obtain⟨y1,y2,y3,y4,y5⟩:=y;simp only[stW,abW,aA,kq1,kq5,kH,rH,nums,kq5,kr7,ku3]at hw;simp only[stW,aA,kq1,kq5,rH]at H1;have hu:=fun ins (hi:ins.length<10000000)=>j47 (g:=149) (.sl (nums q)) (.sl (y1.map aD)) (.sl (y2.map aE)) (.sl (kq7 y3)) (.sl (kq8 y4)) (.sl (kq9 y5)) A B q ins (fun out z0 z1 z2 z3 z4 z5=>∃y',R out y'∧D.sl (nums out)=z0∧[z1,z2,z3,z4,z5]=aA y') hAB hA hq hi (fun out hb vf vt XF XT=>by
  have h1:=H1 out hb.1 vf vt XF XT;simp only[rB];refine aU mixed jM2 (by simp) ?_;show vwp kp8 7 zz3 _ [(0,.one (.d (.sl (nums out)))),(1,.one (.ptr 4 0)),(2,.one (.ptr 5 0)),(3,.one (.ptr 6 0))] [.box [.own 1 vf (A++q).length,.own 2 vt (B++out).length,.fn 99 [.ptr 3 0]],.arr false 1 vf (nums (A++q)++XF),.arr false 1 vt (nums (B++out)++XT),.box [.ptr 0 0],.box [.ptr 0 0],.box [.d (.sl (nums q)),.d (.sl (y1.map aD)),.d (.sl (y2.map aE)),.d (.sl (kq7 y3)),.d (.sl (kq8 y4)),.d (.sl (kq9 y5))],.box [.nils,.nils,.nils,.nils,.nils,.nils]];conv in zz3=>cbv
  rw[aO];simp -implicitDefEqProofs only[oS.d,J0,J1,J2,J3,J4,J5,J6,J7,J8,↓reduceIte,reduceCtorEq];refine bJ [0,1,2,3] h1 rfl rfl rfl ?_;rintro _ _ ⟨⟨m1,m2,m3,m4,m5⟩,rfl,h2,v3,v4,X3,X4,rfl⟩;refine⟨_,_,rfl,?_⟩;simp only[aA,kq1,kq5];simp -implicitDefEqProofs only[oS.d,J0,J1,J2,J3,J4,J5,J6,J7,J8,↓reduceIte,reduceCtorEq];apply aH [0,1,2,3,4,5,6];rfl;rfl;exact⟨rfl,v3,v4,X3,X4,_,_,_,_,_,_,rfl,_,h2,rfl,rfl⟩) vf vt XF XT
 simp only[rB]at hu;simp only[abW,aA,kq1,kq5,rH];refine aU mixed jK7 (by simp) ?_;show vwp kp8 4 zx8 _ [(0,.one (.ptr 0 0)),(1,.agg [.d (.sl (nums q)),.d (.sl (y1.map aD)),.d (.sl (y2.map aE)),.d (.sl (kq7 y3)),.d (.sl (kq8 y4)),.d (.sl (kq9 y5))])] [.box [.own 1 vf A.length,.own 2 vt B.length,.fn 99 [.ptr 3 0]],.arr false 1 vf (nums A++XF),.arr false 1 vt (nums B++XT),.box [.ptr 0 0]];conv in zx8=>cbv
 rw[aO];simp -implicitDefEqProofs only[oS.d,J0,J1,J2,J3,J4,J5,J6,J7,J8,↓reduceIte,reduceCtorEq];refine nZ [(7,0,1),(7,1,1)] _ [.box [.own 1 vf A.length,.own 2 vt B.length,.fn 99 [.ptr 3 0]],.arr false 1 vf (nums A++XF),.arr false 1 vt (nums B++XT),.box [.ptr 0 0],.box [.ptr 0 0],.box [.d (.sl (nums q)),.d (.sl (y1.map aD)),.d (.sl (y2.map aE)),.d (.sl (kq7 y3)),.d (.sl (kq8 y4)),.d (.sl (kq9 y5))],.box [.nils,.nils,.nils,.nils,.nils,.nils],.box [.own 8 0 0,.own 9 0 0],.arr false 1 0 [],.arr false 1 0 []] [7,8,9] rfl (ko6 _) (ko1 _) hw rfl rfl rfl ?_;rintro _ _ ⟨rfl,vb,XB,w1,F1,Y1,rfl,hF1,hl1⟩;have hl1:=hl1.1;simp only[kH];refine⟨_,_,rfl,?_⟩;have htk:=pA F1 Y1;have hfe:(fun n=>n∈F1)=Q:=funext fun n=>propext (by rw[hF1];simp);have hl2:F1.length<10000000:=by simp only[kr7]at hl1;omega
 simp -implicitDefEqProofs only[oS.d,J0,J1,J2,J3,J4,J5,J6,J7,J8,↓reduceIte,reduceCtorEq];refine bJ [0,1,2,3,4,5,6] (hu F1 hl2) rfl (by simp[cE,bP,cW,bT,idx,aG,ks9,htk]) rfl ?_;rintro _ _ ⟨rfl,out,v3,v4,X3,X4,z0,z1,z2,z3,z4,z5,rfl,hb,⟨m1,m2,m3,m4,m5⟩,h2,rfl,hz⟩;simp only[aA,List.cons.injEq,and_true]at hz;obtain⟨rfl,rfl,rfl,rfl,rfl⟩:=hz;refine⟨_,_,rfl,?_⟩;simp -implicitDefEqProofs only[oS.d,J0,J1,J2,J3,J4,J5,J6,J7,J8,↓reduceIte,reduceCtorEq];apply aH [0,1,2,3]
 ·simp only[dI,iC,kx5,cond_true,cond_false,pX,kI,iM,nJ,cN,ks4,kr6,mkV,kw7,kr4,kr7,ks7,ks0,if_true,kv5,kw1,kq1,kq5,kw5];rfl
 ·first|rfl|(simp[fin,bO,bA,cF,bP,cW,bT,idx,dA,aG,cE,bD,ks9];first|exact⟨rfl,rfl⟩|exact⟨rfl,rfl,rfl⟩)
 exact⟨out,⟨m1,m2,m3,m4,m5⟩,rfl,hfe▸hb,h2,v3,v4,X3,X4,rfl⟩
theorem j51 {x y:Stx} {p q A B:List Int} (Hx:∀out,out.length=p.length→RS x (A++p) (B++out)) (Hy:∀o1 o2,o1.length=p.length→o2.length=q.length→RS y ((A++p)++q) ((B++o1)++o2)) (hAB:A.length=B.length) (hA:A.length+p.length+q.length<1000000000)
  (hp:p.length<10000000) (hq:q.length<10000000) (hxy:stn x+stn y<10000000) (vf vt:Nat) (XF XT:List (List D)) :
  VC kp8 202 [.one (.ptr 0 0),.agg (.d (.sl (nums p))::(aA x).map .d++.d (.sl (nums q))::(aA y).map .d)] (rH vf vt A B XF XT) fun r h'=>∃p' x' q' y',r = .agg (.d (.sl (nums p'))::(aA x').map .d++.d (.sl (nums q'))::(aA y').map .d)∧
   eJ A B p p' (fun n=>aL x n∨(n∉q∧aL y n))∧aW (A++p) (B++p') x x'∧eJ (A++p) (B++p') q q' (aL y)∧aW (A++p++q) (B++p'++q') y y'∧∃vf vt XF XT,h'=rH vf vt A B XF XT:=by
 have hw:=zi8 x [] (by omega) (by simp;omega) 0 0 [] [] [] (by simp;omega);have hw2:=fun vb vf F XB XF hF=>zi7 (zi8 y ([]++q) (by omega) (by simp;omega)) (by simp;omega) vb vf F XB XF hF;have Hr:=fun o1 (h1:o1.length=p.length)=>zK6 (y:=y) (q:=q) (A:=A++p) (B:=B++o1) (fun o2 h2=>Hy o1 o2 h1 h2) (by simp[hAB,h1]) (by simp;omega) hq (by omega);have hQe:∃Q:Int→Prop,Q=aL y:=⟨_,rfl⟩;obtain⟨Q,hQ⟩:=hQe;have hce:∃c:Nat,c=stn y:=⟨_,rfl⟩;obtain⟨Qc,hQc⟩:=hce;have hPe:∃P:Int→Prop,P=aL x:=⟨_,rfl⟩;obtain⟨P,hP⟩:=hPe;have hde:∃c:Nat,c=stn x:=⟨_,rfl⟩;obtain⟨Pc,hPc⟩:=hde;have hRe:∃R:List Int→Stx→Prop,R=fun out x'=>aW (A++p) (B++out) x x':=⟨_,rfl⟩;obtain⟨R,hR⟩:=hRe;have hSe:∃S:List Int→List Int→Stx→Prop,S=fun o1 o2 y'=>eJ (A++p) (B++o1) q o2 (aL y)∧aW (A++p++q) (B++o1++o2) y y':=⟨_,rfl⟩;obtain⟨S,hS⟩:=hSe;have H1:∀out,out.length=p.length→∀(vf vt:Nat) (XF XT:List (List D)),VC kp8 150 [.one (.ptr 0 0),stW x] (rH vf vt (A++p) (B++out) XF XT) fun r h'=>∃x',r=stW x'∧R out x'∧∃vf vt XF XT,h'=rH vf vt (A++p) (B++out) XF XT:=by rw[hR];exact Hx
 have H2:∀o1,o1.length=p.length→∀(vf vt:Nat) (XF XT:List (List D)),VC kp8 103 [.one (.ptr 0 0),abW q y] (rH vf vt (A++p) (B++o1) XF XT) fun r h'=>∃q' y',r=abW q' y'∧S o1 q' y'∧∃vf vt XF XT,h'=rH vf vt (A++p) (B++o1) XF XT:=by
  rw[hS];intro o1 h1 vf vt XF XT;refine(Hr o1 h1 vf vt XF XT).mono ?_;rintro r h' ⟨q',y',a,b,c,d⟩;exact⟨q',y',a,⟨b,c⟩,d⟩
 suffices hs:VC kp8 202 [.one (.ptr 0 0),.agg (.d (.sl (nums p))::(aA x).map .d++.d (.sl (nums q))::(aA y).map .d)] (rH vf vt A B XF XT) fun r h'=>∃p' x' q' y',r = .agg (.d (.sl (nums p'))::(aA x').map .d++.d (.sl (nums q'))::(aA y').map .d)∧
   eJ A B p p' (fun n=>P n∨(n∉q∧Q n))∧R p' x'∧S p' q' y'∧∃vf vt XF XT,h'=rH vf vt A B XF XT by
  rw[hQ,hP,hR,hS]at hs;refine hs.mono ?_;rintro r h' ⟨p',x',q',y',a,b,c,⟨d,e⟩,f⟩;exact⟨p',x',q',y',a,b,c,d,e,f⟩
 rw[←hP,←hPc]at hw;simp only[←hQ,←hQc]at hw2;rw[←hQc,←hPc]at hxy;clear hR hS hQ hQc hP hPc Hx Hy Hr;obtain⟨x1,x2,x3,x4,x5⟩:=x;obtain⟨y1,y2,y3,y4,y5⟩:=y;simp only[stW,aA,kq1,kq5,kH,rH,nums,kq5,kr7,ku3]at hw;simp only[stW,aA,kq1,kq5,rH]at H1;simp only[abW,aA,kq1,kq5,rH]at H2;simp only[abW,aA,kq1,kq5,kH,kr7]at hw2;have hu:=fun ins (hi:ins.length<10000000)=>j49 (g:=253) (.sl (nums p)) (.sl (x1.map aD)) (.sl (x2.map aE)) (.sl (kq7 x3)) (.sl (kq8 x4)) (.sl (kq9 x5)) (.sl (nums q)) (.sl (y1.map aD)) (.sl (y2.map aE)) (.sl (kq7 y3)) (.sl (kq8 y4)) (.sl (kq9 y5)) A B p ins (fun out z0 z1 z2 z3 z4 z5 z6 z7 z8 z9 z10 z11=>∃x' q' y',R out x'∧S out q' y'∧D.sl (nums out)=z0∧[z1,z2,z3,z4,z5]=aA x'∧z6 = .sl (nums q')∧[z7,z8,z9,z10,z11]=aA y') hAB (by omega) hp hi (fun out hb vf vt XF XT=>by
  have h1:=H1 out hb.1 vf vt XF XT;have h2:=H2 out hb.1;simp only[rB];refine aU mixed jQ7 (by simp) ?_;show vwp kp8 7 zD7 _ [(0,.one (.d (.sl (nums out)))),(1,.one (.ptr 4 0)),(2,.one (.ptr 5 0)),(3,.one (.ptr 6 0))] [.box [.own 1 vf (A++p).length,.own 2 vt (B++out).length,.fn 99 [.ptr 3 0]],.arr false 1 vf (nums (A++p)++XF),.arr false 1 vt (nums (B++out)++XT),.box [.ptr 0 0],.box [.ptr 0 0],.box [.d (.sl (nums p)),.d (.sl (x1.map aD)),.d (.sl (x2.map aE)),.d (.sl (kq7 x3)),.d (.sl (kq8 x4)),.d (.sl (kq9 x5)),.d (.sl (nums q)),.d (.sl (y1.map aD)),.d (.sl (y2.map aE)),.d (.sl (kq7 y3)),.d (.sl (kq8 y4)),.d (.sl (kq9 y5))],.box [.nils,.nils,.nils,.nils,.nils,.nils,.nils,.nils,.nils,.nils,.nils,.nils]];conv in zD7=>cbv
  rw[aO];simp -implicitDefEqProofs only[oS.d,J0,J1,J2,J3,J4,J5,J6,J7,J8,↓reduceIte,reduceCtorEq];refine bJ [0,1,2,3] h1 rfl rfl rfl ?_;rintro _ _ ⟨⟨m1,m2,m3,m4,m5⟩,rfl,k2,v3,v4,X3,X4,rfl⟩;refine⟨_,_,rfl,?_⟩;simp only[aA,kq1,kq5];simp -implicitDefEqProofs only[oS.d,J0,J1,J2,J3,J4,J5,J6,J7,J8,↓reduceIte,reduceCtorEq];refine bJ [0,1,2,3] (h2 v3 v4 X3 X4) rfl rfl rfl ?_;rintro _ _ ⟨qq,⟨n1,n2,n3,n4,n5⟩,rfl,k3,v5,v6,X5,X6,rfl⟩;refine⟨_,_,rfl,?_⟩;simp only[aA,kq1,kq5];simp -implicitDefEqProofs only[oS.d,J0,J1,J2,J3,J4,J5,J6,J7,J8,↓reduceIte,reduceCtorEq];apply aH [0,1,2,3,4,5,6];rfl;rfl;exact⟨rfl,v5,v6,X5,X6,_,_,_,_,_,_,_,_,_,_,_,_,rfl,_,_,_,k2,k3,rfl,rfl,rfl,rfl⟩) vf vt XF XT
 simp only[rB]at hu;simp only[aA,kq1,kq5,kr0,kr2,rH];refine aU mixed jO1 (by simp) ?_;show vwp kp8 4 zB3 _ [(0,.one (.ptr 0 0)),(1,.agg [.d (.sl (nums p)),.d (.sl (x1.map aD)),.d (.sl (x2.map aE)),.d (.sl (kq7 x3)),.d (.sl (kq8 x4)),.d (.sl (kq9 x5)),.d (.sl (nums q)),.d (.sl (y1.map aD)),.d (.sl (y2.map aE)),.d (.sl (kq7 y3)),.d (.sl (kq8 y4)),.d (.sl (kq9 y5))])] [.box [.own 1 vf A.length,.own 2 vt B.length,.fn 99 [.ptr 3 0]],.arr false 1 vf (nums A++XF),.arr false 1 vt (nums B++XT),.box [.ptr 0 0]];conv in zB3=>cbv
 rw[aO];simp -implicitDefEqProofs only[oS.d,J0,J1,J2,J3,J4,J5,J6,J7,J8,↓reduceIte,reduceCtorEq];refine nZ [(7,0,1),(7,1,1)] _ [.box [.own 1 vf A.length,.own 2 vt B.length,.fn 99 [.ptr 3 0]],.arr false 1 vf (nums A++XF),.arr false 1 vt (nums B++XT),.box [.ptr 0 0],.box [.ptr 0 0],.box [.d (.sl (nums p)),.d (.sl (x1.map aD)),.d (.sl (x2.map aE)),.d (.sl (kq7 x3)),.d (.sl (kq8 x4)),.d (.sl (kq9 x5)),.d (.sl (nums q)),.d (.sl (y1.map aD)),.d (.sl (y2.map aE)),.d (.sl (kq7 y3)),.d (.sl (kq8 y4)),.d (.sl (kq9 y5))],.box [.nils,.nils,.nils,.nils,.nils,.nils,.nils,.nils,.nils,.nils,.nils,.nils],.box [.own 8 0 0,.own 9 0 0],.arr false 1 0 [],.arr false 1 0 []] [7,8,9] rfl (ko6 _) (ko1 _) hw rfl rfl rfl ?_;rintro _ _ ⟨rfl,vb,XB,w1,F1,Y1,rfl,hF1,hl1⟩;have hl1:=hl1.1;simp only[kH];refine⟨_,_,rfl,?_⟩;simp only[kr7]at hl1;simp -implicitDefEqProofs only[oS.d,J0,J1,J2,J3,J4,J5,J6,J7,J8,↓reduceIte,reduceCtorEq];refine bJ [7,8,9] (hw2 vb w1 F1 XB Y1 (by omega)) rfl rfl rfl ?_;rintro _ _ ⟨rfl,vb2,XB2,w2,F2,Y2,rfl,hF2,hl2⟩;have hl2:=hl2.1;simp only[kH];refine⟨_,_,rfl,?_⟩;have htk:=pA F2 Y2;have hfe:(fun n=>n∈F2)=fun n=>P n∨(n∉q∧Q n):=funext fun n=>propext (by rw[hF2,hF1];simp[and_comm]);have hl3:F2.length<10000000:=by omega
 simp -implicitDefEqProofs only[oS.d,J0,J1,J2,J3,J4,J5,J6,J7,J8,↓reduceIte,reduceCtorEq];refine bJ [0,1,2,3,4,5,6] (hu F2 hl3) rfl (by simp[cE,bP,cW,bT,idx,aG,ks9,htk]) rfl ?_;rintro _ _ ⟨rfl,out,v3,v4,X3,X4,z0,z1,z2,z3,z4,z5,z6,z7,z8,z9,z10,z11,rfl,hb,⟨m1,m2,m3,m4,m5⟩,qq,⟨n1,n2,n3,n4,n5⟩,k2,k3,rfl,hz,rfl,hz2⟩;simp only[aA,List.cons.injEq,and_true]at hz hz2;obtain⟨rfl,rfl,rfl,rfl,rfl⟩:=hz;obtain⟨rfl,rfl,rfl,rfl,rfl⟩:=hz2;refine⟨_,_,rfl,?_⟩;simp -implicitDefEqProofs only[oS.d,J0,J1,J2,J3,J4,J5,J6,J7,J8,↓reduceIte,reduceCtorEq];apply aH [0,1,2,3]
 ·simp only[dI,iC,kx5,cond_true,cond_false,pX,kI,iM,nJ,rP,cN,ks4,kr6,mkV,kw7,kr4,kr7,ks7,ks0,if_true,kv5,kw1,kq1,kq5,kw5];rfl
 ·first|rfl|(simp[fin,bO,bA,cF,bP,cW,bT,idx,dA,aG,cE,bD,ks9];first|exact⟨rfl,rfl⟩|exact⟨rfl,rfl,rfl⟩)
 exact⟨out,⟨m1,m2,m3,m4,m5⟩,qq,⟨n1,n2,n3,n4,n5⟩,rfl,hfe▸hb,k2,k3,v3,v4,X3,X4,rfl⟩
end Go.Vt.Tryz
