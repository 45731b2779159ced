import Derived.Test.YtdabfkmhkoppcaaGreatDoorVtD13
import Derived.Test.YtdabfkmhkoppcaaGreatDoorVtX1
import Derived.Test.YtdabfkmhkoppcaaGreatDoorVtX7
set_option linter.all false
set_option maxHeartbeats 1000000
set_option maxRecDepth 100000
open Int renaming natCast_nonneg→kd8,toNat_natCast→kd9
open List renaming append_nil→ki0,cons_append→kg6,drop_zero→kj7,getElem?_cons_succ→kf9,getElem?_cons_zero→kf5,getElem?_map→ke6,length_cons→kf6,length_map→ke9,length_nil→kg0,length_take→kg2,lookup→ki4,map_cons→ke5,map_nil→ke8,nil_append→kh0,range→kh4,take_of_length_le→ke0,take_succ_cons→ki2,take_zero→kj3
open Nat renaming beq→kl2,le_refl→kf2,reduceAdd→kg8,reduceBEq→kk6,zero_le→kg1
open Go.Proofs.Tryz renaming prog→kd5
open Go.Vt.aA renaming funs→ke2,sigs→ke4,subs→ke3
open Go.Vt.aG renaming encs→kf0
open Go.Vt.aJ renaming renLs→kg3
open Go.Vt renaming eR→J0,mkV→J1
open Nat renaming reduceBEq→J2,reduceEqDiff→J3,reduceLeDiff→J5,reduceAdd→J6,reduceMul→J7
namespace Go.Vt.Tryz
open Go.Proofs
section iter
variable {P:Program} {n:Nat} {Y:kE} {T:Sl} {ys:List Tmp} {h:aB} {pd:Option VX}
inductive Ye (e:Nat):Nat→List Tmp→Prop
 |base:Ye e 0 [0]
 |more {b:Nat} {ys:List Tmp}:Ye e b ys→Ye e (b+1) (e::ys)
theorem Ye.mem0 {e b:Nat} {ys:List Tmp} (hy:Ye e b ys):gN 0 ys=true:=by
 induction hy with
 |base=>rfl
 |@more b ys _ ih=>show(kl2 0 e||gN 0 ys)=true;rw[ih,Bool.or_true]
theorem Ye.memN {e b j:Nat} {ys:List Tmp} (hy:Ye e b ys) (h0:j≠0) (h1:j≠e):gN j ys=false:=by
 induction hy with
 |base=>show(kl2 j 0||false)=false;rw[qQ h0];rfl
 |@more b ys _ ih=>show(kl2 j e||gN j ys)=false;rw[qQ h1,ih];rfl
theorem Ye.drop {e b d:Nat} {ys:List Tmp} (h0:d≠0) (h1:d≠e) (hy:Ye e b ys):Ye e b (iJ (some d) ys):=by
 induction hy with
 |base=>show Ye e 0 (if kl2 0 d=true then []else [0]);rw[qQ (Ne.symm h0)];exact .base
 |@more b ys _ ih=>
  show Ye e (b+1) (if kl2 e d=true then iJ (some d) ys else e::iJ (some d) ys);rw[qQ (Ne.symm h1)];exact .more ih
theorem nN {e b:Nat} {l:List VOp} {d:Tmp} {op:Op} {r:V} {h':aB} {K:KO} (hy:Ye e b ys) (hop:yop (VOp.mk (some d) op none) ys = .no) (h0:d≠0) (h1:d≠e) (hv:vop P T h (mkO op)=some (r,h')) (hk:∀ys,Ye e b ys→eG P Y l ((d,r)::T) ys h' pd K):eG P Y (VOp.mk (some d) op none::l) T ys h pd K:=
 kJ hop hv (hk _ (hy.drop h0 h1))
theorem jZ3 {l:List VOp} {op:Op} {r:V} {h':aB} {K:KO} (hop:yop (VOp.mk none op none) ys = .no) (hv:vop P T h (mkO op)=some (r,h')) (hk:eG P Y l T ys h' pd K):eG P Y (VOp.mk none op none::l) T ys h pd K:=
 kJ hop hv (by rw[show iJ none ys=ys by cases ys<;>rfl];exact hk)
theorem jZ4 {e b d i:Nat} (hy:Ye e b ys) (h0:i≠0) (h1:i≠e):yop (VOp.mk (some d) (.move (.tmp i)) none) ys = .no:=by
 show(if gN i ys=true then YOp.mv d else .no)=_;rw[hy.memN h0 h1];rfl
theorem jZ5 {e b:Nat} {l:List VOp} {K:KO} (hy:Ye e b ys) (hk:∀ys,Ye e (b+1) ys→eG P Y l ((e,.one .any)::T) ys h pd K):eG P Y (VOp.mk (some e) (.move (.tmp 0)) none::l) T ys h pd K:=by
 refine zZ1 ?_ (hk _ ?_)
 ·show(if gN 0 ys=true then YOp.mv e else .no)=_;rw[hy.mem0];rfl
 ·exact .more hy
theorem jZ6 {e b:Nat} {l:List VOp} {d:Tmp} {args:Array Operand} {ts:Array TypeId} {vs:List V} {K:KO} (hy:Ye e (b+1) ys) (h0:d≠0) (h1:d≠e) (ha:eO T args.toList=some vs) (hk:∀ys,Ye e (b+1) ys→Y vs h fun pd' h'=>eG P Y l ((d,.one (.d (.bool pd'.isNone)))::T) ys h' pd' K):eG P Y (VOp.mk (some d) (.call (.mk (.value (.tmp e)) args ts)) none::l) T ys h none K:=by
 refine zZ2 (args:=args.toList) ?_ ha (hk _ (hy.drop h0 h1));show(if gN e ys=true then YOp.yl args.toList else .no)=_;have:gN e ys=true:=by
  cases hy with
  |@more b ys _=>show(kl2 e e||_)=true;rw[Nat.beq_refl e];rfl
 rw[this];rfl
end iter
theorem z68:wH kd5 229 20 zc9:=⟨Tryz.f229,_,Tryz.func229,rfl,rfl,rfl,by kernel_rfl,by kernel_rfl,rfl⟩
def zF5 (n:Nat) (h h0:aB):Prop:=∃ids:List Nat,bK ids=true∧ids.take n=kh4 n∧bB h (idx ids) ids=some h0
theorem z69 {n i:Nat} {ids:List Nat} (h:ids.take n=kh4 n) (hi:i<n):idx ids i=some i:=by
 have e:ids=kh4 n++ids.drop n:=by rw[←h,List.take_append_drop]
 have:∀(a b:List Nat) (k:Nat),idx a i=some k→idx (a++b) i=some k:=by
  intro a;induction a with
  |nil=>intro b k h;cases h
  |cons x r ih=>
   intro b k h;simp only[kg6,idx]at h ⊢;split
   ·rename_i e;rw[if_pos e]at h;exact h
   ·rename_i e;rw[if_neg e]at h;obtain⟨j,hj,rfl⟩:=Option.map_eq_some_iff.1 h;rw[ih b j hj];rfl
 rw[e];exact this _ _ _ (uN rfl hi)
theorem z70 {α:Type} {n N:Nat} {Y:kE} {x3:List (ByteArray×Stx)} (hbig:x3.length<1000000000) (Hi:α→aB) (Inv:Nat→α→Prop) {id:Nat} (hn:id<n) (hlen:∀s,(Hi s).length=N) {K:VX→Sl→aB→Prop} {T0:Sl}
  (hround:∀(i:Nat) (x:ByteArray×Stx) (s:α),x3[i]?=some x→Inv i s→∀K':Option VX→aB→Prop,(∀s' h2,Inv (i+1) s'→zF5 n h2 (Hi s')→K' none h2)→Y [.one (.d (.str x.1)),stW x.2] (Hi s++[.box ((bX x).map .d)]) K')
  (hend:∀s,Inv x3.length s→K .normal T0 (Hi s)) (s0:α) (h0:Inv 0 s0) {hs:aB} {la' lb' lc' ld':L} (his:hs[id]?=some (.box [la',lb',.d (.sl (ke3 x3)),lc',ld'])) (bs:List (Nat×Nat×Nat)) {hb:aB} (k0:eP hs bs=some hb) (k1:zF5 n hb (Hi s0)) :
  dY kd5 n Y zc9 (wI K T0) [(0,.one .any),(1,.one (.ptr id 0))] [0] hs none:=by
 obtain⟨ids0,a1,a2,a3⟩:=k1;have hsl:=gT x3;conv in zc9=>cbv
 rw[jP,lL];refine kJ rfl (r:=.one (.ptr id 2)) (h':=hs) (by simp[vop,mI,opd,lR,his,ki4]) ?_;refine kJ rfl (r:=.one (.d (.sl (ke3 x3)))) (h':=hs) (by simp[vop,oA,opd,cI,his,mkV,bP]) ?_;refine kJ rfl (r:=.one (.d (.int .i64 x3.length))) (h':=hs) (by simp[vop,oA,opd,gR,bP,hsl]) ?_;refine kJ rfl (r:=.one (.d (.int .i64 (0:Nat)))) (h':=hs) rfl ?_;rw[kK,fA,uP,zA9];refine⟨fun m T ys h1 pd=>∃i s,m=x3.length-i∧i≤x3.length∧T=[(0,.one .any),(1,.one (.ptr id 0)),(6,.one (.d (.sl (ke3 x3)))),(7,.one (.d (.int .i64 x3.length))),(8,.one (.d (.int .i64 i)))]∧(∃b,Ye 12 b ys)∧h1=Hi s∧pd=none∧Inv i s,⟨x3.length-0,_,Hi s0,?_,0,s0,rfl,kg1 _,rfl,⟨0,.base⟩,rfl,rfl,h0⟩,?_⟩
 ·refine nB [] bs ids0 _ rfl k0 (kb5 _) a1 a2 a3 ⟨⟨_,kc0 _,rfl⟩,⟨_,kc0 _,?_⟩,⟨_,kc0 _,rfl⟩,⟨_,kc0 _,rfl⟩,⟨_,kc0 _,rfl⟩,trivial⟩;simp[bR,bM,bO,aJ,z69 a2 hn]
 ·rintro m T ys h1 pd ⟨i,s,rfl,hi,rfl,⟨b,hys⟩,rfl,rfl,hI⟩;rw[jP,lL];refine nN hys rfl (by decide) (by decide) (r:=.one (.d (.bool (decide ((i:Int)<(x3.length:Int)))))) (h':=Hi s) (qV (a:=(i:Int)) (b:=(x3.length:Int)) rfl rfl rfl) fun ys hys=>?_;rw[kK,fA,jP,qU];refine⟨fun e=>?_,fun e=>?_⟩
  ·have e:(i:Int)<(x3.length:Int):=of_decide_eq_true e;have hil:i<x3.length:=by omega
   obtain⟨x,hx⟩:=bA hil;have hg:(ke3 x3)[i]?=some (bX x):=by rw[kI,ke6,hx];rfl
   have hlN:=hlen s;have hR:=fun K' hK=>hround i x s hx hI K' hK;rw[uO,fA,jP,uP,jP,lL];obtain⟨xn,⟨u1,u2,u3,u4,u5⟩⟩:=x;simp only[bX,aA,stW,ke5,ke8]at hg hR;refine nN hys rfl (by decide) (by decide) (r:=.one (.ref [.str xn,.sl (u1.map aD),.sl (u2.map aE),.sl (ke3 u3),.sl (ke2 u4),.sl (ke4 u5)])) (h':=Hi s) (by simp[vop,oA,opd,jV,ki4,hg]) fun ys hys=>?_;refine nN hys rfl (by decide) (by decide) (r:=.agg [.d (.str xn),.d (.sl (u1.map aD)),.d (.sl (u2.map aE)),.d (.sl (ke3 u3)),.d (.sl (ke2 u4)),.d (.sl (ke4 u5))]) (h':=Hi s) (by simp[vop,mK,opd,cI,mkV,ki4]) fun ys hys=>?_;refine nN hys rfl (by decide) (by decide) (r:=.one (.ptr N 0)) (h':=Hi s++[.box [.d (.str ⟨#[]⟩),.nils,.nils,.nils,.nils,.nils]]) (by simp[vop,mK,gJ,kN,zT3,hlN]) fun ys hys=>?_;have hgN:∀o,(Hi s++[o])[N]?=some o:=fun o=>by rw[←hlN,List.getElem?_append_right (kf2 _)];simp
   have hsN:∀o o',(Hi s++[o]).set N o'=Hi s++[o']:=fun o o'=>by rw[←hlN,List.set_append_right _ _ (kf2 _)];simp
   refine jZ3 rfl (r:=.one .any) (h':=Hi s++[.box [.d (.str xn),.d (.sl (u1.map aD)),.d (.sl (u2.map aE)),.d (.sl (ke3 u3)),.d (.sl (ke2 u4)),.d (.sl (ke4 u5))]]) (by simp[vop,mK,opd,rI,ki4,jD,hgN,hsN,gJ,lB]) ?_;rw[kK,fA,jP,lL];refine jZ5 hys fun ys hys=>?_;refine nN hys rfl (by decide) (by decide) (r:=.one (.ptr N 0)) (h':=Hi s++[.box [.d (.str xn),.d (.sl (u1.map aD)),.d (.sl (u2.map aE)),.d (.sl (ke3 u3)),.d (.sl (ke2 u4)),.d (.sl (ke4 u5))]]) (by simp[vop,mK,opd,lR,hgN,ki4]) fun ys hys=>?_;refine nN hys rfl (by decide) (by decide) (r:=.one (.d (.str xn))) (h':=Hi s++[.box [.d (.str xn),.d (.sl (u1.map aD)),.d (.sl (u2.map aE)),.d (.sl (ke3 u3)),.d (.sl (ke2 u4)),.d (.sl (ke4 u5))]]) (by simp[vop,ti9,opd,cI,hgN,mkV,ki4]) fun ys hys=>?_;refine nN hys rfl (by decide) (by decide) (r:=.one (.ptr N 1)) (h':=Hi s++[.box [.d (.str xn),.d (.sl (u1.map aD)),.d (.sl (u2.map aE)),.d (.sl (ke3 u3)),.d (.sl (ke2 u4)),.d (.sl (ke4 u5))]]) (by simp[vop,mK,opd,lR,hgN,ki4]) fun ys hys=>?_;refine nN hys rfl (by decide) (by decide) (r:=.agg [.d (.sl (u1.map aD)),.d (.sl (u2.map aE)),.d (.sl (ke3 u3)),.d (.sl (ke2 u4)),.d (.sl (ke4 u5))]) (h':=Hi s++[.box [.d (.str xn),.d (.sl (u1.map aD)),.d (.sl (u2.map aE)),.d (.sl (ke3 u3)),.d (.sl (ke2 u4)),.d (.sl (ke4 u5))]]) (by simp[vop,mI,opd,cI,hgN,mkV,ki4]) fun ys hys=>?_;refine jZ6 hys (by decide) (by decide) (vs:=[.one (.d (.str xn)),.agg [.d (.sl (u1.map aD)),.d (.sl (u2.map aE)),.d (.sl (ke3 u3)),.d (.sl (ke2 u4)),.d (.sl (ke4 u5))]]) rfl (fun ys hys=>hR _ fun s' h2 hI' ⟨ids,b1,b2,b3⟩=>?_);refine nN hys rfl (by decide) (by decide) (r:=.one (.d (.bool false))) (h':=h2) rfl fun ys hys=>?_;rw[kK,fA,qU];refine⟨fun e=>(by cases e),fun _=>?_⟩;rw[uO,wG,fA,lL];refine nN hys rfl (by decide) (by decide) (r:=.one (.d (.int .i64 ((i+1:Nat):Int)))) (h':=h2) (qV (a:=(i:Int)) (b:=1) rfl rfl ?_) fun ys hys=>?_
   ·simp only[fX,gZ,iH];rw[qT (by omega) (by omega)];simp
   refine nN hys (jZ4 hys (by decide) (by decide)) (by decide) (by decide) (r:=.one (.d (.int .i64 ((i+1:Nat):Int)))) (h':=h2) rfl fun ys hys=>?_;rw[kK,fA];refine⟨x3.length-(i+1),_,Hi s',by omega,?_,i+1,s',rfl,by omega,rfl,⟨_,hys⟩,rfl,rfl,hI'⟩;refine eT ids h2 (kb5 _) b1 b2 b3 ⟨⟨_,kc0 _,rfl⟩,⟨_,kc0 _,?_⟩,⟨_,kc0 _,rfl⟩,⟨_,kc0 _,rfl⟩,⟨_,kc0 _,rfl⟩,trivial⟩;simp[bR,bM,bO,aJ,z69 b2 hn]
  ·have e:¬(i:Int)<(x3.length:Int):=of_decide_eq_false e;have:i=x3.length:=by omega
   subst this;exact hend s hI
theorem jZ7 {α:Type} {n N:Nat} {Y:kE} {x3:List (ByteArray×Stx)} (hbig:x3.length<1000000000) (Hi:α→aB) (Inv:Nat→α→Prop) {id:Nat} {la lb lc ld:L} (hid:∀s,(Hi s)[id]?=some (.box [la,lb,.d (.sl (ke3 x3)),lc,ld]))
  (hn:id<n) (hN:n≤N) (hlen:∀s,(Hi s).length=N) (hh:∀s,bB (Hi s) (idx (kh4 N)) (kh4 N)=some (Hi s)) {K:VX→Sl→aB→Prop} {T0:Sl}
  (hround:∀(i:Nat) (x:ByteArray×Stx) (s:α),x3[i]?=some x→Inv i s→∀K':Option VX→aB→Prop,(∀s' r,Inv (i+1) s'→K' none (Hi s'++r))→Y [.one (.d (.str x.1)),stW x.2] (Hi s++[.box ((bX x).map .d)]) K')
  (hend:∀s,Inv x3.length s→K .normal T0 (Hi s)) (s0:α) (h0:Inv 0 s0) :
  dY kd5 n Y zc9 (wI K T0) [(0,.one .any),(1,.one (.ptr id 0))] [0] (Hi s0) none:=
 have ht:∀s' r,zF5 n (Hi s'++r) (Hi s'):=fun s' r=>⟨kh4 N,nI N,by rw[List.take_range,Nat.min_eq_left hN],zd3 (hh s')⟩
 z70 hbig Hi Inv hn hlen (fun i x s hx hI K' hK=>hround i x s hx hI K' fun s' r hs=>hK s' _ hs (ht s' r)) hend s0 h0 (hid s0) [] rfl (by have:=ht s0 [];rwa [ki0]at this)
theorem zg0 {T:Sl}:opd T (.const (.agg #[.string (ByteArray.mk #[]),.slice none 0 0,.slice none 0 0,.slice none 0 0,.slice none 0 0,.slice none 0 0]))=some (.agg [.d (.str ⟨#[]⟩),.nils,.nils,.nils,.nils,.nils]):=rfl
theorem zF6 {T:Sl}:opd T (.const (.agg #[.string (ByteArray.mk #[]),.slice none 0 0,.slice none 0 0,.slice none 0 0,.slice none 0 0,.slice none 0 0,.slice none 0 0,.slice none 0 0,.slice none 0 0,.slice none 0 0,.slice none 0 0,.slice none 0 0,.slice none 0 0]))=some (.agg [.d (.str ⟨#[]⟩),.nils,.nils,.nils,.nils,.nils,.nils,.nils,.nils,.nils,.nils,.nils,.nils]):=rfl
theorem zg1 {T:Sl}:opd T (.const (.agg #[.string (ByteArray.mk #[]),.slice none 0 0,.slice none 0 0,.slice none 0 0,.slice none 0 0,.slice none 0 0,.slice none 0 0]))=some (.agg [.d (.str ⟨#[]⟩),.nils,.nils,.nils,.nils,.nils,.nils]):=rfl
theorem z71 (x1:List Tym) (x2:List Vam) (x3:List (ByteArray×Stx)) (x4:List (ByteArray×List Int×Stx×List Int×Stx)) (x5:List (ByteArray×List Int×Stx)) :
  VC kd5 162 [.agg [.d (.sl (x1.map aD)),.d (.sl (x2.map aE)),.d (.sl (ke3 x3)),.d (.sl (ke2 x4)),.d (.sl (ke4 x5))]] [] fun r h'=>r = .one (.fn 229 [.ptr 0 0])∧h'=[.box [.d (.sl (x1.map aD)),.d (.sl (x2.map aE)),.d (.sl (ke3 x3)),.d (.sl (ke2 x4)),.d (.sl (ke4 x5))]]:=by
 refine aS aR jE5 (by simp) ?_;show vwp kd5 0 zv1 _ [(0,.agg [.d (.sl (x1.map aD)),.d (.sl (x2.map aE)),.d (.sl (ke3 x3)),.d (.sl (ke2 x4)),.d (.sl (ke4 x5))])] [];conv in zv1=>cbv
 rw[aO];simp -implicitDefEqProofs only[oS.d,J2,↓reduceIte];apply aI [0];rfl;rfl;exact⟨rfl,rfl⟩
open Go.Proofs Go.Vt.Al
def rB (vf vt:Nat) (A B:List Int) (XF XT:List (List D)) (X Z:List L):aB:=[.box [.own 1 vf A.length,.own 2 vt B.length,.fn 99 [.ptr 3 0]],.arr false 1 vf (nums A++XF),.arr false 1 vt (nums B++XT),.box [.ptr 0 0],.box [.ptr 0 0],.box X,.box Z]
theorem jZ8 (vf vt:Nat) (A B own out:List Int) (XF XT:List (List D)) (hAB:A.length=B.length) (a0 a1 a2 a3 a4 a5 z0 z1 z2 z3 z4 z5:D) :
  VCD kd5 199 [.one (.ptr 7 0),.one (.ptr 8 0)] (rB vf vt (A++own) (B++out) XF XT [.d a0,.d a1,.d a2,.d a3,.d a4,.d a5] [.d z0,.d z1,.d z2,.d z3,.d z4,.d z5]++[.box [.ptr 0 0],.box [.d (.int .i64 A.length)]]) fun h'=>h'=rB vf vt A B (nums own++XF) (nums out++XT) [.d a0,.d a1,.d a2,.d a3,.d a4,.d a5] [.d z0,.d z1,.d z2,.d z3,.d z4,.d z5]++[.box [.ptr 0 0],.box [.d (.int .i64 A.length)]]:=by
 have e1:nums (A++own)++XF=nums A++(nums own++XF):=by simp[nums]
 have e2:nums (B++out)++XT=nums B++(nums out++XT):=by simp[nums]
 simp only[rB,e1,e2];refine zf7 aR zX9 (by kernel_rfl) (by simp) ?_;show vwp kd5 9 xV _ [(0,.one (.ptr 7 0)),(1,.one (.ptr 8 0))] _;conv in xV=>cbv
 have h1:A.length≤(A++own).length:=by simp
 have h2:A.length≤(B++out).length:=by simp;omega
 rw[aO];simp -implicitDefEqProofs only[oS.d,J0,J1,J2,J5,J6,↓reduceIte,reduceCtorEq,h1,h2,kd8,kd9];apply aI [0,1,2,3,4,5,6,7,8];rfl;rfl;rw[hAB]
theorem jZ9 {g:FuncId} (a0 a1 a2 a3 a4 a5:D) (A B own ins:List Int) (Rz:List Int→D→D→D→D→D→D→Prop) (hAB:A.length=B.length) (hA:A.length+own.length<1000000000) (ho:own.length<10000000) (hi:ins.length<10000000)
  (hdo:∀(out:List Int),eM A B own out (fun n=>n∈ins)→∀(vf vt:Nat) (XF XT:List (List D)),VC kd5 g [.one (.d (.sl (nums out))),.one (.ptr 4 0),.one (.ptr 5 0),.one (.ptr 6 0)] (rB vf vt (A++own) (B++out) XF XT [.d a0,.d a1,.d a2,.d a3,.d a4,.d a5] [.nils,.nils,.nils,.nils,.nils,.nils]) fun r h'=>r = .tup []∧∃vf vt XF XT z0 z1 z2 z3 z4 z5,h'=rB vf vt (A++own) (B++out) XF XT [.d a0,.d a1,.d a2,.d a3,.d a4,.d a5] [.d z0,.d z1,.d z2,.d z3,.d z4,.d z5]∧Rz out z0 z1 z2 z3 z4 z5)
  (vf vt:Nat) (XF XT:List (List D)) :
  VC kd5 148 [.one (.ptr 0 0),.one (.d (.sl (nums own))),.one (.d (.sl (nums ins))),.one (.fn g [.ptr 4 0,.ptr 5 0,.ptr 6 0])] (rB vf vt A B XF XT [.d a0,.d a1,.d a2,.d a3,.d a4,.d a5] [.nils,.nils,.nils,.nils,.nils,.nils]) fun r h'=>r = .tup []∧∃out vf vt XF XT z0 z1 z2 z3 z4 z5,h'=rB vf vt A B XF XT [.d a0,.d a1,.d a2,.d a3,.d a4,.d a5] [.d z0,.d z1,.d z2,.d z3,.d z4,.d z5]∧eM A B own out (fun n=>n∈ins)∧Rz out z0 z1 z2 z3 z4 z5:=by
 have hfr:=z62 vf vt A B own ins XF XT (by omega) hAB ho hi;simp only[rB,rH]at hfr ⊢;refine zf6 aR z65 (by simp) ?_;show vwp kd5 7 (nM yS (.ops yT)) _ [(0,.one (.ptr 0 0)),(1,.one (.d (.sl (nums own)))),(2,.one (.d (.sl (nums ins)))),(3,.one (.fn g [.ptr 4 0,.ptr 5 0,.ptr 6 0]))] _;simp only[yS,yT,nM];rw[aO];simp -implicitDefEqProofs only[oS.d,J1,J2,J5,J6,↓reduceIte,reduceCtorEq];refine bI [0,1,2,3] hfr rfl rfl rfl ?_;rintro _ _ ⟨⟨out,rfl,hbo⟩,rfl⟩;refine⟨_,_,rfl,?_⟩;have hlo:=hbo.1;have hdo:=hdo out hbo (vf+1) (vt+1) [] [];simp only[rB,ki0]at hdo;have hcap1:(A.length+own.length)*8≤aM∧A.length+own.length≤aM:=by simp[aM];omega
 have hcap2:(B.length+out.length)*8≤aM∧B.length+out.length≤aM:=by simp[aM];omega
 have htk1:=oM A XF;have htk2:=oM B XT;have hal1:((nums own).all fun e=>e.length == 1)=true:=by simp[nums]
 have hal2:((nums out).all fun e=>e.length == 1)=true:=by simp[nums]
 have e1:nums A++nums own=nums (A++own):=by simp[nums]
 have e2:A.length+own.length=(A++own).length:=by simp
 have e3:nums B++nums out=nums (B++out):=by simp[nums]
 have e4:B.length+out.length=(B++out).length:=by simp
 simp -implicitDefEqProofs only[oS.d,J1,J2,J5,J6,↓reduceIte,reduceCtorEq,hcap1,hcap2,htk1,htk2,hal1,hal2,bW];refine⟨_,_,rfl,?_⟩;rw[e1,e2,e3,e4];show vwp kd5 9 yU _ _ _;unfold yU;rw[aO];simp -implicitDefEqProofs only[oS.d,J2];refine bI [0,1,2,3,4,5,6] hdo rfl rfl rfl ?_;rintro _ _ ⟨rfl,vf1,vt1,XF1,XT1,z0,z1,z2,z3,z4,z5,rfl,h2⟩;refine⟨_,_,rfl,?_⟩;simp -implicitDefEqProofs only[oS.d,J6,reduceCtorEq];refine⟨_,jZ8 vf1 vt1 A B own out XF1 XT1 hAB a0 a1 a2 a3 a4 a5 z0 z1 z2 z3 z4 z5,?_⟩;rintro _ rfl;simp only[rB,kg6,kh0];apply aI [0,1,2,3,4,5,6];rfl;rfl;exact⟨rfl,out,vf1,vt1,_,_,z0,z1,z2,z3,z4,z5,rfl,hbo,h2⟩
theorem j00 (vf vt:Nat) (A B own out:List Int) (XF XT:List (List D)) (hAB:A.length=B.length) (a0 a1 a2 a3 a4 a5 a6 a7 a8 a9 a10 a11 z0 z1 z2 z3 z4 z5 z6 z7 z8 z9 z10 z11:D) :
  VCD kd5 199 [.one (.ptr 7 0),.one (.ptr 8 0)] (rB vf vt (A++own) (B++out) XF XT [.d a0,.d a1,.d a2,.d a3,.d a4,.d a5,.d a6,.d a7,.d a8,.d a9,.d a10,.d a11] [.d z0,.d z1,.d z2,.d z3,.d z4,.d z5,.d z6,.d z7,.d z8,.d z9,.d z10,.d z11]++[.box [.ptr 0 0],.box [.d (.int .i64 A.length)]]) fun h'=>h'=rB vf vt A B (nums own++XF) (nums out++XT) [.d a0,.d a1,.d a2,.d a3,.d a4,.d a5,.d a6,.d a7,.d a8,.d a9,.d a10,.d a11] [.d z0,.d z1,.d z2,.d z3,.d z4,.d z5,.d z6,.d z7,.d z8,.d z9,.d z10,.d z11]++[.box [.ptr 0 0],.box [.d (.int .i64 A.length)]]:=by
 have e1:nums (A++own)++XF=nums A++(nums own++XF):=by simp[nums]
 have e2:nums (B++out)++XT=nums B++(nums out++XT):=by simp[nums]
 simp only[rB,e1,e2];refine zf7 aR zX9 (by kernel_rfl) (by simp) ?_;show vwp kd5 9 xV _ [(0,.one (.ptr 7 0)),(1,.one (.ptr 8 0))] _;conv in xV=>cbv
 have h1:A.length≤(A++own).length:=by simp
 have h2:A.length≤(B++out).length:=by simp;omega
 rw[aO];simp -implicitDefEqProofs only[oS.d,J0,J1,J2,J5,J6,↓reduceIte,reduceCtorEq,h1,h2,kd8,kd9];apply aI [0,1,2,3,4,5,6,7,8];rfl;rfl;rw[hAB]
theorem j01 {g:FuncId} (a0 a1 a2 a3 a4 a5 a6 a7 a8 a9 a10 a11:D) (A B own ins:List Int) (Rz:List Int→D→D→D→D→D→D→D→D→D→D→D→D→Prop) (hAB:A.length=B.length) (hA:A.length+own.length<1000000000) (ho:own.length<10000000) (hi:ins.length<10000000)
  (hdo:∀(out:List Int),eM A B own out (fun n=>n∈ins)→∀(vf vt:Nat) (XF XT:List (List D)),VC kd5 g [.one (.d (.sl (nums out))),.one (.ptr 4 0),.one (.ptr 5 0),.one (.ptr 6 0)] (rB vf vt (A++own) (B++out) XF XT [.d a0,.d a1,.d a2,.d a3,.d a4,.d a5,.d a6,.d a7,.d a8,.d a9,.d a10,.d a11] [.nils,.nils,.nils,.nils,.nils,.nils,.nils,.nils,.nils,.nils,.nils,.nils]) fun r h'=>r = .tup []∧∃vf vt XF XT z0 z1 z2 z3 z4 z5 z6 z7 z8 z9 z10 z11,h'=rB vf vt (A++own) (B++out) XF XT [.d a0,.d a1,.d a2,.d a3,.d a4,.d a5,.d a6,.d a7,.d a8,.d a9,.d a10,.d a11] [.d z0,.d z1,.d z2,.d z3,.d z4,.d z5,.d z6,.d z7,.d z8,.d z9,.d z10,.d z11]∧Rz out z0 z1 z2 z3 z4 z5 z6 z7 z8 z9 z10 z11)
  (vf vt:Nat) (XF XT:List (List D)) :
  VC kd5 148 [.one (.ptr 0 0),.one (.d (.sl (nums own))),.one (.d (.sl (nums ins))),.one (.fn g [.ptr 4 0,.ptr 5 0,.ptr 6 0])] (rB vf vt A B XF XT [.d a0,.d a1,.d a2,.d a3,.d a4,.d a5,.d a6,.d a7,.d a8,.d a9,.d a10,.d a11] [.nils,.nils,.nils,.nils,.nils,.nils,.nils,.nils,.nils,.nils,.nils,.nils]) fun r h'=>r = .tup []∧∃out vf vt XF XT z0 z1 z2 z3 z4 z5 z6 z7 z8 z9 z10 z11,h'=rB vf vt A B XF XT [.d a0,.d a1,.d a2,.d a3,.d a4,.d a5,.d a6,.d a7,.d a8,.d a9,.d a10,.d a11] [.d z0,.d z1,.d z2,.d z3,.d z4,.d z5,.d z6,.d z7,.d z8,.d z9,.d z10,.d z11]∧eM A B own out (fun n=>n∈ins)∧Rz out z0 z1 z2 z3 z4 z5 z6 z7 z8 z9 z10 z11:=by
 have hfr:=z62 vf vt A B own ins XF XT (by omega) hAB ho hi;simp only[rB,rH]at hfr ⊢;refine zf6 aR z65 (by simp) ?_;show vwp kd5 7 (nM yS (.ops yT)) _ [(0,.one (.ptr 0 0)),(1,.one (.d (.sl (nums own)))),(2,.one (.d (.sl (nums ins)))),(3,.one (.fn g [.ptr 4 0,.ptr 5 0,.ptr 6 0]))] _;simp only[yS,yT,nM];rw[aO];simp -implicitDefEqProofs only[oS.d,J1,J2,J5,J6,↓reduceIte,reduceCtorEq];refine bI [0,1,2,3] hfr rfl rfl rfl ?_;rintro _ _ ⟨⟨out,rfl,hbo⟩,rfl⟩;refine⟨_,_,rfl,?_⟩;have hlo:=hbo.1;have hdo:=hdo out hbo (vf+1) (vt+1) [] [];simp only[rB,ki0]at hdo;have hcap1:(A.length+own.length)*8≤aM∧A.length+own.length≤aM:=by simp[aM];omega
 have hcap2:(B.length+out.length)*8≤aM∧B.length+out.length≤aM:=by simp[aM];omega
 have htk1:=oM A XF;have htk2:=oM B XT;have hal1:((nums own).all fun e=>e.length == 1)=true:=by simp[nums]
 have hal2:((nums out).all fun e=>e.length == 1)=true:=by simp[nums]
 have e1:nums A++nums own=nums (A++own):=by simp[nums]
 have e2:A.length+own.length=(A++own).length:=by simp
 have e3:nums B++nums out=nums (B++out):=by simp[nums]
 have e4:B.length+out.length=(B++out).length:=by simp
 simp -implicitDefEqProofs only[oS.d,J1,J2,J5,J6,↓reduceIte,reduceCtorEq,hcap1,hcap2,htk1,htk2,hal1,hal2,bW];refine⟨_,_,rfl,?_⟩;rw[e1,e2,e3,e4];show vwp kd5 9 yU _ _ _;unfold yU;rw[aO];simp -implicitDefEqProofs only[oS.d,J2];refine bI [0,1,2,3,4,5,6] hdo rfl rfl rfl ?_;rintro _ _ ⟨rfl,vf1,vt1,XF1,XT1,z0,z1,z2,z3,z4,z5,z6,z7,z8,z9,z10,z11,rfl,h2⟩;refine⟨_,_,rfl,?_⟩;simp -implicitDefEqProofs only[oS.d,J6,reduceCtorEq];refine⟨_,j00 vf1 vt1 A B own out XF1 XT1 hAB a0 a1 a2 a3 a4 a5 a6 a7 a8 a9 a10 a11 z0 z1 z2 z3 z4 z5 z6 z7 z8 z9 z10 z11,?_⟩;rintro _ rfl;simp only[rB,kg6,kh0];apply aI [0,1,2,3,4,5,6];rfl;rfl;exact⟨rfl,out,vf1,vt1,_,_,z0,z1,z2,z3,z4,z5,z6,z7,z8,z9,z10,z11,rfl,hbo,h2⟩
theorem j02 (vf vt:Nat) (A B:List Int) (XF XT:List (List D)) (hA:A.length<1000000000) (hAB:A.length=B.length) (l:List Ty) (hl:aT tyn l<100000000) :
  VC kd5 201 [.one (.ptr 0 0),.one (.d (.sl (kf0 l)))] (rH vf vt A B XF XT) fun r h'=>r = .one (.d (.sl (kf0 (dC.go A B l))))∧h'=rH vf vt A B XF XT:=by
 have hty:=fun u (hu:tyn u<100000000)=>zF2 vf vt A B XF XT hA hAB (tyn u) u (kf2 _) hu;have hlen:=dV (f:=tyn) (fun t=>by cases t;simp[tyn]) l;simp only[rH,zF0]at hty ⊢;refine aS aR jF8 (by simp) ?_;show vwp kd5 4 zw5 _ [(0,.one (.ptr 0 0)),(1,.one (.d (.sl (kf0 l))))] [.box [.own 1 vf A.length,.own 2 vt B.length,.fn 99 [.ptr 3 0]],.arr false 1 vf (nums A++XF),.arr false 1 vt (nums B++XT),.box [.ptr 0 0]];conv in zw5=>cbv
 rw[aO];simp -implicitDefEqProofs only[oS.d,J2,↓reduceIte,dA];refine bC (α:=Nat) (fun x=>[(10,.one (.d (.int .i64 x))),(9,.one (.d (.int .i64 l.length))),(8,.one (.d (.sl (kf0 l)))),(5,.one (.own 4 x x)),(0,.one (.ptr 0 0))]) (fun x=>[.box [.own 1 vf A.length,.own 2 vt B.length,.fn 99 [.ptr 3 0]],.arr false 1 vf (nums A++XF),.arr false 1 vt (nums B++XT),.box [.ptr 0 0],.arr false 3 x (kf0 ((l.map (dC A B)).take x))])
  (fun x=>x≤l.length) (fun x=>l.length-x) 0
  (gE [(5,3)] [] [0,1,2,3,4] rfl rfl rfl rfl rfl rfl) (kg1 _) ?_
 intro i hi;have hw:=bJ (a:=i) rfl (by omega);rcases Nat.lt_or_ge i l.length with h5|h5
 ·have hlt:((i:Int)<(l.length:Int))=True:=by simp;omega
  obtain⟨u,hu⟩:=bA h5;have hmu:=cY (f:=tyn) (List.mem_of_getElem? hu);have iu:=hty u (by omega);have hg:(kf0 l)[i]?=some (aG u):=by rw[dN,ke6,hu];rfl
  have hrow:(kf0 ((l.map (dC A B)).take i))++[aG (dC A B u)]=kf0 ((l.map (dC A B)).take (i+1)):=by
   rw[List.take_add_one,ke6,hu,dN,dN];simp
  have htk:(kf0 ((l.map (dC A B)).take i)).take i=kf0 ((l.map (dC A B)).take i):=ke0 (by rw[dA,kg2];omega);have hcap:(i+1)*40≤aM∧i+1≤aM:=by simp[aM];omega
  generalize (dC A B) u=R at iu hrow;obtain⟨rk,rn,rl⟩:=R;obtain⟨uk,un,ul⟩:=u;simp only[tyV,aG,ke5,ke8]at iu hrow hg;simp -implicitDefEqProofs only[oS.d,J1,J2,J6,↓reduceIte,reduceCtorEq,hlt,hg,kd8,kd9];refine aQ [0,1,2,3] iu rfl rfl rfl rfl ?_;simp -implicitDefEqProofs only[oS.d,J2,J5,J6,J7,↓reduceIte,reduceCtorEq,hcap,htk,hw];rw[hrow];refine⟨i+1,by omega,by omega,?_⟩;exact(aL [0,1,2,3,4] rfl rfl rfl rfl)
 ·have hlt:((i:Int)<(l.length:Int))=False:=by simp;omega
  have hie:i=l.length:=by omega
  subst hie;simp -implicitDefEqProofs only[oS.d,J2,J6,↓reduceIte,hlt];apply aI [0,1,2,3]
  ·rfl
  ·simp[fin,bK,bB,bR,bM,bO,idx,cM,aJ,bH,kg3];first|exact⟨rfl,rfl⟩|exact⟨rfl,rfl,rfl⟩
  refine⟨?_,rfl⟩;rw[ke0 (by rw[dA,kg2,ke9];omega),ke0 (by rw[ke9];exact kf2 _)]
def RS (x:Stx) (A B:List Int):Prop:=∀(vf vt:Nat) (XF XT:List (List D)),VC kd5 150 [.one (.ptr 0 0),stW x] (rH vf vt A B XF XT) fun r h'=>∃x',r=stW x'∧bG A B x x'∧∃vf vt XF XT,h'=rH vf vt A B XF XT
theorem zF7 {y:Stx} {q A B:List Int} (H:∀out,out.length=q.length→RS y (A++q) (B++out)) (hAB:A.length=B.length) (hA:A.length+q.length<1000000000) (hq:q.length<10000000) (hy:stn y<10000000) (vf vt:Nat) (XF XT:List (List D)) :
  VC kd5 103 [.one (.ptr 0 0),abW q y] (rH vf vt A B XF XT) fun r h'=>∃q' y',r=abW q' y'∧eM A B q q' (aU y)∧bG (A++q) (B++q') y y'∧∃vf vt XF XT,h'=rH vf vt A B XF XT:=by
 have hw:=zf9 y [] (by omega) (by simp;omega) 0 0 [] [] [] (by simp;omega);have hQe:∃Q:Int→Prop,Q=aU y:=⟨_,rfl⟩;obtain⟨Q,hQ⟩:=hQe;have hce:∃c:Nat,c=stn y:=⟨_,rfl⟩;obtain⟨Qc,hQc⟩:=hce;have hRe:∃R:List Int→Stx→Prop,R=fun out y'=>bG (A++q) (B++out) y y':=⟨_,rfl⟩;obtain⟨R,hR⟩:=hRe;have H1:∀out,out.length=q.length→∀(vf vt:Nat) (XF XT:List (List D)),VC kd5 150 [.one (.ptr 0 0),stW y] (rH vf vt (A++q) (B++out) XF XT) fun r h'=>∃x',r=stW x'∧R out x'∧∃vf vt XF XT,h'=rH vf vt (A++q) (B++out) XF XT:=by rw[hR];exact H
 have hG:∀q' y',R q' y'→bG (A++q) (B++q') y y':=by rw[hR];exact fun _ _ h=>h
 suffices hs:VC kd5 103 [.one (.ptr 0 0),abW q y] (rH vf vt A B XF XT) fun r h'=>∃q' y',r=abW q' y'∧eM A B q q' Q∧R q' y'∧∃vf vt XF XT,h'=rH vf vt A B XF XT by
  rw[hQ,hR]at hs;exact hs
 rw[←hQ,←hQc]at hw;rw[←hQc]at hy;clear hG hR hQ hQc H;obtain⟨y1,y2,y3,y4,y5⟩:=y;simp only[stW,aA,ke5,ke8,kH,nums,ke8,kg0,ki0]at hw;simp only[stW,aA,ke5,ke8,rH]at H1;have hu:=fun ins (hi:ins.length<10000000)=>jZ9 (g:=149) (.sl (nums q)) (.sl (y1.map aD)) (.sl (y2.map aE)) (.sl (ke3 y3)) (.sl (ke2 y4)) (.sl (ke4 y5)) A B q ins (fun out z0 z1 z2 z3 z4 z5=>∃y',R out y'∧D.sl (nums out)=z0∧[z1,z2,z3,z4,z5]=aA y') hAB hA hq hi (fun out hb vf vt XF XT=>by
  have h1:=H1 out hb.1 vf vt XF XT;simp only[rB];refine aS aR jD5 (by simp) ?_;show vwp kd5 7 zu1 _ [(0,.one (.d (.sl (nums out)))),(1,.one (.ptr 4 0)),(2,.one (.ptr 5 0)),(3,.one (.ptr 6 0))] [.box [.own 1 vf (A++q).length,.own 2 vt (B++out).length,.fn 99 [.ptr 3 0]],.arr false 1 vf (nums (A++q)++XF),.arr false 1 vt (nums (B++out)++XT),.box [.ptr 0 0],.box [.ptr 0 0],.box [.d (.sl (nums q)),.d (.sl (y1.map aD)),.d (.sl (y2.map aE)),.d (.sl (ke3 y3)),.d (.sl (ke2 y4)),.d (.sl (ke4 y5))],.box [.nils,.nils,.nils,.nils,.nils,.nils]];conv in zu1=>cbv
  rw[aO];simp -implicitDefEqProofs only[oS.d,J1,J2,J5,J6,↓reduceIte,reduceCtorEq];refine bI [0,1,2,3] h1 rfl rfl rfl ?_;rintro _ _ ⟨⟨m1,m2,m3,m4,m5⟩,rfl,h2,v3,v4,X3,X4,rfl⟩;refine⟨_,_,rfl,?_⟩;simp only[];simp -implicitDefEqProofs only[oS.d,J2,J5,J6,↓reduceIte];apply aI [0,1,2,3,4,5,6];rfl;rfl;exact⟨rfl,v3,v4,X3,X4,_,_,_,_,_,_,rfl,_,h2,rfl,rfl⟩) vf vt XF XT
 simp only[rB]at hu;simp only[abW,aA,ke5,ke8,rH];refine aS aR jB9 (by simp) ?_;show vwp kd5 4 zs5 _ [(0,.one (.ptr 0 0)),(1,.agg [.d (.sl (nums q)),.d (.sl (y1.map aD)),.d (.sl (y2.map aE)),.d (.sl (ke3 y3)),.d (.sl (ke2 y4)),.d (.sl (ke4 y5))])] [.box [.own 1 vf A.length,.own 2 vt B.length,.fn 99 [.ptr 3 0]],.arr false 1 vf (nums A++XF),.arr false 1 vt (nums B++XT),.box [.ptr 0 0]];conv in zs5=>cbv
 rw[aO];simp -implicitDefEqProofs only[oS.d,J1,J2,J5,J6,↓reduceIte,reduceCtorEq];refine mF [(7,0,1),(7,1,1)] _ [.box [.own 1 vf A.length,.own 2 vt B.length,.fn 99 [.ptr 3 0]],.arr false 1 vf (nums A++XF),.arr false 1 vt (nums B++XT),.box [.ptr 0 0],.box [.ptr 0 0],.box [.d (.sl (nums q)),.d (.sl (y1.map aD)),.d (.sl (y2.map aE)),.d (.sl (ke3 y3)),.d (.sl (ke2 y4)),.d (.sl (ke4 y5))],.box [.nils,.nils,.nils,.nils,.nils,.nils],.box [.own 8 0 0,.own 9 0 0],.arr false 1 0 [],.arr false 1 0 []] [7,8,9] rfl (kc4 _) (kb5 _) hw rfl rfl rfl ?_;rintro _ _ ⟨rfl,vb,XB,w1,F1,Y1,rfl,hF1,hl1⟩;have hl1:=hl1.1;simp only[kH];refine⟨_,_,rfl,?_⟩;have htk:=oM F1 Y1;have hfe:(fun n=>n∈F1)=Q:=funext fun n=>propext (by rw[hF1];simp);have hl2:F1.length<10000000:=by simp only[kg0]at hl1;omega
 simp -implicitDefEqProofs only[oS.d,J1,J2,J5,J6,↓reduceIte,reduceCtorEq];refine bI [0,1,2,3,4,5,6] (hu F1 hl2) rfl (by simp[cL,bM,bO,idx,aJ,kg3,htk]) rfl ?_;rintro _ _ ⟨rfl,out,v3,v4,X3,X4,z0,z1,z2,z3,z4,z5,rfl,hb,⟨m1,m2,m3,m4,m5⟩,h2,rfl,hz⟩;simp only[aA,List.cons.injEq,and_true]at hz;obtain⟨rfl,rfl,rfl,rfl,rfl⟩:=hz;refine⟨_,_,rfl,?_⟩;simp -implicitDefEqProofs only[oS.d,J1,J2,J3,J6,↓reduceIte,reduceCtorEq];apply aI [0,1,2,3]
 ·simp only[cX,eH,kk6,cond_true,cond_false,lI,cI,kf9,kf5,mkV,kj7,kf6,kg0,kg8,kf2,if_true,ki2,kj3];rfl
 ·first|rfl|(simp[fin,bK,bB,bR,bM,dG,bO,idx,cM,aJ,cL,bH,kg3];first|exact⟨rfl,rfl⟩|exact⟨rfl,rfl,rfl⟩)
 exact⟨out,⟨m1,m2,m3,m4,m5⟩,rfl,hfe▸hb,h2,v3,v4,X3,X4,rfl⟩
theorem j03 {x y:Stx} {p q A B:List Int} (Hx:∀out,out.length=p.length→RS x (A++p) (B++out)) (Hy:∀o1 o2,o1.length=p.length→o2.length=q.length→RS y ((A++p)++q) ((B++o1)++o2)) (hAB:A.length=B.length) (hA:A.length+p.length+q.length<1000000000)
  (hp:p.length<10000000) (hq:q.length<10000000) (hxy:stn x+stn y<10000000) (vf vt:Nat) (XF XT:List (List D)) :
  VC kd5 202 [.one (.ptr 0 0),.agg (.d (.sl (nums p))::(aA x).map .d++.d (.sl (nums q))::(aA y).map .d)] (rH vf vt A B XF XT) fun r h'=>∃p' x' q' y',r = .agg (.d (.sl (nums p'))::(aA x').map .d++.d (.sl (nums q'))::(aA y').map .d)∧
   eM A B p p' (fun n=>aU x n∨(n∉q∧aU y n))∧bG (A++p) (B++p') x x'∧eM (A++p) (B++p') q q' (aU y)∧bG (A++p++q) (B++p'++q') y y'∧∃vf vt XF XT,h'=rH vf vt A B XF XT:=by
 have hw:=zf9 x [] (by omega) (by simp;omega) 0 0 [] [] [] (by simp;omega);have hw2:=fun vb vf F XB XF hF=>zf8 (zf9 y ([]++q) (by omega) (by simp;omega)) (by simp;omega) vb vf F XB XF hF;have Hr:=fun o1 (h1:o1.length=p.length)=>zF7 (y:=y) (q:=q) (A:=A++p) (B:=B++o1) (fun o2 h2=>Hy o1 o2 h1 h2) (by simp[hAB,h1]) (by simp;omega) hq (by omega);have hQe:∃Q:Int→Prop,Q=aU y:=⟨_,rfl⟩;obtain⟨Q,hQ⟩:=hQe;have hce:∃c:Nat,c=stn y:=⟨_,rfl⟩;obtain⟨Qc,hQc⟩:=hce;have hPe:∃P:Int→Prop,P=aU x:=⟨_,rfl⟩;obtain⟨P,hP⟩:=hPe;have hde:∃c:Nat,c=stn x:=⟨_,rfl⟩;obtain⟨Pc,hPc⟩:=hde;have hRe:∃R:List Int→Stx→Prop,R=fun out x'=>bG (A++p) (B++out) x x':=⟨_,rfl⟩;obtain⟨R,hR⟩:=hRe;have hSe:∃S:List Int→List Int→Stx→Prop,S=fun o1 o2 y'=>eM (A++p) (B++o1) q o2 (aU y)∧bG (A++p++q) (B++o1++o2) y y':=⟨_,rfl⟩;obtain⟨S,hS⟩:=hSe;have H1:∀out,out.length=p.length→∀(vf vt:Nat) (XF XT:List (List D)),VC kd5 150 [.one (.ptr 0 0),stW x] (rH vf vt (A++p) (B++out) XF XT) fun r h'=>∃x',r=stW x'∧R out x'∧∃vf vt XF XT,h'=rH vf vt (A++p) (B++out) XF XT:=by rw[hR];exact Hx
 have H2:∀o1,o1.length=p.length→∀(vf vt:Nat) (XF XT:List (List D)),VC kd5 103 [.one (.ptr 0 0),abW q y] (rH vf vt (A++p) (B++o1) XF XT) fun r h'=>∃q' y',r=abW q' y'∧S o1 q' y'∧∃vf vt XF XT,h'=rH vf vt (A++p) (B++o1) XF XT:=by
  rw[hS];intro o1 h1 vf vt XF XT;refine(Hr o1 h1 vf vt XF XT).mono ?_;rintro r h' ⟨q',y',a,b,c,d⟩;exact⟨q',y',a,⟨b,c⟩,d⟩
 suffices hs:VC kd5 202 [.one (.ptr 0 0),.agg (.d (.sl (nums p))::(aA x).map .d++.d (.sl (nums q))::(aA y).map .d)] (rH vf vt A B XF XT) fun r h'=>∃p' x' q' y',r = .agg (.d (.sl (nums p'))::(aA x').map .d++.d (.sl (nums q'))::(aA y').map .d)∧
   eM A B p p' (fun n=>P n∨(n∉q∧Q n))∧R p' x'∧S p' q' y'∧∃vf vt XF XT,h'=rH vf vt A B XF XT by
  rw[hQ,hP,hR,hS]at hs;refine hs.mono ?_;rintro r h' ⟨p',x',q',y',a,b,c,⟨d,e⟩,f⟩;exact⟨p',x',q',y',a,b,c,d,e,f⟩
 rw[←hP,←hPc]at hw;simp only[←hQ,←hQc]at hw2;rw[←hQc,←hPc]at hxy;clear hR hS hQ hQc hP hPc Hx Hy Hr;obtain⟨x1,x2,x3,x4,x5⟩:=x;obtain⟨y1,y2,y3,y4,y5⟩:=y;simp only[stW,aA,ke5,ke8,kH,nums,ke8,kg0,ki0]at hw;simp only[stW,aA,ke5,ke8,rH]at H1;simp only[abW,aA,ke5,ke8,rH]at H2;simp only[abW,aA,ke5,ke8,kH,kg0]at hw2;have hu:=fun ins (hi:ins.length<10000000)=>j01 (g:=253) (.sl (nums p)) (.sl (x1.map aD)) (.sl (x2.map aE)) (.sl (ke3 x3)) (.sl (ke2 x4)) (.sl (ke4 x5)) (.sl (nums q)) (.sl (y1.map aD)) (.sl (y2.map aE)) (.sl (ke3 y3)) (.sl (ke2 y4)) (.sl (ke4 y5)) A B p ins (fun out z0 z1 z2 z3 z4 z5 z6 z7 z8 z9 z10 z11=>∃x' q' y',R out x'∧S out q' y'∧D.sl (nums out)=z0∧[z1,z2,z3,z4,z5]=aA x'∧z6 = .sl (nums q')∧[z7,z8,z9,z10,z11]=aA y') hAB (by omega) hp hi (fun out hb vf vt XF XT=>by
  have h1:=H1 out hb.1 vf vt XF XT;have h2:=H2 out hb.1;simp only[rB];refine aS aR jI6 (by simp) ?_;show vwp kd5 7 zz1 _ [(0,.one (.d (.sl (nums out)))),(1,.one (.ptr 4 0)),(2,.one (.ptr 5 0)),(3,.one (.ptr 6 0))] [.box [.own 1 vf (A++p).length,.own 2 vt (B++out).length,.fn 99 [.ptr 3 0]],.arr false 1 vf (nums (A++p)++XF),.arr false 1 vt (nums (B++out)++XT),.box [.ptr 0 0],.box [.ptr 0 0],.box [.d (.sl (nums p)),.d (.sl (x1.map aD)),.d (.sl (x2.map aE)),.d (.sl (ke3 x3)),.d (.sl (ke2 x4)),.d (.sl (ke4 x5)),.d (.sl (nums q)),.d (.sl (y1.map aD)),.d (.sl (y2.map aE)),.d (.sl (ke3 y3)),.d (.sl (ke2 y4)),.d (.sl (ke4 y5))],.box [.nils,.nils,.nils,.nils,.nils,.nils,.nils,.nils,.nils,.nils,.nils,.nils]];conv in zz1=>cbv
  rw[aO];simp -implicitDefEqProofs only[oS.d,J1,J2,J5,J6,↓reduceIte,reduceCtorEq];refine bI [0,1,2,3] h1 rfl rfl rfl ?_;rintro _ _ ⟨⟨m1,m2,m3,m4,m5⟩,rfl,k2,v3,v4,X3,X4,rfl⟩;refine⟨_,_,rfl,?_⟩;simp only[];simp -implicitDefEqProofs only[oS.d,J1,J2,J5,J6,↓reduceIte,reduceCtorEq];refine bI [0,1,2,3] (h2 v3 v4 X3 X4) rfl rfl rfl ?_;rintro _ _ ⟨qq,⟨n1,n2,n3,n4,n5⟩,rfl,k3,v5,v6,X5,X6,rfl⟩;refine⟨_,_,rfl,?_⟩;simp only[];simp -implicitDefEqProofs only[oS.d,J2,J5,J6,↓reduceIte];apply aI [0,1,2,3,4,5,6];rfl;rfl;exact⟨rfl,v5,v6,X5,X6,_,_,_,_,_,_,_,_,_,_,_,_,rfl,_,_,_,k2,k3,rfl,rfl,rfl,rfl⟩) vf vt XF XT
 simp only[rB]at hu;simp only[aA,ke5,ke8,kg6,kh0,rH];refine aS aR jF9 (by simp) ?_;show vwp kd5 4 zw6 _ [(0,.one (.ptr 0 0)),(1,.agg [.d (.sl (nums p)),.d (.sl (x1.map aD)),.d (.sl (x2.map aE)),.d (.sl (ke3 x3)),.d (.sl (ke2 x4)),.d (.sl (ke4 x5)),.d (.sl (nums q)),.d (.sl (y1.map aD)),.d (.sl (y2.map aE)),.d (.sl (ke3 y3)),.d (.sl (ke2 y4)),.d (.sl (ke4 y5))])] [.box [.own 1 vf A.length,.own 2 vt B.length,.fn 99 [.ptr 3 0]],.arr false 1 vf (nums A++XF),.arr false 1 vt (nums B++XT),.box [.ptr 0 0]];conv in zw6=>cbv
 rw[aO];simp -implicitDefEqProofs only[oS.d,J1,J2,J5,J6,↓reduceIte,reduceCtorEq];refine mF [(7,0,1),(7,1,1)] _ [.box [.own 1 vf A.length,.own 2 vt B.length,.fn 99 [.ptr 3 0]],.arr false 1 vf (nums A++XF),.arr false 1 vt (nums B++XT),.box [.ptr 0 0],.box [.ptr 0 0],.box [.d (.sl (nums p)),.d (.sl (x1.map aD)),.d (.sl (x2.map aE)),.d (.sl (ke3 x3)),.d (.sl (ke2 x4)),.d (.sl (ke4 x5)),.d (.sl (nums q)),.d (.sl (y1.map aD)),.d (.sl (y2.map aE)),.d (.sl (ke3 y3)),.d (.sl (ke2 y4)),.d (.sl (ke4 y5))],.box [.nils,.nils,.nils,.nils,.nils,.nils,.nils,.nils,.nils,.nils,.nils,.nils],.box [.own 8 0 0,.own 9 0 0],.arr false 1 0 [],.arr false 1 0 []] [7,8,9] rfl (kc4 _) (kb5 _) hw rfl rfl rfl ?_;rintro _ _ ⟨rfl,vb,XB,w1,F1,Y1,rfl,hF1,hl1⟩;have hl1:=hl1.1;simp only[kH];refine⟨_,_,rfl,?_⟩;simp only[kg0]at hl1;simp -implicitDefEqProofs only[oS.d,J1,J2,J5,J6,↓reduceIte,reduceCtorEq];refine bI [7,8,9] (hw2 vb w1 F1 XB Y1 (by omega)) rfl rfl rfl ?_;rintro _ _ ⟨rfl,vb2,XB2,w2,F2,Y2,rfl,hF2,hl2⟩;have hl2:=hl2.1;simp only[kH];refine⟨_,_,rfl,?_⟩;have htk:=oM F2 Y2;have hfe:(fun n=>n∈F2)=fun n=>P n∨(n∉q∧Q n):=funext fun n=>propext (by rw[hF2,hF1];simp[and_comm]);have hl3:F2.length<10000000:=by omega
 simp -implicitDefEqProofs only[oS.d,J1,J2,J5,J6,↓reduceIte,reduceCtorEq];refine bI [0,1,2,3,4,5,6] (hu F2 hl3) rfl (by simp[cL,bM,bO,idx,aJ,kg3,htk]) rfl ?_;rintro _ _ ⟨rfl,out,v3,v4,X3,X4,z0,z1,z2,z3,z4,z5,z6,z7,z8,z9,z10,z11,rfl,hb,⟨m1,m2,m3,m4,m5⟩,qq,⟨n1,n2,n3,n4,n5⟩,k2,k3,rfl,hz,rfl,hz2⟩;simp only[aA,List.cons.injEq,and_true]at hz hz2;obtain⟨rfl,rfl,rfl,rfl,rfl⟩:=hz;obtain⟨rfl,rfl,rfl,rfl,rfl⟩:=hz2;refine⟨_,_,rfl,?_⟩;simp -implicitDefEqProofs only[oS.d,J1,J2,J3,J6,↓reduceIte,reduceCtorEq];apply aI [0,1,2,3]
 ·simp only[cX,eH,kk6,cond_true,cond_false,sJ,cI,kf9,kf5,mkV,kj7,kf6,kg0,kg8,kf2,if_true,ki2,kj3];rfl
 ·first|rfl|(simp[fin,bK,bB,bR,bM,dG,bO,idx,cM,aJ,cL,bH,kg3];first|exact⟨rfl,rfl⟩|exact⟨rfl,rfl,rfl⟩)
 exact⟨out,⟨m1,m2,m3,m4,m5⟩,qq,⟨n1,n2,n3,n4,n5⟩,rfl,hfe▸hb,k2,k3,v3,v4,X3,X4,rfl⟩
end Go.Vt.Tryz
