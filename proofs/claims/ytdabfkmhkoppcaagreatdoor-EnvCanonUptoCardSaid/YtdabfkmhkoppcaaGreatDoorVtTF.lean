import Derived.Test.YtdabfkmhkoppcaaGreatDoorVtTD
import Derived.Test.YtdabfkmhkoppcaaGreatDoorVtMb
import Derived.Test.YtdabfkmhkoppcaaGreatDoorVtTA
import Derived.Test.YtdabfkmhkoppcaaGreatDoorVtQ3
import Derived.Test.YtdabfkmhkoppcaaGreatDoorVtX11
import Derived.Test.YtdabfkmhkoppcaaGreatDoorVtD13
import Derived.Test.YtdabfkmhkoppcaaGreatDoorVtEnvE
set_option linter.all false
set_option maxHeartbeats 8000000
set_option maxRecDepth 100000
open Int renaming natCast_nonneg→kq2,toNat_natCast→kq4
open List renaming append_nil→ku3,cons_append→kr0,getElem?_map→ks1,length_eq_zero_iff→ku2,length_map→kr8,map_cons→kq1,map_nil→kq5,mem_of_getElem?→kq0,nil_append→kr2,range→kt4,take_add_one→kw0,take_length→kv2,take_of_length_le→kq6
open Nat renaming le_refl→ks0,lt_or_ge→ks3,zero_le→kt1
open Go.Proofs.Tryz renaming prog→kp8
open Go.Vt.aA renaming funs→kq8,sigs→kq9,subs→kq7
open Go.Vt.aF renaming encs→ks8
open Go.Vt renaming dL→J0,mkV→J1
open Nat renaming reduceBEq→J2,reduceEqDiff→J3,reduceLT→J4,reduceLeDiff→J5,reduceAdd→J6,reduceMul→J7,reduceSub→J8
namespace Go.Vt.Tryz
open Go.Proofs Go.Vt.Al
def sH (p:Bool) (v:Nat) (X:ByteArray) (fr:List Int) (c:List L) (d:Nat):aB:=[.bx (some 222) [wpt p,.own 1 v X.size,.d (.sl (nums fr))],.ar (some 5) false 1 v (cT X),.box [.ptr 0 0],.box c,.box [.d (.int .i64 d)]]
def kk3 (fr:List Int) (x:Stx):Prop:=∀(p:Bool) (v:Nat) (X:ByteArray) (d:Nat),d+2*wSt x<100000000→X.size+(stB fr x d).size≤140737488355328→
 VC kp8 108 [.one (.ptr 0 0),stW x,.one (.d (.int .i64 d))] (wh p v X fr) fun r h'=>r = .tup []∧∃p' v',(p=true→p'=true)∧h'=wh p' v' (X++stB fr x d) fr
theorem zb6 {α:Type} {f:α→ByteArray} {l:List α} {i:Nat} {a:α} (h:l[i]?=some a):(bZ ((l.take i).map f)).size+(f a).size≤(bZ (l.map f)).size:=by
 have h1:=ke8 (f:=f) l (i+1);rw[ji2 h,bM]at h1;exact h1
theorem zb7 {α:Type} {X:ByteArray} {f:α→ByteArray} {l:List α} {i:Nat} {a:α} (h:l[i]?=some a):X++bZ ((l.take i).map f)++f a=X++bZ ((l.take (i+1)).map f):=by rw[ji2 h,uJ]
def sM {α:Type} (X:ByteArray) (f:α→ByteArray) (l:List α):ByteArray:=l.foldl (fun X a=>X++f a) X
theorem mS {α:Type} (f:α→ByteArray):∀(l:List α) (X:ByteArray),sM X f l=X++bZ (l.map f)
 |[],X=>by rw[kq5,bZ,zb2];rfl
 |a::l,X=>by
  show sM (X++f a) f l=_;rw[mS f l,kq1,bZ,uJ]
theorem kk4 (fr:List Int) (hfr:fr.length<1000000000):∀x:Stx,wSt x<10000000→kk3 fr x:=by
 intro x;induction x using Stx.ind with
 |h x1 x2 x3 x4 x5 i3 i4 i5=>
 intro hw p v X d hd hB;have hq:=hw;simp only[wSt,zl9,zm0,zm1]at hw hd;have z1:=eC (f:=iF) (fun m=>by unfold iF;omega) x1;have z2:=eC (f:=iT) (fun m=>by unfold iT;omega) x2;have z3:=eC (f:=nO) (fun m=>by unfold nO;omega) x3;have z4:=eC (f:=nP) (fun m=>by unfold nP;omega) x4;have z5:=eC (f:=nQ) (fun m=>by unfold nQ;omega) x5;have l3:=kJ x3;have l4:=lT x4;have l5:=lU x5;rw[stB,zl5,zl6,zl7]at hB ⊢;simp only[bM]at hB;simp only[stW,aA,kq1,kq5];have key:∀p,VC kp8 108 [.one (.ptr 0 0),.agg [.d (.sl (x1.map aD)),.d (.sl (x2.map aE)),.d (.sl (kq7 x3)),.d (.sl (kq8 x4)),.d (.sl (kq9 x5))],.one (.d (.int .i64 d))] (wh p v X fr) fun r h'=>r = .tup []∧∃p' v',(p=true→p'=true)∧h'=wh p' v' (X++(bZ (x1.map (jK fr d))++bZ (x2.map (kO fr d))++bZ (x3.map (lZ fr d))++bZ (x4.map (mA fr d))++bZ (x5.map (mR fr d)))) fr:=by
  intro p;refine aU mixed z24 (by simp) ?_;show vwp kp8 2 yW _ [(0,.one (.ptr 0 0)),(1,.agg [.d (.sl (x1.map aD)),.d (.sl (x2.map aE)),.d (.sl (kq7 x3)),.d (.sl (kq8 x4)),.d (.sl (kq9 x5))]),(2,.one (.d (.int .i64 d)))] (wh p v X fr);conv in yW=>cbv
  rw[aO];simp only[wh];simp -implicitDefEqProofs only[oS.d,J0,J1,J2,J3,J4,J5,J6,J7,J8,↓reduceIte,reduceCtorEq,kr8,l3,l4,l5];refine bE (α:=Bool×Nat×Nat) (fun s=>[(23,.one (.d (.int .i64 s.2.2))),(22,.one (.d (.int .i64 x1.length))),(21,.one (.d (.sl (x1.map aD)))),(3,.one (.ptr 2 0)),(4,.one (.ptr 3 0)),(5,.one (.ptr 4 0))])
   (fun s=>sH s.1 s.2.1 (X++bZ ((x1.take s.2.2).map (jK fr d))) fr [.d (.sl (x1.map aD)),.d (.sl (x2.map aE)),.d (.sl (kq7 x3)),.d (.sl (kq8 x4)),.d (.sl (kq9 x5))] d)
   (fun s=>s.2.2≤x1.length∧(p=true→s.1=true)) (fun s=>x1.length-s.2.2) (p,v,0)
   (by
    show fG _ _ _ _ (sH p v (X++(⟨#[]⟩:ByteArray)) fr [.d (.sl (x1.map aD)),.d (.sl (x2.map aE)),.d (.sl (kq7 x3)),.d (.sl (kq8 x4)),.d (.sl (kq9 x5))] d);rw[zb2];exact aP [0,1,2,3,4] rfl rfl (by cases p<;>rfl) rfl) ⟨kt1 _,id⟩ ?_
  rintro⟨q,w,i⟩ ⟨hi,hpq⟩;dsimp only at hi hpq ⊢;have hwr:=bQ (a:=i) rfl (by omega);rcases ks3 i x1.length with h5|h5
  ·have hlt:((i:Int)<(x1.length:Int))=True:=by simp;omega
   obtain⟨u,hu⟩:=bK h5;have hmu:=dB (f:=iF) (kq0 hu);have hsz:=zb6 (f:=jK fr d) hu;have hXt:=zb7 (X:=X) (f:=jK fr d) hu;have hXs:(X++bZ ((x1.take i).map (jK fr d))).size+(jK fr d u).size≤140737488355328:=by simp only[bM];omega
   generalize X++bZ ((x1.take i).map (jK fr d))=Xi at hXt hXs ⊢;have hg:(x1.map aD)[i]?=some (aD u):=by rw[ks1,hu];rfl
   have hwu:iF u=1+u.name.size+tyq u.t+aK wCt u.cts:=rfl;have hkq:=nN u.t;have t1:=fun q w=>zP2 q w Xi fr hfr u.t (by omega) (hkq.1 (by omega));have c1:=fun q w s (h:Xi.size+(lnB d s).size≤140737488355328)=>uN q w Xi s fr d (by omega) h;have tsz:=uL fr u.t (hkq.1 (by omega));clear hu hsz;obtain⟨un,ut,uc⟩:=u;simp only at hwu hkq tsz t1;by_cases hc:uc=[]
   ·subst hc;have hln:jK fr d ⟨un,ut,[]⟩=lnB d (ByteArray.mk #[116,121,112,101,32]++un++ByteArray.mk #[32,61,32]++tyB (mkT fr ut)):=by unfold jK zb4;rw[if_pos rfl];rfl
    rw[hln]at hXt hXs;have t2:=t1 q w;have c3:=c1 q w _ hXs;have n1:(ByteArray.mk #[116,121,112,101,32]).size=5:=rfl;have n2:(ByteArray.mk #[32,61,32]).size=3:=rfl;have e1:((ByteArray.mk #[116,121,112,101,32]).size+un.size≤9223372036854775807)=True:=by simp only[eq_iff_iff,iff_true];omega
    have e2:((ByteArray.mk #[116,121,112,101,32]++un).size+(ByteArray.mk #[32,61,32]).size≤9223372036854775807)=True:=by simp only[eq_iff_iff,iff_true,bM];omega
    have e3:((ByteArray.mk #[116,121,112,101,32]++un++ByteArray.mk #[32,61,32]).size+(tyB (mkT fr ut)).size≤9223372036854775807)=True:=by simp only[eq_iff_iff,iff_true,bM];omega
    have c00:(((0:Nat):Int)=0)=True:=by simp
    clear t1 c1 hln hXs;generalize tyB (mkT fr ut)=st at t2 c3 e3 hXt;obtain⟨uk,ui,ul⟩:=ut;simp only[tyV,aF,aD,kq1,kq5,kr0,kr2]at t2 hg;cases q;all_goals
     simp only[wh,wpt,sH]at t2 c3 ⊢;simp -implicitDefEqProofs only[oS.d,J0,J1,J2,J3,J4,J5,J6,J7,J8,↓reduceIte,reduceCtorEq,hlt,hg,kq2,kq4,e1,e2,c00];refine aM [0,1] t2 rfl rfl rfl rfl ?_;simp -implicitDefEqProofs only[oS.d,J0,J1,J2,J3,J4,J5,J6,J7,J8,↓reduceIte,reduceCtorEq,e3];refine aM [0,1] c3 rfl rfl rfl rfl ?_;simp -implicitDefEqProofs only[oS.d,J0,J1,J2,J3,J4,J5,J6,J7,J8,↓reduceIte,reduceCtorEq,hwr];refine⟨(true,w+1,i+1),⟨by dsimp only;omega,fun _=>rfl⟩,by dsimp only;omega,?_⟩;rw[hXt];exact(aP [0,1,2,3,4] rfl rfl rfl rfl)
   ·have hln:jK fr d ⟨un,ut,uc⟩=lnB d (ByteArray.mk #[100,97,116,97,32]++un++ByteArray.mk #[32,61,32]++tyB (mkT fr ut)++ByteArray.mk #[58,32]++pE (uc.map (ctB fr))):=by unfold jK zb4;rw[if_neg hc];rfl
    rw[hln]at hXt hXs;have t2:=t1 q w;have c3:=c1 q w _ hXs;rw[mQ]at hXs;simp only[bM]at hXs;have hjl:(pE (uc.map (ctB fr))).size=(Lib.join ((uc.map (ctB fr)).map (·.data.toList)) zb3.data.toList).length:=by unfold pE;rw[uK]
    have zc:=eC (f:=wCt) (fun c=>by unfold wCt;omega) uc;have cj:=ki1 (uc.map (ctB fr)) zb3 (by rw[kr8];omega) (by omega);have n1:(ByteArray.mk #[100,97,116,97,32]).size=5:=rfl;have n2:(ByteArray.mk #[32,61,32]).size=3:=rfl;have n3:(ByteArray.mk #[58,32]).size=2:=rfl;have e1:((ByteArray.mk #[100,97,116,97,32]).size+un.size≤9223372036854775807)=True:=by simp only[eq_iff_iff,iff_true];omega
    have e2:((ByteArray.mk #[100,97,116,97,32]++un).size+(ByteArray.mk #[32,61,32]).size≤9223372036854775807)=True:=by simp only[eq_iff_iff,iff_true,bM];omega
    have e3:((ByteArray.mk #[100,97,116,97,32]++un++ByteArray.mk #[32,61,32]).size+(tyB (mkT fr ut)).size≤9223372036854775807)=True:=by simp only[eq_iff_iff,iff_true,bM];omega
    have e4:((ByteArray.mk #[100,97,116,97,32]++un++ByteArray.mk #[32,61,32]++tyB (mkT fr ut)).size+(ByteArray.mk #[58,32]).size≤9223372036854775807)=True:=by simp only[eq_iff_iff,iff_true,bM];omega
    have e5:((ByteArray.mk #[100,97,116,97,32]++un++ByteArray.mk #[32,61,32]++tyB (mkT fr ut)++ByteArray.mk #[58,32]).size+(pE (uc.map (ctB fr))).size≤9223372036854775807)=True:=by simp only[eq_iff_iff,iff_true,bM];omega
    have c00:(((uc.length:Nat):Int)=0)=False:=by
     have:uc.length≠0:=fun e=>hc (ku2.1 e);simp only[eq_iff_iff,iff_false];omega
    have tc:=fun(a:Ty) (ha:tyq a<10000000)=>zP2 q w Xi fr hfr a (by have:=(nN a).2;omega) ((nN a).1 (by omega));clear t1 c1 hln hXs hkq;have hjb:(⟨(Lib.join ((uc.map (ctB fr)).map (·.data.toList)) zb3.data.toList).toArray⟩:ByteArray)=pE (uc.map (ctB fr)):=rfl;rw[hjb]at cj;generalize pE (uc.map (ctB fr))=sj at cj e5 c3 hXt;generalize tyB (mkT fr ut)=st at t2 c3 e3 e4 e5 hXt;obtain⟨uk,ui,ul⟩:=ut;simp only[tyV,aF,aD,kq1,kq5,kr0,kr2]at t2 hg;simp only[wh,sH]at t2 tc c3 ⊢;simp -implicitDefEqProofs only[oS.d,J0,J1,J2,J3,J4,J5,J6,J7,J8,↓reduceIte,reduceCtorEq,hlt,hg,kq2,kq4,kr8,c00];refine bE (α:=Nat) (fun k=>[(46,.one (.d (.int .i64 k))),(45,.one (.d (.int .i64 uc.length))),(44,.one (.d (.sl (uc.map bC)))),(8,.one (.own 6 k k)),(7,.one (.ptr 5 0)),(23,.one (.d (.int .i64 i))),(22,.one (.d (.int .i64 x1.length))),(21,.one (.d (.sl (x1.map aD)))),(3,.one (.ptr 2 0)),(4,.one (.ptr 3 0)),(5,.one (.ptr 4 0))])
     (fun k=>[.bx (some 222) [wpt q,.own 1 w Xi.size,.d (.sl (nums fr))],.ar (some 5) false 1 w (cT Xi),.box [.ptr 0 0],.box [.d (.sl (x1.map aD)),.d (.sl (x2.map aE)),.d (.sl (kq7 x3)),.d (.sl (kq8 x4)),.d (.sl (kq9 x5))],.box [.d (.int .i64 d)],.box [.d (.str un),.d (.int .i64 uk),.d (.int .i64 ui),.d (.sl (ks8 ul)),.d (.sl (uc.map bC))],.arr false 1 k (kP ((uc.take k).map (ctB fr)))])
     (fun k=>k≤uc.length) (fun k=>uc.length-k) 0
     (oC [(8,1)] [] [0,1,2,3,4,5,6] rfl rfl rfl rfl (by cases q<;>rfl) rfl) (kt1 _) ?_
    intro k hk;have hwk:=bQ (a:=k) rfl (by omega);have hbl:(kP ((uc.take k).map (ctB fr))).length=k:=by simp only[kP,kr8,List.length_take];omega
    have htk:(kP ((uc.take k).map (ctB fr))).take k=kP ((uc.take k).map (ctB fr)):=kq6 (by omega);rcases ks3 k uc.length with h6|h6
    ·have hlk:((k:Int)<(uc.length:Int))=True:=by simp;omega
     obtain⟨c,hcu⟩:=bK h6;have hmc:=dB (f:=wCt) (kq0 hcu);have hwc:wCt c=1+c.name.size+aK tyq c.args:=rfl;have hgc:(uc.map bC)[k]?=some (bC c):=by rw[ks1,hcu];rfl
     have hrow:kP ((uc.take k).map (ctB fr))++[[.str (ctB fr c)]]=kP ((uc.take (k+1)).map (ctB fr)):=by rw[kw0,hcu];simp[kP]
     have hcap:(k+1)*16≤aV∧k+1≤aV:=by simp[aV];omega
     obtain⟨cn,ca⟩:=c;cases ca with
     |nil=>
      have hcb:ctB fr ⟨cn,[]⟩=cn:=rfl;rw[hcb]at hrow;have g0:(((0:Nat):Int)>0)=False:=by simp
      have g0':((0:Int)<((0:Nat):Int))=False:=by simp
      simp only[bC,ks8]at hgc;simp -implicitDefEqProofs only[oS.d,J0,J1,J2,J3,J4,J5,J6,J7,J8,↓reduceIte,reduceCtorEq,hlk,hgc,kq2,kq4,g0,g0',hcap,htk,hwk];refine⟨k+1,by omega,by omega,?_⟩;rw[hrow];exact(aP [0,1,2,3,4,5,6] rfl rfl (by cases q<;>rfl) rfl)
     |cons a r=>
      have hcb:ctB fr ⟨cn,a::r⟩=cn++(ByteArray.mk #[32,111,102,32]++tyB (mkT fr a)):=rfl;rw[hcb]at hrow;simp only[aK]at hwc;have hka:=nN a;have tca:=tc a (by omega);have tsa:=uL fr a (hka.1 (by omega));have n4:(ByteArray.mk #[32,111,102,32]).size=4:=rfl;have s1:((ByteArray.mk #[32,111,102,32]).size+(tyB (mkT fr a)).size≤9223372036854775807)=True:=by simp only[eq_iff_iff,iff_true];omega
      have s2:(cn.size+(ByteArray.mk #[32,111,102,32]++tyB (mkT fr a)).size≤9223372036854775807)=True:=by simp only[eq_iff_iff,iff_true,bM];omega
      have gp:((0:Int)<(((ks8 r).length+1:Nat):Int))=True:=by simp
      have y0:((0:Int)≤0)=True:=by simp
      have y2:Int.toNat 0=0:=rfl;have y3:(0<(ks8 r).length+1)=True:=by simp
      generalize tyB (mkT fr a)=sa at tca s1 s2 hrow;obtain⟨ak,an,al⟩:=a;simp only[bC,ks8,tyV,aF,kq1,kq5]at hgc tca;simp -implicitDefEqProofs only[oS.d,J0,J1,J2,J3,J4,J5,J6,J7,J8,↓reduceIte,reduceCtorEq,hlk,hgc,kq2,kq4,gp,y0,y2,y3];cases q;all_goals
       simp only[wpt]at tca ⊢;refine aM [0,1] tca rfl rfl rfl rfl ?_;simp -implicitDefEqProofs only[oS.d,J0,J1,J2,J3,J4,J5,J6,J7,J8,↓reduceIte,reduceCtorEq,s1,s2,hcap,htk,hwk];refine⟨k+1,by omega,by omega,?_⟩;rw[hrow];exact(aP [0,1,2,3,4,5,6] rfl rfl rfl rfl)
    ·have hlk:((k:Int)<(uc.length:Int))=False:=by simp;omega
     have hke:k=uc.length:=by omega
     subst hke;rw[kv2]at htk hbl ⊢;simp -implicitDefEqProofs only[oS.d,J0,J1,J2,J3,J4,J5,J6,J7,J8,↓reduceIte,reduceCtorEq,hlk,e1,e2];cases q;all_goals
      simp only[wpt]at t2 c3 ⊢;refine aM [0,1] t2 rfl rfl rfl rfl ?_;simp -implicitDefEqProofs only[oS.d,J0,J1,J2,J3,J4,J5,J6,J7,J8,↓reduceIte,reduceCtorEq,e3,e4];refine bJ [] cj rfl (by simp[cE,bP,bT,idx,htk];rfl) rfl ?_;rintro _ _ ⟨rfl,rfl⟩;refine⟨_,_,rfl,?_⟩;simp -implicitDefEqProofs only[oS.d,J0,J1,J2,J3,J4,J5,J6,J7,J8,↓reduceIte,reduceCtorEq,e5];refine aM [0,1] c3 rfl rfl rfl rfl ?_;simp -implicitDefEqProofs only[oS.d,J0,J1,J2,J3,J4,J5,J6,J7,J8,↓reduceIte,reduceCtorEq,hwr];refine⟨(true,w+1,i+1),⟨by dsimp only;omega,fun _=>rfl⟩,by dsimp only;omega,?_⟩;rw[hXt];exact(aP [0,1,2,3,4] rfl rfl rfl rfl)
  have hlt:((i:Int)<(x1.length:Int))=False:=by simp;omega
  have hie:i=x1.length:=by omega
  subst hie;rw[kv2];obtain⟨X1,hX1⟩:∃X1,X1=X++bZ (x1.map (jK fr d)):=⟨_,rfl⟩;have hs1:X1.size=X.size+(bZ (x1.map (jK fr d))).size:=by rw[hX1,bM]
  rw[←hX1];simp only[sH];simp -implicitDefEqProofs only[oS.d,J0,J1,J2,J3,J4,J5,J6,J7,J8,↓reduceIte,reduceCtorEq,hlt,kr8];clear hlt hi h5 hwr;refine bE (α:=Bool×Nat×Nat) (fun s=>[(90,.one (.d (.int .i64 s.2.2))),(89,.one (.d (.int .i64 x2.length))),(88,.one (.d (.sl (x2.map aE)))),(3,.one (.ptr 2 0)),(4,.one (.ptr 3 0)),(5,.one (.ptr 4 0))])
   (fun s=>sH s.1 s.2.1 (X1++bZ ((x2.take s.2.2).map (kO fr d))) fr [.d (.sl (x1.map aD)),.d (.sl (x2.map aE)),.d (.sl (kq7 x3)),.d (.sl (kq8 x4)),.d (.sl (kq9 x5))] d)
   (fun s=>s.2.2≤x2.length∧(p=true→s.1=true)) (fun s=>x2.length-s.2.2) (q,w,0)
   (by
    show fG _ _ _ _ (sH q w (X1++(⟨#[]⟩:ByteArray)) fr [.d (.sl (x1.map aD)),.d (.sl (x2.map aE)),.d (.sl (kq7 x3)),.d (.sl (kq8 x4)),.d (.sl (kq9 x5))] d);rw[zb2];exact aP [0,1,2,3,4] rfl rfl (by cases q<;>rfl) rfl) ⟨kt1 _,hpq⟩ ?_
  clear hpq;rintro⟨q,w,i⟩ ⟨hi,hpq⟩;dsimp only at hi hpq ⊢;have hwr:=bQ (a:=i) rfl (by omega);rcases ks3 i x2.length with h5|h5
  ·have hlt:((i:Int)<(x2.length:Int))=True:=by simp;omega
   obtain⟨u,hu⟩:=bK h5;have hmu:=dB (f:=iT) (kq0 hu);have hsz:=zb6 (f:=kO fr d) hu;have hXt:=zb7 (X:=X1) (f:=kO fr d) hu;have hXs:(X1++bZ ((x2.take i).map (kO fr d))).size+(kO fr d u).size≤140737488355328:=by simp only[bM];omega
   generalize X1++bZ ((x2.take i).map (kO fr d))=Xi at hXt hXs ⊢;have hg:(x2.map aE)[i]?=some (aE u):=by rw[ks1,hu];rfl
   have hwu:iT u=1+u.name.size+tyq u.s.t:=rfl;have hkq:=nN u.s.t;have t1:=zP2 q w Xi fr hfr u.s.t (by omega) (hkq.1 (by omega));have tsz:=uL fr u.s.t (hkq.1 (by omega));obtain⟨un,⟨ug,ut⟩⟩:=u;simp only at hwu hkq tsz t1;have hln:kO fr d ⟨un,⟨ug,ut⟩⟩=lnB d (ByteArray.mk #[118,97,108,32]++un++ByteArray.mk #[58,32]++tyB (mkT fr ut)):=rfl;rw[hln]at hXt hXs;have c3:=uN q w Xi _ fr d (by omega) hXs;have n1:(ByteArray.mk #[118,97,108,32]).size=4:=rfl;have n2:(ByteArray.mk #[58,32]).size=2:=rfl;have e1:((ByteArray.mk #[118,97,108,32]).size+un.size≤9223372036854775807)=True:=by simp only[eq_iff_iff,iff_true];omega
   have e2:((ByteArray.mk #[118,97,108,32]++un).size+(ByteArray.mk #[58,32]).size≤9223372036854775807)=True:=by simp only[eq_iff_iff,iff_true,bM];omega
   have e3:((ByteArray.mk #[118,97,108,32]++un++ByteArray.mk #[58,32]).size+(tyB (mkT fr ut)).size≤9223372036854775807)=True:=by simp only[eq_iff_iff,iff_true,bM];omega
   clear hu hsz hln hXs;generalize tyB (mkT fr ut)=st at t1 c3 e3 hXt;obtain⟨uk,ui,ul⟩:=ut;simp only[tyV,aF,aE,cZ,kq1,kq5,kr0,kr2]at t1 hg;cases q;all_goals
    simp only[wh,wpt,sH]at t1 c3 ⊢;simp -implicitDefEqProofs only[oS.d,J0,J1,J2,J3,J4,J5,J6,J7,J8,↓reduceIte,reduceCtorEq,hlt,hg,kq2,kq4,e1,e2];refine aM [0,1] t1 rfl rfl rfl rfl ?_;simp -implicitDefEqProofs only[oS.d,J0,J1,J2,J3,J4,J5,J6,J7,J8,↓reduceIte,reduceCtorEq,e3];refine aM [0,1] c3 rfl rfl rfl rfl ?_;simp -implicitDefEqProofs only[oS.d,J0,J1,J2,J3,J4,J5,J6,J7,J8,↓reduceIte,reduceCtorEq,hwr];refine⟨(true,w+1,i+1),⟨by dsimp only;omega,fun _=>rfl⟩,by dsimp only;omega,?_⟩;rw[hXt];exact(aP [0,1,2,3,4] rfl rfl rfl rfl)
  have hlt:((i:Int)<(x2.length:Int))=False:=by simp;omega
  have hie:i=x2.length:=by omega
  subst hie;rw[kv2];obtain⟨X2,hX2⟩:∃X2,X2=X1++bZ (x2.map (kO fr d)):=⟨_,rfl⟩;have hs2:X2.size=X1.size+(bZ (x2.map (kO fr d))).size:=by rw[hX2,bM]
  rw[←hX2];simp only[sH];simp -implicitDefEqProofs only[oS.d,J0,J1,J2,J3,J4,J5,J6,J7,J8,↓reduceIte,reduceCtorEq,hlt];clear hlt hi h5 hwr;refine aM [] (zj2 x1 x2 x3 x4 x5) rfl rfl rfl rfl ?_;simp -implicitDefEqProofs only[oS.d,J0,J1,J2,J3,J4,J5,J6,J7,J8,↓reduceIte,reduceCtorEq];show vwp _ _ _ _ _ _;refine⟨229,[.ptr 5 0],20,_,rfl,rfl,zi9,by decide,?_⟩;have hwd1:IntKind.i64.wrap ((d:Int)+1)=((d+1:Nat):Int):=bQ (a:=d) rfl (by omega);have hwd2:IntKind.i64.wrap ((d:Int)+2)=((d+2:Nat):Int):=by rw[uM ⟨by omega,by omega⟩];omega
  refine zK4 (α:=Bool×Nat×Nat) (N:=6) (by omega) (fun s=>sH s.1 s.2.1 (sM X2 (lZ fr d) (x3.take s.2.2)) fr [.d (.sl (x1.map aD)),.d (.sl (x2.map aE)),.d (.sl (kq7 x3)),.d (.sl (kq8 x4)),.d (.sl (kq9 x5))] d++[.box [.d (.sl (x1.map aD)),.d (.sl (x2.map aE)),.d (.sl (kq7 x3)),.d (.sl (kq8 x4)),.d (.sl (kq9 x5))]])
   (fun i s=>s.2.2=i∧(p=true→s.1=true)) (id:=5) (fun _=>rfl) (show 5<6 by decide) (ks0 6) (fun _=>rfl) (fun s=>by obtain⟨q,w,i⟩:=s;cases q<;>rfl) ?_ ?_ (q,w,0) ⟨rfl,hpq⟩
  ·rintro i x ⟨q,w,i'⟩ hx ⟨hii,hpq⟩ K' hK;dsimp only at hii hpq ⊢;subst hii;refine⟨rfl,?_⟩;rw[aO];have hmu:=dB (f:=nO) (kq0 hx);have hwu:nO x=1+x.1.size+wSt x.2:=rfl;have ih:=i3 x (kq0 hx) (by omega);have hsz:=zb6 (f:=lZ fr d) hx;have hXt:=zb7 (X:=X2) (f:=lZ fr d) hx;have hXs:(X2++bZ ((x3.take i').map (lZ fr d))).size+(lZ fr d x).size≤140737488355328:=by simp only[bM];omega
   rw[←mS,←mS]at hXt;rw[←mS]at hXs;generalize sM X2 (lZ fr d) (x3.take i')=Xi at hXt hXs ⊢;obtain⟨xn,xs⟩:=x;have hln:lZ fr d (xn,xs)=lnB d (ByteArray.mk #[115,116,114,117,99,116,117,114,101,32]++xn)++stB fr xs (d+1):=rfl;rw[hln,←uJ]at hXt;rw[hln,bM]at hXs;simp only at hwu ih;have c3:=uN q w Xi (ByteArray.mk #[115,116,114,117,99,116,117,114,101,32]++xn) fr d (by omega) (by omega);have c4:=ih true (w+1) (Xi++lnB d (ByteArray.mk #[115,116,114,117,99,116,117,114,101,32]++xn)) (d+1) (by omega) (by rw[bM];omega);have n1:(ByteArray.mk #[115,116,114,117,99,116,117,114,101,32]).size=10:=rfl;have e1:((ByteArray.mk #[115,116,114,117,99,116,117,114,101,32]).size+xn.size≤9223372036854775807)=True:=by simp only[eq_iff_iff,iff_true];omega
   clear hx hsz hln hXs ih;generalize lnB d (ByteArray.mk #[115,116,114,117,99,116,117,114,101,32]++xn)=ln at c3 c4 hXt;generalize stB fr xs (d+1)=sx at c4 hXt;obtain⟨u1,u2,u3,u4,u5⟩:=xs;simp only[stW,cA,aA,sH,wh,wpt,kq1,kq5,kr0,kr2]at c3 c4 ⊢;simp -implicitDefEqProofs only[oS.d,J0,J1,J2,J3,J4,J5,J6,J7,J8,↓reduceIte,reduceCtorEq,mG];rw[tX,aO];simp -implicitDefEqProofs only[oS.d,J0,J1,J2,J3,J4,J5,J6,J7,J8,↓reduceIte,reduceCtorEq,e1];refine aM [0,1] c3 rfl rfl (by cases q<;>rfl) rfl ?_;simp -implicitDefEqProofs only[oS.d,J0,J1,J2,J3,J4,J5,J6,J7,J8,↓reduceIte,reduceCtorEq,hwd1];refine bJ [0,1] c4 rfl rfl rfl ?_;rintro _ _ ⟨rfl,q',w',hq',rfl⟩;obtain rfl:=hq' (by trivial);refine⟨_,_,rfl,?_⟩;simp -implicitDefEqProofs only[oS.d,J0,J1,J2,J3,J4,J5,J6,J7,J8,↓reduceIte,reduceCtorEq];rw[hXt];exact hK (true,w',i'+1) [_,_] ⟨rfl,fun _=>rfl⟩
  ·rintro⟨q,w,i⟩ ⟨hii,hpq⟩;dsimp only at hii hpq ⊢;subst hii;rw[kv2,mS];obtain⟨X3,hX3⟩:∃X3,X3=X2++bZ (x3.map (lZ fr d)):=⟨_,rfl⟩;have hs3:X3.size=X2.size+(bZ (x3.map (lZ fr d))).size:=by rw[hX3,bM]
   rw[←hX3];simp only[sH,kr0,kr2];simp -implicitDefEqProofs only[oS.d,J0,J1,J2,J3,J4,J5,J6,J7,J8,↓reduceIte,reduceCtorEq,l4,l5];refine bE (α:=Bool×Nat×Nat) (fun s=>[(125,.one (.d (.int .i64 s.2.2))),(124,.one (.d (.int .i64 x4.length))),(123,.one (.d (.sl (kq8 x4)))),(3,.one (.ptr 2 0)),(4,.one (.ptr 3 0)),(5,.one (.ptr 4 0))])
    (fun s=>sH s.1 s.2.1 (sM X3 (mA fr d) (x4.take s.2.2)) fr [.d (.sl (x1.map aD)),.d (.sl (x2.map aE)),.d (.sl (kq7 x3)),.d (.sl (kq8 x4)),.d (.sl (kq9 x5))] d)
    (fun s=>s.2.2≤x4.length∧(p=true→s.1=true)) (fun s=>x4.length-s.2.2) (q,w,0)
    (aP [0,1,2,3,4] rfl rfl (by cases q<;>rfl) rfl) ⟨kt1 _,hpq⟩ ?_
   clear hpq;rintro⟨q,w,i⟩ ⟨hi,hpq⟩;dsimp only at hi hpq ⊢;have hwr:=bQ (a:=i) rfl (by omega);rcases ks3 i x4.length with h5|h5
   ·have hlt:((i:Int)<(x4.length:Int))=True:=by simp;omega
    obtain⟨u,hu⟩:=bK h5;have hmu:=dB (f:=nP) (kq0 hu);have hwu:nP u=1+u.1.size+wSt u.2.2.1+wSt u.2.2.2.2:=rfl;have ih:=i4 u (kq0 hu);have ihx:=ih.1 (by omega);have ihy:=ih.2 (by omega);have hsz:=zb6 (f:=mA fr d) hu;have hXt:=zb7 (X:=X3) (f:=mA fr d) hu;have hXs:(X3++bZ ((x4.take i).map (mA fr d))).size+(mA fr d u).size≤140737488355328:=by simp only[bM];omega
    have hg:(kq8 x4)[i]?=some (bW u):=by rw[lR,ks1,hu];rfl
    rw[←mS,←mS]at hXt;rw[←mS]at hXs;generalize sM X3 (mA fr d) (x4.take i)=Xi at hXt hXs ⊢;clear ih;obtain⟨xn,xp,xs,xq,xt⟩:=u;have hln:mA fr d (xn,xp,xs,xq,xt)=lnB d (ByteArray.mk #[102,117,110,99,116,111,114,32]++xn)++lnB (d+1) (ByteArray.mk #[102,114,111,109])++stB fr xs (d+2)++lnB (d+1) (ByteArray.mk #[116,111])++stB fr xt (d+2):=rfl;rw[hln]at hXt hXs;simp only[←uJ]at hXt;simp only[bM]at hXs;simp only at hwu ihx ihy;have c3:=uN q w Xi (ByteArray.mk #[102,117,110,99,116,111,114,32]++xn) fr d (by omega) (by omega);have c4:=uN true (w+1) (Xi++lnB d (ByteArray.mk #[102,117,110,99,116,111,114,32]++xn)) (ByteArray.mk #[102,114,111,109]) fr (d+1) (by omega) (by rw[bM];omega);have c5:=ihx true (w+1+1) (Xi++lnB d (ByteArray.mk #[102,117,110,99,116,111,114,32]++xn)++lnB (d+1) (ByteArray.mk #[102,114,111,109])) (d+2) (by omega) (by simp only[bM];omega);have c6:=fun v=>uN true v (Xi++lnB d (ByteArray.mk #[102,117,110,99,116,111,114,32]++xn)++lnB (d+1) (ByteArray.mk #[102,114,111,109])++stB fr xs (d+2)) (ByteArray.mk #[116,111]) fr (d+1) (by omega) (by simp only[bM];omega);have c7:=fun v=>ihy true v (Xi++lnB d (ByteArray.mk #[102,117,110,99,116,111,114,32]++xn)++lnB (d+1) (ByteArray.mk #[102,114,111,109])++stB fr xs (d+2)++lnB (d+1) (ByteArray.mk #[116,111])) (d+2) (by omega) (by simp only[bM];omega);have n1:(ByteArray.mk #[102,117,110,99,116,111,114,32]).size=8:=rfl;have hls:=mQ d (ByteArray.mk #[102,117,110,99,116,111,114,32]++xn);rw[bM]at hls;have e1:((ByteArray.mk #[102,117,110,99,116,111,114,32]).size+xn.size≤9223372036854775807)=True:=by simp only[eq_iff_iff,iff_true];omega
    clear hu hsz hln hXs ihx ihy hls;generalize lnB d (ByteArray.mk #[102,117,110,99,116,111,114,32]++xn)=l1 at c3 c4 c5 c6 c7 hXt;generalize lnB (d+1) (ByteArray.mk #[102,114,111,109])=l2 at c4 c5 c6 c7 hXt;generalize stB fr xs (d+2)=sx at c5 c6 c7 hXt;generalize lnB (d+1) (ByteArray.mk #[116,111])=l3' at c6 c7 hXt;generalize stB fr xt (d+2)=sy at c7 hXt;obtain⟨a1,a2,a3,a4,a5⟩:=xs;obtain⟨b1,b2,b3,b4,b5⟩:=xt;simp only[stW,bW,cU,aA,sH,wh,wpt,kq1,kq5,kr0,kr2]at c3 c4 c5 c6 c7 hg ⊢;simp -implicitDefEqProofs only[oS.d,J0,J1,J2,J3,J4,J5,J6,J7,J8,↓reduceIte,reduceCtorEq,hlt,hg,kq2,kq4,l4,e1];refine aM [0,1] c3 rfl rfl (by cases q<;>rfl) rfl ?_;simp -implicitDefEqProofs only[oS.d,J0,J1,J2,J3,J4,J5,J6,J7,J8,↓reduceIte,reduceCtorEq,hwd1];refine aM [0,1] c4 rfl rfl rfl rfl ?_;simp -implicitDefEqProofs only[oS.d,J0,J1,J2,J3,J4,J5,J6,J7,J8,↓reduceIte,reduceCtorEq,hwd2];refine bJ [0,1] c5 rfl rfl rfl ?_;rintro _ _ ⟨rfl,q',w',hq',rfl⟩;obtain rfl:=hq' (by trivial);refine⟨_,_,rfl,?_⟩;have c6:=c6 w';have c7:=c7 (w'+1);simp -implicitDefEqProofs only[oS.d,J0,J1,J2,J3,J4,J5,J6,J7,J8,↓reduceIte,reduceCtorEq,hwd1];refine aM [0,1] c6 rfl rfl rfl rfl ?_;simp -implicitDefEqProofs only[oS.d,J0,J1,J2,J3,J4,J5,J6,J7,J8,↓reduceIte,reduceCtorEq,hwd2];refine bJ [0,1] c7 rfl rfl rfl ?_;rintro _ _ ⟨rfl,q',w'',hq',rfl⟩;obtain rfl:=hq' (by trivial);refine⟨_,_,rfl,?_⟩;simp -implicitDefEqProofs only[oS.d,J0,J1,J2,J3,J4,J5,J6,J7,J8,↓reduceIte,reduceCtorEq,hwr];refine⟨(true,w'',i+1),⟨by dsimp only;omega,fun _=>rfl⟩,by dsimp only;omega,?_⟩;rw[hXt];exact(aP [0,1,2,3,4] rfl rfl rfl rfl)
   have hlt:((i:Int)<(x4.length:Int))=False:=by simp;omega
   have hie:i=x4.length:=by omega
   subst hie;rw[kv2,mS];obtain⟨X4,hX4⟩:∃X4,X4=X3++bZ (x4.map (mA fr d)):=⟨_,rfl⟩;have hs4:X4.size=X3.size+(bZ (x4.map (mA fr d))).size:=by rw[hX4,bM]
   rw[←hX4];simp only[sH];simp -implicitDefEqProofs only[oS.d,J0,J1,J2,J3,J4,J5,J6,J7,J8,↓reduceIte,reduceCtorEq,hlt,l5];clear hlt hi h5 hwr;refine bE (α:=Bool×Nat×Nat) (fun s=>[(162,.one (.d (.int .i64 s.2.2))),(161,.one (.d (.int .i64 x5.length))),(160,.one (.d (.sl (kq9 x5)))),(3,.one (.ptr 2 0)),(4,.one (.ptr 3 0)),(5,.one (.ptr 4 0))])
    (fun s=>sH s.1 s.2.1 (sM X4 (mR fr d) (x5.take s.2.2)) fr [.d (.sl (x1.map aD)),.d (.sl (x2.map aE)),.d (.sl (kq7 x3)),.d (.sl (kq8 x4)),.d (.sl (kq9 x5))] d)
    (fun s=>s.2.2≤x5.length∧(p=true→s.1=true)) (fun s=>x5.length-s.2.2) (q,w,0)
    (aP [0,1,2,3,4] rfl rfl (by cases q<;>rfl) rfl) ⟨kt1 _,hpq⟩ ?_
   clear hpq;rintro⟨q,w,i⟩ ⟨hi,hpq⟩;dsimp only at hi hpq ⊢;have hwr:=bQ (a:=i) rfl (by omega);rcases ks3 i x5.length with h5|h5
   ·have hlt:((i:Int)<(x5.length:Int))=True:=by simp;omega
    obtain⟨u,hu⟩:=bK h5;have hmu:=dB (f:=nQ) (kq0 hu);have hwu:nQ u=1+u.1.size+wSt u.2.2:=rfl;have ih:=i5 u (kq0 hu) (by omega);have hsz:=zb6 (f:=mR fr d) hu;have hXt:=zb7 (X:=X4) (f:=mR fr d) hu;have hXs:(X4++bZ ((x5.take i).map (mR fr d))).size+(mR fr d u).size≤140737488355328:=by simp only[bM];omega
    have hg:(kq9 x5)[i]?=some (cB u):=by rw[lS,ks1,hu];rfl
    rw[←mS,←mS]at hXt;rw[←mS]at hXs;generalize sM X4 (mR fr d) (x5.take i)=Xi at hXt hXs ⊢;obtain⟨xn,xq,xs⟩:=u;have hln:mR fr d (xn,xq,xs)=lnB d (ByteArray.mk #[115,105,103,110,97,116,117,114,101,32]++xn)++stB fr xs (d+1):=rfl;rw[hln,←uJ]at hXt;rw[hln,bM]at hXs;simp only at hwu ih;have c3:=uN q w Xi (ByteArray.mk #[115,105,103,110,97,116,117,114,101,32]++xn) fr d (by omega) (by omega);have c4:=ih true (w+1) (Xi++lnB d (ByteArray.mk #[115,105,103,110,97,116,117,114,101,32]++xn)) (d+1) (by omega) (by rw[bM];omega);have n1:(ByteArray.mk #[115,105,103,110,97,116,117,114,101,32]).size=10:=rfl;have e1:((ByteArray.mk #[115,105,103,110,97,116,117,114,101,32]).size+xn.size≤9223372036854775807)=True:=by simp only[eq_iff_iff,iff_true];omega
    clear hu hsz hln hXs ih;generalize lnB d (ByteArray.mk #[115,105,103,110,97,116,117,114,101,32]++xn)=ln at c3 c4 hXt;generalize stB fr xs (d+1)=sx at c4 hXt;obtain⟨u1,u2,u3,u4,u5⟩:=xs;simp only[stW,cB,aA,sH,wh,wpt,kq1,kq5,kr0,kr2]at c3 c4 hg ⊢;simp -implicitDefEqProofs only[oS.d,J0,J1,J2,J3,J4,J5,J6,J7,J8,↓reduceIte,reduceCtorEq,hlt,hg,kq2,kq4,l5,e1];refine aM [0,1] c3 rfl rfl (by cases q<;>rfl) rfl ?_;simp -implicitDefEqProofs only[oS.d,J0,J1,J2,J3,J4,J5,J6,J7,J8,↓reduceIte,reduceCtorEq,hwd1];refine bJ [0,1] c4 rfl rfl rfl ?_;rintro _ _ ⟨rfl,q',w',hq',rfl⟩;obtain rfl:=hq' (by trivial);refine⟨_,_,rfl,?_⟩;simp -implicitDefEqProofs only[oS.d,J0,J1,J2,J3,J4,J5,J6,J7,J8,↓reduceIte,reduceCtorEq,hwr];refine⟨(true,w',i+1),⟨by dsimp only;omega,fun _=>rfl⟩,by dsimp only;omega,?_⟩;rw[hXt];exact(aP [0,1,2,3,4] rfl rfl rfl rfl)
   have hlt:((i:Int)<(x5.length:Int))=False:=by simp;omega
   have hie:i=x5.length:=by omega
   subst hie;rw[kv2,mS];simp only[sH];simp -implicitDefEqProofs only[oS.d,J0,J1,J2,J3,J4,J5,J6,J7,J8,↓reduceIte,reduceCtorEq,hlt];refine aH [0,1] rfl (r:=.tup []) (hs:=wh q w (X4++bZ (x5.map (mR fr d))) fr) (by cases q<;>rfl) ⟨rfl,q,w,hpq,?_⟩;rw[hX4,hX3,hX2,hX1];simp only[uJ]
 exact key p
theorem zb8 {α:Type} {f:α→ByteArray} (hf:∀a,0<(f a).size):∀{l:List α},(bZ (l.map f)).size=0→l=[]
 |[],_=>rfl
 |a::l,h=>by
  rw[kq1,bZ,bM]at h;have:=hf a;omega
theorem kk5 {fr:List Int} {x:Stx} {d:Nat} (h:(stB fr x d).size=0):x = .mk [] [] [] [] []:=by
 obtain⟨a,b,c,e,f⟩:=x;rw[stB,zl5,zl6,zl7]at h;simp only[bM]at h;have h1:=zb8 (f:=jK fr d) (l:=a) (fun m=>by unfold jK;rw[mQ];omega) (by omega);have h2:=zb8 (f:=kO fr d) (l:=b) (fun m=>by unfold kO;rw[mQ];omega) (by omega);have h3:=zb8 (f:=lZ fr d) (l:=c) (fun m=>by unfold lZ;rw[bM,mQ];omega) (by omega);have h4:=zb8 (f:=mA fr d) (l:=e) (fun m=>by unfold mA;simp only[bM,mQ];omega) (by omega);have h5:=zb8 (f:=mR fr d) (l:=f) (fun m=>by unfold mR;rw[bM,mQ];omega) (by omega);rw[h1,h2,h3,h4,h5]
theorem kk6 (fr:List Int):VC kp8 108 [.one (.ptr 0 0),stW (.mk [] [] [] [] []),.one (.d (.int .i64 0))] [.bx (some 222) [.d .nilp,.nils,.d (.sl (nums fr))]] fun r h'=>r = .tup []∧h'=[.bx (some 222) [.d .nilp,.nils,.d (.sl (nums fr))]]:=by
 simp only[stW,aA,kq7,kq8,kq9,kq1,kq5];have h00:((0:Int)<0)=False:=by simp
 have h01:(((0:Nat):Int)<((0:Nat):Int))=False:=by simp
 have h02:((0:Nat):Int)=0:=rfl;refine aU mixed z24 (by simp) ?_;show vwp kp8 1 yW _ [(0,.one (.ptr 0 0)),(1,.agg [.d (.sl []),.d (.sl []),.d (.sl []),.d (.sl []),.d (.sl [])]),(2,.one (.d (.int .i64 0)))] [.bx (some 222) [.d .nilp,.nils,.d (.sl (nums fr))]];conv in yW=>cbv
 rw[aO];simp -implicitDefEqProofs only[oS.d,J0,J1,J2,J3,J4,J5,J6,J7,J8,↓reduceIte,reduceCtorEq,h02];refine bE (α:=Unit) (fun _=>[(23,.one (.d (.int .i64 0))),(22,.one (.d (.int .i64 0))),(3,.one (.ptr 1 0)),(4,.one (.ptr 2 0)),(5,.one (.ptr 3 0))]) (fun _=>[.bx (some 222) [.d .nilp,.nils,.d (.sl (nums fr))],.box [.ptr 0 0],.box [.d (.sl []),.d (.sl []),.d (.sl []),.d (.sl []),.d (.sl [])],.box [.d (.int .i64 0)]]) (fun _=>True) (fun _=>0) ()
  (aP [0,1,2,3] rfl rfl rfl rfl) trivial ?_
 intro _ _;simp -implicitDefEqProofs only[oS.d,J0,J1,J2,J3,J4,J5,J6,J7,J8,↓reduceIte,reduceCtorEq,h00,h02];refine bE (α:=Unit) (fun _=>[(90,.one (.d (.int .i64 0))),(89,.one (.d (.int .i64 0))),(3,.one (.ptr 1 0)),(4,.one (.ptr 2 0)),(5,.one (.ptr 3 0))]) (fun _=>[.bx (some 222) [.d .nilp,.nils,.d (.sl (nums fr))],.box [.ptr 0 0],.box [.d (.sl []),.d (.sl []),.d (.sl []),.d (.sl []),.d (.sl [])],.box [.d (.int .i64 0)]]) (fun _=>True) (fun _=>0) ()
  (aP [0,1,2,3] rfl rfl rfl rfl) trivial ?_
 intro _ _;simp -implicitDefEqProofs only[oS.d,J0,J1,J2,J3,J4,J5,J6,J7,J8,↓reduceIte,reduceCtorEq,h00,h02];have cm:=zj2 [] [] [] [] [];simp only[stW,aA,kq7,kq8,kq9,kq1,kq5]at cm;refine aM [] cm rfl rfl rfl rfl ?_;simp -implicitDefEqProofs only[oS.d,J0,J1,J2,J3,J4,J5,J6,J7,J8,↓reduceIte,reduceCtorEq];show vwp _ _ _ _ _ _;refine⟨229,[.ptr 4 0],20,_,rfl,rfl,zi9,by decide,?_⟩;refine zK4 (α:=Unit) (N:=5) (x3:=[]) (by simp) (fun _=>[.bx (some 222) [.d .nilp,.nils,.d (.sl (nums fr))],.box [.ptr 0 0],.box [.d (.sl []),.d (.sl []),.d (.sl []),.d (.sl []),.d (.sl [])],.box [.d (.int .i64 0)],.box [.d (.sl []),.d (.sl []),.d (.sl []),.d (.sl []),.d (.sl [])]])
  (fun _ _=>True) (id:=4) (fun _=>rfl) (show 4<5 by decide) (ks0 5) (fun _=>rfl) (fun _=>rfl) ?_ ?_ () trivial
 ·rintro i x _ hx;simp at hx
 ·intro _ _;simp -implicitDefEqProofs only[oS.d,J0,J1,J2,J3,J4,J5,J6,J7,J8,↓reduceIte,reduceCtorEq,h02];refine bE (α:=Unit) (fun _=>[(125,.one (.d (.int .i64 0))),(124,.one (.d (.int .i64 0))),(3,.one (.ptr 1 0)),(4,.one (.ptr 2 0)),(5,.one (.ptr 3 0))]) (fun _=>[.bx (some 222) [.d .nilp,.nils,.d (.sl (nums fr))],.box [.ptr 0 0],.box [.d (.sl []),.d (.sl []),.d (.sl []),.d (.sl []),.d (.sl [])],.box [.d (.int .i64 0)]]) (fun _=>True) (fun _=>0) ()
   (aP [0,1,2,3] rfl rfl rfl rfl) trivial ?_
  intro _ _;simp -implicitDefEqProofs only[oS.d,J0,J1,J2,J3,J4,J5,J6,J7,J8,↓reduceIte,reduceCtorEq,h00,h02];refine bE (α:=Unit) (fun _=>[(162,.one (.d (.int .i64 0))),(161,.one (.d (.int .i64 0))),(3,.one (.ptr 1 0)),(4,.one (.ptr 2 0)),(5,.one (.ptr 3 0))]) (fun _=>[.bx (some 222) [.d .nilp,.nils,.d (.sl (nums fr))],.box [.ptr 0 0],.box [.d (.sl []),.d (.sl []),.d (.sl []),.d (.sl []),.d (.sl [])],.box [.d (.int .i64 0)]]) (fun _=>True) (fun _=>0) ()
   (aP [0,1,2,3] rfl rfl rfl rfl) trivial ?_
  intro _ _;simp -implicitDefEqProofs only[oS.d,J0,J1,J2,J3,J4,J5,J6,J7,J8,↓reduceIte,reduceCtorEq,h00,h02];apply aH [0];rfl;rfl;exact⟨rfl,rfl⟩
theorem kk7 (fr:List Int) (hfr:fr.length<1000000000) (x:Stx) (hw:wSt x<10000000) (hs:(stB fr x 0).size≤140737488355328) :
  VC kp8 108 [.one (.ptr 0 0),stW x,.one (.d (.int .i64 (0:Nat)))] [.bx (some 222) [.d .nilp,.nils,.d (.sl (nums fr))]] fun r h'=>r = .tup []∧∃p v,h'=wh p v (stB fr x 0) fr:=by
 have c:=kk4 fr hfr x hw false 0 ⟨#[]⟩ 0 (by omega) (by show 0+_≤_;omega);refine VC.frame (h2:=wh false 0 ⟨#[]⟩ fr) (fun w μ H=>?_) c.1 ?_
 ·exact kh2 (id:=0) (k:=1) (sz:=1) (T:=5) H rfl rfl
 ·obtain⟨a,b,d,e,f⟩:=x;refine⟨[0,1],_,_,_,rfl,rfl,rfl,c,?_⟩;rintro _ _ ⟨rfl,p,v,_,rfl⟩;rw[ji1];cases p
  ·exact⟨_,_,rfl,rfl,false,v,rfl⟩
  ·exact⟨_,_,rfl,rfl,true,v,rfl⟩
theorem kk8 {y:Stx} (fr:List Int) (h:wSt y<2000000):(stB fr y 0).size≤100000000000000:=by
 have h2:=kf8 fr 4000000 y (by omega) 0 (by omega);refine Nat.le_trans h2 ?_;have:wSt y*(8*4000000+300)≤2000000*(8*4000000+300):=Nat.mul_le_mul (by omega) (ks0 _);omega
def txF (c:List Int×Stx):ByteArray:=stB (bX c) c.2 0
theorem jk7 (ls:List L):kC kp8 222 ls = .bx (some 222) ls:=by unfold kC;rw[zZ9]
theorem kk9 (fr:List Int):VC kp8 109 [.one (.ptr 0 0)] [.bx (some 222) [.d .nilp,.nils,.d (.sl (nums fr))]] fun r h'=>r = .one (.d (.str ⟨#[]⟩))∧h'=[.bx (some 222) [.d .nilp,.nils,.d (.sl (nums fr))]]:=by
 refine aU mixed z26 (by simp) ?_;show vwp kp8 1 yX _ [(0,.one (.ptr 0 0))] [.bx (some 222) [.d .nilp,.nils,.d (.sl (nums fr))]];conv in yX=>cbv
 rw[aO];simp -implicitDefEqProofs only[oS.d,J0,J1,J2,J3,J4,J5,J6,J7,J8,↓reduceIte,reduceCtorEq];rw[jk0 rfl (l':=.d .nilp) rfl];simp -implicitDefEqProofs only[oS.d,J0,J1,J2,J3,J4,J5,J6,J7,J8,↓reduceIte,reduceCtorEq];rw[jk1 rfl rfl (v:=.one (.d (.str ⟨#[]⟩))) rfl];simp -implicitDefEqProofs only[oS.d,J0,J1,J2,J3,J4,J5,J6,J7,J8,↓reduceIte,reduceCtorEq];apply aH [0];rfl;rfl;exact⟨rfl,rfl⟩
theorem jk8 (l:List Int) (s:Stx) (hl:l.length<10000000) (hs:stn s<10000000) (hw:wSt (cG ltN (l,s)).2<2000000) :
  VC kp8 35 [abW l s] [] fun r h'=>r = .one (.d (.str (txF (cG ltN (l,s)))))∧h'=[]:=by
 have c1:=zb0 l s hl hs;have b1:=zJ5 (tk:=bX (l,s)) (sb:=id) (l,bH ltN s) w0 rfl;have b2:=zJ4 (tk:=bX (l,s)) (sb:=id) (bH ltN s) ([]++l) (aQ l.length w0) (by simp[aQ,w0]);rw[zP]at b2;have b3:(cG ltN (l,s)).1.length≤l.length:=b1;have b4:stn (cG ltN (l,s)).2≤stn s:=b2;have b6:=kk8 (bX (cG ltN (l,s))) hw;generalize cG ltN (l,s)=c at c1 b3 b4 hw b6 ⊢;obtain⟨q,y⟩:=c;simp only at c1 b3 b4 hw b6;have c2:=wR q y (by omega) (by omega);have hf:=(uF (tk:=[]) (sb:=id) (q,y) (by show stn y<_;omega) (by simp)).2;have hfl:(bX (q,y)).length≤stn y:=hf;unfold txF;simp only;generalize bX (q,y)=fr at c2 hfl b6 ⊢;rcases Nat.eq_zero_or_pos (stB fr y 0).size with h0|h0
 ·have hy:=kk5 h0;subst hy;have c3:=kk6 fr;have hz:stB fr (.mk [] [] [] [] []) 0=⟨#[]⟩:=by
   rw[kf4];simp only[Stx.types,Stx.vals,Stx.subs,Stx.funs,Stx.sigs,kq5,bZ,zb2]
  rw[hz];obtain⟨s1,s2,s3,s4,s5⟩:=s;simp only[abW,stW,aA,kq7,kq8,kq9,kq1,kq5]at c1 c2 c3 ⊢;refine aU mixed z17 (by simp) ?_;show vwp kp8 0 yU _ [(0,.agg [.d (.sl (nums l)),.d (.sl (s1.map aD)),.d (.sl (s2.map aE)),.d (.sl (kq7 s3)),.d (.sl (kq8 s4)),.d (.sl (kq9 s5))])] [];conv in yU=>cbv
  rw[aO];simp -implicitDefEqProofs only[oS.d,J0,J1,J2,J3,J4,J5,J6,J7,J8,↓reduceIte,reduceCtorEq];refine aM [] c1 rfl rfl rfl rfl ?_;simp -implicitDefEqProofs only[oS.d,J0,J1,J2,J3,J4,J5,J6,J7,J8,↓reduceIte,reduceCtorEq];refine aM [] c2 rfl rfl rfl rfl ?_;simp -implicitDefEqProofs only[oS.d,J0,J1,J2,J3,J4,J5,J6,J7,J8,↓reduceIte,reduceCtorEq,jk7];refine aM [2] c3 rfl rfl rfl rfl ?_;simp -implicitDefEqProofs only[oS.d,J0,J1,J2,J3,J4,J5,J6,J7,J8,↓reduceIte,reduceCtorEq];refine aM [2] (kk9 fr) rfl rfl rfl rfl ?_;simp -implicitDefEqProofs only[oS.d,J0,J1,J2,J3,J4,J5,J6,J7,J8,↓reduceIte,reduceCtorEq];apply aH [];rfl;rfl;exact⟨rfl,rfl⟩
 ·have c3:=kk7 fr (by omega) y (by omega) (by omega);have c4:=fun p v=>kk2 p v (stB fr y 0) fr h0 (by omega);obtain⟨s1,s2,s3,s4,s5⟩:=s;generalize stB fr y 0=Y at c3 c4 ⊢;obtain⟨y1,y2,y3,y4,y5⟩:=y;simp only[abW,stW,aA,kq1,kq5]at c1 c2 c3 ⊢;refine aU mixed z17 (by simp) ?_;show vwp kp8 0 yU _ [(0,.agg [.d (.sl (nums l)),.d (.sl (s1.map aD)),.d (.sl (s2.map aE)),.d (.sl (kq7 s3)),.d (.sl (kq8 s4)),.d (.sl (kq9 s5))])] [];conv in yU=>cbv
  rw[aO];simp -implicitDefEqProofs only[oS.d,J0,J1,J2,J3,J4,J5,J6,J7,J8,↓reduceIte,reduceCtorEq];refine aM [] c1 rfl rfl rfl rfl ?_;simp -implicitDefEqProofs only[oS.d,J0,J1,J2,J3,J4,J5,J6,J7,J8,↓reduceIte,reduceCtorEq];refine aM [] c2 rfl rfl rfl rfl ?_;simp -implicitDefEqProofs only[oS.d,J0,J1,J2,J3,J4,J5,J6,J7,J8,↓reduceIte,reduceCtorEq,jk7];refine bJ [2] c3 rfl rfl rfl ?_;rintro _ _ ⟨rfl,p,v,rfl⟩;have c5:=c4 p v;clear c4;cases p;all_goals
   refine⟨_,_,rfl,?_⟩;simp only[wh,wpt]at c5;simp -implicitDefEqProofs only[oS.d,J0,J1,J2,J3,J4,J5,J6,J7,J8,↓reduceIte,reduceCtorEq];refine aM [2,3] c5 rfl rfl rfl rfl ?_;simp -implicitDefEqProofs only[oS.d,J0,J1,J2,J3,J4,J5,J6,J7,J8,↓reduceIte,reduceCtorEq];apply aH [];rfl;rfl;exact⟨rfl,rfl⟩
theorem kl0 (l:List Int) (hp:l.length<1000000000):VC kp8 23 [.one (.d (.sl (nums l))),.one (.d (.sl (nums l)))] [] fun r h'=>r = .one (.d (.bool true))∧h'=[]:=by
 refine aU mixed jI4 (by simp) ?_;show vwp kp8 0 zv5 _ [(0,.one (.d (.sl (nums l)))),(1,.one (.d (.sl (nums l))))] [];conv in zv5=>cbv
 rw[aO];simp -implicitDefEqProofs only[oS.d,J0,J1,J2,J3,J4,J5,J6,J7,J8,↓reduceIte,reduceCtorEq,bU];refine bE (α:=Nat) (fun i=>[(5,.one (.d (.int .i64 i))),(0,.one (.d (.sl (nums l)))),(1,.one (.d (.sl (nums l))))]) (fun _=>[])
  (fun i=>i≤l.length) (fun i=>l.length-i) 0
  (aP [] rfl rfl rfl rfl) (kt1 _) ?_
 intro i hi;have hw:IntKind.i64.wrap ((i:Int)+1)=((i+1:Nat):Int):=oZ (by omega);simp -implicitDefEqProofs only[oS.d,J0,J1,J2,J3,J4,J5,J6,J7,J8,↓reduceIte,reduceCtorEq,bU];refine⟨fun h5=>?_,fun h5=>?_⟩
 ·have hi':i<l.length:=by omega
  obtain⟨u,hu⟩:∃u,l[i]?=some u:=⟨l[i],List.getElem?_eq_getElem hi'⟩;have hg:=iP hu;simp -implicitDefEqProofs only[oS.d,J0,J1,J2,J3,J4,J5,J6,J7,J8,↓reduceIte,reduceCtorEq,hg,hw,kq2,kq4];refine⟨i+1,by omega,by omega,?_⟩;exact(aP [] rfl rfl rfl rfl)
 ·apply aH [];rfl;rfl;exact⟨rfl,rfl⟩
theorem kl1 (l:List Int) (s:Stx) (by':Int) (hl:l.length<5000000) (hs:stn s<5000000) (hw:wSt s<2000000) :
  VC kp8 8 [abW l s,.one (.d (.int .i64 by'))] [] fun r h'=>r = .one (.d (.bool true))∧h'=[]:=by
 have hw':=kg5 l s (by omega);have c1:=zb0 l s (by omega) (by omega);have b1:(cG ltN (l,s)).1.length≤l.length:=zJ5 (tk:=bX (l,s)) (sb:=id) (l,bH ltN s) w0 rfl;have b2:stn (cG ltN (l,s)).2≤stn s:=by
  have:=zJ4 (tk:=bX (l,s)) (sb:=id) (bH ltN s) ([]++l) (aQ l.length w0) (by simp[aQ,w0]);rw[zP]at this;exact this
 have e1:=kd2 wI (l,s);have e2:=jh7 wI (l,s);have e3:=ke6 wI (l,s);have c2:=jk8 l s (by omega) (by omega) (by omega);have c3:=fun(l':List Int) (s':Stx) (h1:l'.length<10000000) (h2:stn s'<10000000) (h3:cG ltN (l',s')=cG ltN (l,s))=>jk8 l' s' h1 h2 (by rw[h3];omega);have c4:=wR l s (by omega) (by omega);have c5:=fun(l':List Int) (s':Stx) (h1:l'.length<10000000) (h2:stn s'<10000000)=>kc7 l l' s s' (by omega) (by omega) h1 h2;have hfl:(bX (l,s)).length≤stn s:=(uF (tk:=[]) (sb:=id) (l,s) (by show stn s<_;omega) (by simp)).2;generalize hC:cG ltN (l,s)=C at hw' c1 b1 b2 e1 e2 e3 c2 c3 c5;obtain⟨q,y⟩:=C;simp only at hw' c1 b1 b2 e3;have c6:=zb0 q y (by omega) (by omega);rw[e1]at c6;have c7:=zG3 q y (by omega) (jW4 y (by omega));have c8:=c5 q y (by omega) (by omega);rw[e1,zG2]at c8;have c9:=c3 q y (by omega) (by omega) e1;rw[e1]at c9;have c10:=wR q y (by omega) (by omega);rw[e2]at c10;have c11:=kl0 (bX (l,s)) (by omega);have c12:=wR [] y (by simp) (by omega);have c13:=wR [] s (by simp) (by omega);have hfe:(bX ([],y)).length<20000000:=by omega
 have hfc:(bX ([],s)).length≤stn s:=(uF (tk:=[]) (sb:=id) ([],s) (by show stn s<_;omega) (by simp)).2;have hfs:=wQ [] s;have c14:=fun(t:List Int) (ht:t.length<5000000)=>j53 s [] l t (n:=min l.length t.length) rfl rfl rfl (by simp;omega) (by simp) (by omega);have hlf:∀z:Int,z=(bX (l,s)).length+q.length→IntKind.i64.wrap z=z:=fun z hz=>uM ⟨by omega,by omega⟩;have hne:((((bX ([],y)).length:Nat):Int)=((bX (l,s)).length:Int)+(q.length:Int))=True:=by simp only[eq_iff_iff,iff_true];omega
 have hwz:IntKind.i64.wrap (((bX (l,s)).length:Int)+(q.length:Int))=((bX (l,s)).length:Int)+(q.length:Int):=hlf _ rfl;generalize bX (l,s)=fr at c4 c10 c11 hfl e2 e3 hne hwz;generalize bX ([],y)=fy at c12 hne hfe;generalize hfa:bX ([],s)=fa at c13 hfc hfs;obtain⟨tx,htx⟩:∃tx,tx=txF (q,y):=⟨_,rfl⟩;rw[←htx]at c2 c9;obtain⟨y1,y2,y3,y4,y5⟩:=y;obtain⟨s1,s2,s3,s4,s5⟩:=s;simp only[abW,abV,aA,kq1,kq5]at c1 c2 c4 c6 c7 c8 c9 c10 c12 c13 c14 ⊢;refine aU mixed fn8 (by simp) ?_;show vwp kp8 0 vc8 _ [(0,.agg [.d (.sl (nums l)),.d (.sl (s1.map aD)),.d (.sl (s2.map aE)),.d (.sl (kq7 s3)),.d (.sl (kq8 s4)),.d (.sl (kq9 s5))]),(1,.one (.d (.int .i64 by')))] [];conv in vc8=>cbv
 rw[aO];simp -implicitDefEqProofs only[oS.d,J0,J1,J2,J3,J4,J5,J6,J7,J8,↓reduceIte,reduceCtorEq];refine aM [] c1 rfl rfl rfl rfl ?_;simp -implicitDefEqProofs only[oS.d,J0,J1,J2,J3,J4,J5,J6,J7,J8,↓reduceIte,reduceCtorEq];refine aM [] c6 rfl rfl rfl rfl ?_;simp -implicitDefEqProofs only[oS.d,J0,J1,J2,J3,J4,J5,J6,J7,J8,↓reduceIte,reduceCtorEq];refine aM [] c7 rfl rfl rfl rfl ?_;simp -implicitDefEqProofs only[oS.d,J0,J1,J2,J3,J4,J5,J6,J7,J8,↓reduceIte,reduceCtorEq];refine aM [] c8 rfl rfl rfl rfl ?_;simp -implicitDefEqProofs only[oS.d,J0,J1,J2,J3,J4,J5,J6,J7,J8,↓reduceIte,reduceCtorEq];refine aM [] c2 rfl rfl rfl rfl ?_;simp -implicitDefEqProofs only[oS.d,J0,J1,J2,J3,J4,J5,J6,J7,J8,↓reduceIte,reduceCtorEq];refine aM [] c9 rfl rfl rfl rfl ?_;simp -implicitDefEqProofs only[oS.d,J0,J1,J2,J3,J4,J5,J6,J7,J8,↓reduceIte,reduceCtorEq,decide_true];refine aM [] c4 rfl rfl rfl rfl ?_;simp -implicitDefEqProofs only[oS.d,J0,J1,J2,J3,J4,J5,J6,J7,J8,↓reduceIte,reduceCtorEq];refine aM [] c10 rfl rfl rfl rfl ?_;simp -implicitDefEqProofs only[oS.d,J0,J1,J2,J3,J4,J5,J6,J7,J8,↓reduceIte,reduceCtorEq];refine aM [] c11 rfl rfl rfl rfl ?_;simp -implicitDefEqProofs only[oS.d,J0,J1,J2,J3,J4,J5,J6,J7,J8,↓reduceIte,reduceCtorEq];refine nZ [] [.agg [.d (.sl (nums [])),.d (.sl (y1.map aD)),.d (.sl (y2.map aE)),.d (.sl (kq7 y3)),.d (.sl (kq8 y4)),.d (.sl (kq9 y5))]] _ [] rfl ⟨⟨.inr (.inl ⟨rfl,rfl⟩),.inl rfl,.inl rfl,.inl rfl,.inl rfl,.inl rfl,trivial⟩,trivial⟩ (ko1 _) c12 rfl rfl rfl ?_;rintro _ _ ⟨rfl,rfl⟩;refine⟨_,_,rfl,?_⟩;simp -implicitDefEqProofs only[oS.d,J0,J1,J2,J3,J4,J5,J6,J7,J8,↓reduceIte,reduceCtorEq,bU];refine aM [] c4 rfl rfl rfl rfl ?_;simp -implicitDefEqProofs only[oS.d,J0,J1,J2,J3,J4,J5,J6,J7,J8,↓reduceIte,reduceCtorEq,bU,hwz,hne];refine aM [] jj5 rfl rfl rfl rfl ?_;simp -implicitDefEqProofs only[oS.d,J0,J1,J2,J3,J4,J5,J6,J7,J8,↓reduceIte,reduceCtorEq];clear c1 c4 c6 c7 c8 c9 c10 c11 c12 hne hwz hlf;by_cases hb1:by'<1
 ·have g1:(by'<1)=True:=by simp[hb1]
  simp -implicitDefEqProofs only[oS.d,J0,J1,J2,J3,J4,J5,J6,J7,J8,↓reduceIte,reduceCtorEq,g1];apply aH [];rfl;rfl;exact⟨rfl,rfl⟩
 have g1:(by'<1)=False:=by simp[hb1]
 by_cases hb2:1048576<by'
 ·have g2:(1048576<by')=True:=by simp[hb2]
  simp -implicitDefEqProofs only[oS.d,J0,J1,J2,J3,J4,J5,J6,J7,J8,↓reduceIte,reduceCtorEq,g1,g2];apply aH [];rfl;rfl;exact⟨rfl,rfl⟩
 have g2:(1048576<by')=False:=by simp[hb2]
 simp -implicitDefEqProofs only[oS.d,J0,J1,J2,J3,J4,J5,J6,J7,J8,↓reduceIte,reduceCtorEq,g1,g2];refine nZ [] [.agg [.d (.sl (nums [])),.d (.sl (s1.map aD)),.d (.sl (s2.map aE)),.d (.sl (kq7 s3)),.d (.sl (kq8 s4)),.d (.sl (kq9 s5))]] _ [] rfl ⟨⟨.inr (.inl ⟨rfl,rfl⟩),.inl rfl,.inl rfl,.inl rfl,.inl rfl,.inl rfl,trivial⟩,trivial⟩ (ko1 _) c13 rfl rfl rfl ?_;rintro _ _ ⟨rfl,rfl⟩;refine⟨_,_,rfl,?_⟩;simp -implicitDefEqProofs only[oS.d,J0,J1,J2,J3,J4,J5,J6,J7,J8,↓reduceIte,reduceCtorEq];clear g1 g2 c13;refine bE (α:=Nat×Int) (fun s=>[(8,.one (.d (.int .i64 s.1))),(6,.one (.d (.int .i64 s.2))),(7,.one (.d (.sl (nums fa)))),(1,.one (.d (.int .i64 by'))),(2,.one (.ptr 0 0))])
  (fun _=>[.box [.d (.sl (nums l)),.d (.sl (s1.map aD)),.d (.sl (s2.map aE)),.d (.sl (kq7 s3)),.d (.sl (kq8 s4)),.d (.sl (kq9 s5))]]) (fun s=>s.1≤fa.length∧0≤s.2∧s.2≤1048576∧∀(j:Nat) (z:Int),j<s.1→fa[j]?=some z→z≤s.2) (fun s=>fa.length-s.1) (0,0)
  (aP [0] rfl rfl rfl rfl) ⟨kt1 _,Int.le_refl _,by decide,fun j z h=>by omega⟩ ?_
 rintro⟨i,m⟩ ⟨hi,hm0,hm1,hmx⟩;dsimp only at hi hm0 hm1 hmx ⊢;have hwr:=bQ (a:=i) rfl (by omega);rcases ks3 i fa.length with h5|h5
 ·have hlt:((i:Int)<(fa.length:Int))=True:=by simp;omega
  obtain⟨z,hz⟩:=bK h5;have hg:=iP hz;by_cases z1:z<0
  ·have g1:(z<0)=True:=by simp[z1]
   simp -implicitDefEqProofs only[oS.d,J0,J1,J2,J3,J4,J5,J6,J7,J8,↓reduceIte,reduceCtorEq,bU,hlt,hg,kq2,kq4,g1];apply aH [];rfl;rfl;exact⟨rfl,rfl⟩
  have g1:(z<0)=False:=by simp[z1]
  by_cases z2:1048576<z
  ·have g2:(1048576<z)=True:=by simp[z2]
   simp -implicitDefEqProofs only[oS.d,J0,J1,J2,J3,J4,J5,J6,J7,J8,↓reduceIte,reduceCtorEq,bU,hlt,hg,kq2,kq4,g1,g2];apply aH [];rfl;rfl;exact⟨rfl,rfl⟩
  have g2:(1048576<z)=False:=by simp[z2]
  simp -implicitDefEqProofs only[oS.d,J0,J1,J2,J3,J4,J5,J6,J7,J8,↓reduceIte,reduceCtorEq,bU,hlt,hg,kq2,kq4,g1,g2,hwr];refine⟨(i+1,if m<z then z else m),⟨by dsimp only;omega,by dsimp only;split<;>omega,by dsimp only;split<;>omega,fun j y hj hy=>?_⟩,by dsimp only;omega,(aP [0] rfl rfl rfl rfl)⟩;dsimp only at hj ⊢;rcases ks3 j i with h7|h7
  ·have:=hmx j y h7 hy;split<;>omega
  ·have hji:j=i:=by omega
   subst hji;rw[hz]at hy;cases hy;split<;>omega
 have hlt:((i:Int)<(fa.length:Int))=False:=by simp;omega
 have hie:i=fa.length:=by omega
 subst hie;simp -implicitDefEqProofs only[oS.d,J0,J1,J2,J3,J4,J5,J6,J7,J8,↓reduceIte,reduceCtorEq,bU,hlt];have htl:∀k,nums ((kt4 k).map fun j:Nat=>m+by'+(j:Int))++[[.int .i64 (m+by'+(k:Int))]]=nums ((kt4 (k+1)).map fun j:Nat=>m+by'+(j:Int)):=fun k=>by rw[List.range_succ];simp[nums]
 refine bE (α:=Nat) (fun i=>[(10,.one (.d (.int .i64 i))),(9,.one (.own 1 i i)),(6,.one (.d (.int .i64 m))),(1,.one (.d (.int .i64 by'))),(2,.one (.ptr 0 0))])
  (fun i=>[.box [.d (.sl (nums l)),.d (.sl (s1.map aD)),.d (.sl (s2.map aE)),.d (.sl (kq7 s3)),.d (.sl (kq8 s4)),.d (.sl (kq9 s5))],.arr false 1 i (nums ((kt4 i).map fun j:Nat=>m+by'+(j:Int)))]) (fun i=>i≤l.length) (fun i=>l.length-i) 0
  (oC [(9,1)] [] [0,1] rfl rfl rfl rfl rfl rfl) (kt1 _) ?_
 clear hi h5 hwr hlt;intro i hi;have hwr:=bQ (a:=i) rfl (by omega);have htk:(nums ((kt4 i).map fun j:Nat=>m+by'+(j:Int))).take i=nums ((kt4 i).map fun j:Nat=>m+by'+(j:Int)):=kq6 (by simp[nums]);rcases ks3 i l.length with h5|h5
 ·have hlt:((i:Int)<(l.length:Int))=True:=by simp;omega
  have w1:IntKind.i64.wrap (m+by')=m+by':=uM ⟨by omega,by omega⟩;have w2:IntKind.i64.wrap (m+by'+(i:Int))=m+by'+(i:Int):=uM ⟨by omega,by omega⟩;have hcap:(i+1)*8≤aV∧i+1≤aV:=by simp[aV];omega
  simp -implicitDefEqProofs only[oS.d,J0,J1,J2,J3,J4,J5,J6,J7,J8,↓reduceIte,reduceCtorEq,bU,hlt,w1,w2,htk,hcap,hwr];refine⟨i+1,by omega,by omega,?_⟩;rw[htl];exact(aP [0,1] rfl rfl rfl rfl)
 have hlt:((i:Int)<(l.length:Int))=False:=by simp;omega
 have hie:i=l.length:=by omega
 subst hie;simp -implicitDefEqProofs only[oS.d,J0,J1,J2,J3,J4,J5,J6,J7,J8,↓reduceIte,reduceCtorEq,bU,hlt];have htol:((kt4 l.length).map fun j:Nat=>m+by'+(j:Int)).length=l.length:=by simp
 have htod:((kt4 l.length).map fun j:Nat=>m+by'+(j:Int)).Nodup:=by
  refine List.nodup_iff_pairwise_ne.2 ?_;rw[List.pairwise_map];exact List.nodup_range.imp fun h e=>h (by omega)
 have htof:∀n,aL (.mk s1 s2 s3 s4 s5) n→n∉((kt4 l.length).map fun j:Nat=>m+by'+(j:Int)):=fun n hn hmem=>by
  have h1:=(hfs.1 n).2 ⟨hn,by simp⟩;obtain⟨j,hj⟩:=List.getElem?_of_mem h1;have h2:=hmx j n (List.getElem?_eq_some_iff.1 hj).1 hj;obtain⟨k,_,hk⟩:=List.mem_map.1 hmem;omega
 clear htl hlt h5 hi hwr;generalize ((kt4 l.length).map fun j:Nat=>m+by'+(j:Int))=t at htk htol htod htof ⊢;refine bE (α:=Nat) (fun i=>[(11,.one (.d (.int .i64 i))),(9,.one (.own 1 l.length l.length)),(2,.one (.ptr 0 0))])
  (fun i=>[.box [.d (.sl (nums l)),.d (.sl (s1.map aD)),.d (.sl (s2.map aE)),.d (.sl (kq7 s3)),.d (.sl (kq8 s4)),.d (.sl (kq9 s5))],.arr false 1 l.length (nums t)]) (fun i=>i≤l.length∧(l.take i).Nodup) (fun i=>l.length-i) 0
  (aP [0,1] rfl rfl rfl rfl) ⟨kt1 _,by simp⟩ ?_
 rintro i ⟨hi,hnd⟩;have hwr:=bQ (a:=i) rfl (by omega);rcases ks3 i l.length with h5|h5
 ·have hlt:((i:Int)<(l.length:Int))=True:=by simp;omega
  obtain⟨u,hu⟩:=bK h5;have hg:=iP hu;simp -implicitDefEqProofs only[oS.d,J0,J1,J2,J3,J4,J5,J6,J7,J8,↓reduceIte,reduceCtorEq,bU,hlt];refine bE (α:=Nat) (fun k=>[(12,.one (.d (.int .i64 k))),(11,.one (.d (.int .i64 i))),(9,.one (.own 1 l.length l.length)),(2,.one (.ptr 0 0))])
   (fun i=>[.box [.d (.sl (nums l)),.d (.sl (s1.map aD)),.d (.sl (s2.map aE)),.d (.sl (kq7 s3)),.d (.sl (kq8 s4)),.d (.sl (kq9 s5))],.arr false 1 l.length (nums t)]) (fun k=>k≤i∧u∉l.take k) (fun k=>i-k) 0
   (aP [0,1] rfl rfl rfl rfl) ⟨kt1 _,by simp⟩ ?_
  rintro k ⟨hk,hnu⟩;have hwk:=bQ (a:=k) rfl (by omega);rcases ks3 k i with h6|h6
  ·have hlk:((k:Int)<(i:Int))=True:=by simp;omega
   obtain⟨v,hv⟩:=bK (l:=l) (i:=k) (by omega);have hg2:=iP hv;by_cases huv:u=v
   ·have g1:(u=v)=True:=by simp[huv]
    simp -implicitDefEqProofs only[oS.d,J0,J1,J2,J3,J4,J5,J6,J7,J8,↓reduceIte,reduceCtorEq,hlk,hg,hg2,kq2,kq4,g1];apply aH [];rfl;rfl;exact⟨rfl,rfl⟩
   ·have g1:(u=v)=False:=by simp[huv]
    simp -implicitDefEqProofs only[oS.d,J0,J1,J2,J3,J4,J5,J6,J7,J8,↓reduceIte,reduceCtorEq,hlk,hg,hg2,kq2,kq4,g1,hwk];refine⟨k+1,⟨by omega,?_⟩,by omega,?_⟩
    ·rw[kw0,hv];simp[hnu,huv]
    ·exact(aP [0,1] rfl rfl rfl rfl)
  ·have hlk:((k:Int)<(i:Int))=False:=by simp;omega
   have hke:k=i:=by omega
   subst hke;simp -implicitDefEqProofs only[oS.d,J0,J1,J2,J3,J4,J5,J6,J7,J8,↓reduceIte,reduceCtorEq,hlk,hwr];refine⟨k+1,⟨by omega,?_⟩,by omega,?_⟩
   ·rw[kw0,hu];exact List.nodup_append.2 ⟨hnd,by simp,fun a ha b hb e=>by simp at hb;subst hb;subst e;exact hnu ha⟩
   ·exact(aP [0,1] rfl rfl rfl rfl)
 have hlt:((i:Int)<(l.length:Int))=False:=by simp;omega
 have hie:i=l.length:=by omega
 subst hie;rw[kv2]at hnd;have c15:=c14 t (by omega);have hmin:min l.length t.length=l.length:=by omega
 rw[hmin,kv2,←htol,kv2]at c15;simp only[ku3]at c15;simp -implicitDefEqProofs only[oS.d,J0,J1,J2,J3,J4,J5,J6,J7,J8,↓reduceIte,reduceCtorEq,bU,hlt];clear hlt h5 hi hwr;have htk':(nums t).take l.length=nums t:=kq6 (by rw[bU];omega);refine nZ [] [.agg [.d (.sl (nums [])),.d (.sl (s1.map aD)),.d (.sl (s2.map aE)),.d (.sl (kq7 s3)),.d (.sl (kq8 s4)),.d (.sl (kq9 s5))],.one (.d (.sl (nums l))),.one (.own 1 l.length l.length)] _ [] rfl ⟨⟨.inr (.inl ⟨rfl,rfl⟩),.inl rfl,.inl rfl,.inl rfl,.inl rfl,.inl rfl,trivial⟩,ko0 _,ko0 _,trivial⟩ (ko1 _) c15 rfl (by simp[cE,bP,cW,bT,idx,htk'];rfl) rfl ?_;rintro _ _ ⟨⟨q',y',rfl,hbo,hre⟩,rfl⟩;have hq':q'=[]:=ku2.1 hbo.1;subst hq';rw[ku3]at hre;have hag:=kd9 htol.symm hnd htod htof hre;have hcc:=z83 (lt:=ltN) hag;rw[hC]at hcc;have hsy:=kc9 _ _ _ _ hre;have d1:=c5 t y' (by omega) (by omega);rw[←hcc,zG2]at d1;have d2:=c3 t y' (by omega) (by omega) hcc.symm;rw[←hcc,←htx]at d2;obtain⟨z1,z2,z3,z4,z5⟩:=y';simp only[abW,aA,kq1,kq5]at d1 d2 ⊢;refine⟨_,_,rfl,?_⟩;simp -implicitDefEqProofs only[oS.d,J0,J1,J2,J3,J4,J5,J6,J7,J8,↓reduceIte,reduceCtorEq];refine bJ [] d1 rfl (by simp[cE,bP,cW,bT,idx,htk'];try rfl) rfl ?_;rintro _ _ ⟨rfl,rfl⟩;refine⟨_,_,rfl,?_⟩;simp -implicitDefEqProofs only[oS.d,J0,J1,J2,J3,J4,J5,J6,J7,J8,↓reduceIte,reduceCtorEq];refine aM [] c2 rfl rfl rfl rfl ?_;simp -implicitDefEqProofs only[oS.d,J0,J1,J2,J3,J4,J5,J6,J7,J8,↓reduceIte,reduceCtorEq];refine bJ [] d2 rfl (by simp[cE,bP,cW,bT,idx,htk'];try rfl) rfl ?_;rintro _ _ ⟨rfl,rfl⟩;refine⟨_,_,rfl,?_⟩;simp -implicitDefEqProofs only[oS.d,J0,J1,J2,J3,J4,J5,J6,J7,J8,↓reduceIte,reduceCtorEq,decide_true];apply aH [];rfl;rfl;exact⟨rfl,rfl⟩
end Go.Vt.Tryz
