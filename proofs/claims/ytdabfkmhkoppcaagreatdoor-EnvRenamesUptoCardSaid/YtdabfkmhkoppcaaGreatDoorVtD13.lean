import Derived.Test.YtdabfkmhkoppcaaGreatDoorVtSeat
import Derived.Test.YtdabfkmhkoppcaaGreatDoorVtBun
set_option linter.all false
set_option maxHeartbeats 4000000
set_option maxRecDepth 100000
open Int renaming natCast_nonneg→kd8,toNat_natCast→kd9
open List renaming cons_append→kg6,getElem?_eq_getElem→ke7,getElem?_eq_none→km6,getElem?_map→ke6,length_cons→kf6,length_map→ke9,map_cons→ke5,map_nil→ke8,mem_cons→kg9,mem_of_getElem?→kd7,nil_append→kh0,range'_succ→kw9,range'→kr6,range_eq_range'→kv4,range→kh4,sizeOf_lt_of_mem→ko8,take_succ_cons→ki2
open Nat renaming beq→kl2,le_of_lt→ky6,le_refl→kf2,lt_or_ge→kf3,zero_le→kg1
open Go.Proofs.Tryz renaming prog→kd5
open Go.Vt renaming mkV→J1
open Nat renaming reduceBEq→J2,reduceLeDiff→J5,reduceAdd→J6
namespace Go.Vt
def nums (l:List Int):List (List D):=l.map fun n=>[.int .i64 n]
theorem bW (l:List Int):(nums l).length=l.length:=by simp[nums]
inductive Ty where
 |mk (kind n:Int) (kids:List Ty)
inductive Tt where
 |mk (kind n:Int) (labels:List ByteArray) (kids:List Tt)
inductive Tm where
 |mk (kind n i:Int) (name:ByteArray) (labels:List ByteArray) (types:List Tt) (kids:List Tm)
theorem Ty.ind {P:Ty→Prop} (h:∀k n l,(∀t∈l,P t)→P (.mk k n l)):∀t,P t
 |.mk k n l=>h k n l fun t _=>Ty.ind h t
 termination_by u=>SizeOf.sizeOf u
 decreasing_by
 have:=ko8 ‹_›;simp;omega
theorem Tt.ind {P:Tt→Prop} (h:∀k n ls l,(∀t∈l,P t)→P (.mk k n ls l)):∀t,P t
 |.mk k n ls l=>h k n ls l fun t _=>Tt.ind h t
 termination_by u=>SizeOf.sizeOf u
 decreasing_by
 have:=ko8 ‹_›;simp;omega
theorem Tm.ind {P:Tm→Prop} (h:∀k n i s ls ts l,(∀t∈l,P t)→P (.mk k n i s ls ts l)):∀t,P t
 |.mk k n i s ls ts l=>h k n i s ls ts l fun t _=>Tm.ind h t
 termination_by u=>SizeOf.sizeOf u
 decreasing_by
 have:=ko8 ‹_›;simp;omega
def aG:Ty→List D
 |.mk k n l=>[.int .i64 k,.int .i64 n,.sl (encs l)]
 where
 encs:List Ty→List (List D)
  |[]=>[]
  |t::r=>aG t::encs r
theorem dN:∀l,aG.encs l=l.map aG
 |[]=>rfl
 |_::r=>by simp[aG.encs,dN r]
theorem dA (l:List Ty):(aG.encs l).length=l.length:=by simp[dN]
def Ty.kids:Ty→List Ty|.mk _ _ l=>l
def Tt.kids:Tt→List Tt|.mk _ _ _ l=>l
def tyn:Ty→Nat
 |.mk _ _ l=>1+go l
 where
 go:List Ty→Nat
  |[]=>0
  |t::r=>tyn t+go r
theorem uL:∀{l:List Ty} {t:Ty},t∈l→tyn t≤tyn.go l
 |[],_,h=>by cases h
 |a::r,t,h=>by
  rcases kg9.1 h with rfl|h
  ·simp[tyn.go]
  ·have:=uL h;simp only[tyn.go];omega
structure Sc where
 gens:Int
 t:Ty
def gP (s:Sc):List D:=.int .i64 s.gens::aG s.t
structure Ct where
 name:ByteArray
 args:List Ty
def bD (c:Ct):List D:=[.str c.name,.sl (aG.encs c.args)]
structure Tym where
 name:ByteArray
 t:Ty
 cts:List Ct
def aD (m:Tym):List D:=.str m.name::(aG m.t++[.sl (m.cts.map bD)])
structure Vam where
 name:ByteArray
 s:Sc
def aE (m:Vam):List D:=.str m.name::gP m.s
inductive Stx where
 |mk (types:List Tym) (vals:List Vam) (subs:List (ByteArray×Stx)) (funs:List (ByteArray×List Int×Stx×List Int×Stx)) (sigs:List (ByteArray×List Int×Stx))
def aA:Stx→List D
 |.mk ts vs ss fs gs=>[.sl (ts.map aD),.sl (vs.map aE),.sl (subs ss),.sl (funs fs),.sl (sigs gs)]
 where
 subs:List (ByteArray×Stx)→List (List D)
  |[]=>[]
  |(s,x)::r=>(.str s::aA x)::subs r
 funs:List (ByteArray×List Int×Stx×List Int×Stx)→List (List D)
  |[]=>[]
  |(s,l,x,m,y)::r=>(.str s::(.sl (nums l)::(aA x++(.sl (nums m)::aA y))))::funs r
 sigs:List (ByteArray×List Int×Stx)→List (List D)
  |[]=>[]
  |(s,l,x)::r=>(.str s::(.sl (nums l)::aA x))::sigs r
theorem Stx.ind {P:Stx→Prop} (h:∀ts vs ss fs gs,(∀x∈ss,P x.2)→(∀x∈fs,P x.2.2.1∧P x.2.2.2.2)→(∀x∈gs,P x.2.2)→P (.mk ts vs ss fs gs)):∀s,P s
 |.mk ts vs ss fs gs=>h ts vs ss fs gs (fun x _=>Stx.ind h x.2) (fun x _=>⟨Stx.ind h x.2.2.1,Stx.ind h x.2.2.2.2⟩) (fun x _=>Stx.ind h x.2.2)
 termination_by u=>SizeOf.sizeOf u
 decreasing_by
 all_goals
  have h1:=ko8 ‹_›;obtain⟨a,b⟩:=x;first
  |(simp at h1 ⊢;omega)
  |(obtain⟨b,c,d,e⟩:=b;simp at h1 ⊢;omega)
  |(obtain⟨b,c⟩:=b;simp at h1 ⊢;omega)
def Stx.types:Stx→List Tym|.mk a _ _ _ _=>a
def Stx.vals:Stx→List Vam|.mk _ a _ _ _=>a
def Stx.subs:Stx→List (ByteArray×Stx)|.mk _ _ a _ _=>a
def Stx.funs:Stx→List (ByteArray×List Int×Stx×List Int×Stx)|.mk _ _ _ a _=>a
def Stx.sigs:Stx→List (ByteArray×List Int×Stx)|.mk _ _ _ _ a=>a
end Go.Vt
namespace Go.Vt.Tryz
abbrev FnE:=List Int×Stx×List Int×Stx
abbrev cN:=ByteArray×List Int×Stx
def eU (x:FnE):List D:=.sl (nums x.1)::(aA x.2.1++(.sl (nums x.2.2.1)::aA x.2.2.2))
def bX (m:ByteArray×Stx):List D:=.str m.1::aA m.2
def bT (m:ByteArray×FnE):List D:=.str m.1::eU m.2
def cA (x:cN):List D:=.str x.1::(.sl (nums x.2.1)::aA x.2.2)
theorem xY:∀l,aA.subs l=l.map fun m=>D.str m.1::aA m.2
 |[]=>rfl
 |(s,x)::r=>by simp[aA.subs,xY r]
theorem iL:∀l,aA.funs l=l.map bT
 |[]=>rfl
 |(s,l,x,m,y)::r=>by simp[aA.funs,iL r,bT,eU]
theorem iM:∀l,aA.sigs l=l.map cA
 |[]=>rfl
 |(s,l,x)::r=>by simp[aA.sigs,iM r,cA]
def aT {α:Type} (f:α→Nat):List α→Nat
 |[]=>0
 |a::r=>f a+aT f r
theorem cY {α:Type} {f:α→Nat}:∀{l:List α} {a:α},a∈l→f a≤aT f l
 |b::r,a,h=>by
  rcases kg9.1 h with rfl|h
  ·simp[aT]
  ·have:=cY (f:=f) h;simp only[aT];omega
theorem dV {α:Type} {f:α→Nat} (hf:∀a,1≤f a):∀l:List α,l.length≤aT f l
 |[]=>kf2 _
 |a::r=>by have:=dV hf r;have:=hf a;simp only[aT,kf6];omega
def ctn (c:Ct):Nat:=1+tyn.go c.args
def cJ (m:Tym):Nat:=1+tyn m.t+aT ctn m.cts
def cO (m:Vam):Nat:=1+tyn m.s.t
def stn:Stx→Nat
 |.mk ts vs ss fs gs=>1+aT cJ ts+aT cO vs+goS ss+goF fs+goG gs
 where
 goS:List (ByteArray×Stx)→Nat
  |[]=>0
  |(_,x)::r=>1+stn x+goS r
 goF:List (ByteArray×List Int×Stx×List Int×Stx)→Nat
  |[]=>0
  |(_,l,x,m,y)::r=>1+l.length+stn x+m.length+stn y+goF r
 goG:List (ByteArray×List Int×Stx)→Nat
  |[]=>0
  |(_,l,x)::r=>1+l.length+stn x+goG r
theorem pH:∀{l:List (ByteArray×Stx)} {m:ByteArray×Stx},m∈l→stn m.2≤stn.goS l
 |(a,b)::r,m,h=>by
  rcases kg9.1 h with rfl|h
  ·simp[stn.goS];omega
  ·have:=pH h;simp only[stn.goS];omega
theorem iX:∀{l:List (ByteArray×List Int×Stx×List Int×Stx)} {m:ByteArray×List Int×Stx×List Int×Stx},m∈l→m.2.1.length+stn m.2.2.1+m.2.2.2.1.length+stn m.2.2.2.2≤stn.goF l
 |(a,b,c,d,e)::r,m,h=>by
  rcases kg9.1 h with rfl|h
  ·simp[stn.goF];omega
  ·have:=iX h;simp only[stn.goF];omega
theorem nF:∀{l:List (ByteArray×List Int×Stx)} {m:ByteArray×List Int×Stx},m∈l→m.2.1.length+stn m.2.2≤stn.goG l
 |(a,b,c)::r,m,h=>by
  rcases kg9.1 h with rfl|h
  ·simp[stn.goG];omega
  ·have:=nF h;simp only[stn.goG];omega
theorem zd0:∀l:List (ByteArray×Stx),l.length≤stn.goS l
 |[]=>kf2 _
 |(a,b)::r=>by have:=zd0 r;simp only[stn.goS,kf6];omega
theorem zd1:∀l:List (ByteArray×List Int×Stx×List Int×Stx),l.length≤stn.goF l
 |[]=>kf2 _
 |(a,b,c,d,e)::r=>by have:=zd1 r;simp only[stn.goF,kf6];omega
theorem zd2:∀l:List (ByteArray×List Int×Stx),l.length≤stn.goG l
 |[]=>kf2 _
 |(a,b,c)::r=>by have:=zd2 r;simp only[stn.goG,kf6];omega
theorem oC:∀l:List Ty,tyn.go l=aT tyn l
 |[]=>rfl
 |t::r=>by simp only[tyn.go,aT,oC r]
def stW (x:Stx):V:=.agg ((aA x).map .d)
def abW (l:List Int) (x:Stx):V:=.agg ((L.d (.sl (nums l)))::(aA x).map .d)
theorem kI:∀l,aA.subs l=l.map bX:=xY
def eB (m:ByteArray×Stx):Nat:=1+stn m.2
def dZ (m:ByteArray×FnE):Nat:=1+m.2.1.length+stn m.2.2.1+m.2.2.2.1.length+stn m.2.2.2.2
def eD (m:cN):Nat:=1+m.2.1.length+stn m.2.2
theorem oD:∀l:List (ByteArray×Stx),stn.goS l=aT eB l
 |[]=>rfl
 |(a,b)::r=>by simp only[stn.goS,aT,oD r,eB]
theorem oE:∀l:List (ByteArray×FnE),stn.goF l=aT dZ l
 |[]=>rfl
 |(a,b,c,d,e)::r=>by simp only[stn.goF,aT,oE r,dZ]
theorem oF:∀l:List cN,stn.goG l=aT eD l
 |[]=>rfl
 |(a,b,c)::r=>by simp only[stn.goG,aT,oF r,eD]
theorem gT (l:List (ByteArray×Stx)):(aA.subs l).length=l.length:=by rw[kI,ke9]
theorem iN (l:List (ByteArray×FnE)):(aA.funs l).length=l.length:=by rw[iL,ke9]
theorem iO (l:List cN):(aA.sigs l).length=l.length:=by rw[iM,ke9]
theorem kV (u:Tym):cJ u=1+tyn u.t+aT ctn u.cts:=rfl
theorem qO (u:Vam):cO u=1+tyn u.s.t:=rfl
theorem nG (u:ByteArray×Stx):eB u=1+stn u.2:=rfl
theorem lK (u:ByteArray×FnE):dZ u=1+u.2.1.length+stn u.2.2.1+u.2.2.2.1.length+stn u.2.2.2.2:=rfl
theorem nH (u:cN):eD u=1+u.2.1.length+stn u.2.2:=rfl
theorem qP (c:Ct):ctn c=1+aT tyn c.args:=by show 1+tyn.go c.args=_;rw[oC]
theorem jH {α:Type} {f:α→Nat}:∀{l:List α} {i:Nat} {a:α},l[i]?=some a→aT f (l.take (i+1))=aT f (l.take i)+f a
 |b::r,0,a,h=>by
  have:b=a:=by simpa using h
  subst this;simp[aT]
 |b::r,i+1,a,h=>by
  have:=jH (f:=f) (l:=r) (i:=i) (a:=a) (by simpa using h);simp only[ki2,aT,this];omega
theorem iY {α:Type} {f:α→Nat}:∀(l:List α) (i:Nat),aT f (l.take i)≤aT f l
 |[],i=>by simp[aT]
 |b::r,0=>by simp[aT]
 |b::r,i+1=>by
  have:=iY (f:=f) r i;simp only[ki2,aT];omega
theorem xZ {x:Stx} {B:Nat} (h:stn x≤B):x.subs.length≤B∧x.vals.length≤B∧x.types.length≤B∧x.funs.length≤B∧x.sigs.length≤B:=by
 obtain⟨a,b,c,d,e⟩:=x;simp only[stn]at h;simp only[Stx.subs,Stx.vals,Stx.types,Stx.funs,Stx.sigs];have h1:=dV (f:=cJ) (fun m=>by simp[cJ];omega) a;have h2:=dV (f:=cO) (fun m=>by simp[cO]) b;have h3:=zd0 c;have h4:=zd1 d;have h5:=zd2 e;omega
open Go.Proofs
theorem pI {i:Nat} (h:i<1000000000000):IntKind.i64.wrap ((i:Int)+1)=((i+1:Nat):Int):=by rw[IntKind.wrap_i64];omega
theorem zA7 (n:Int):VC kd5 119 [.one (.d (.int .i64 n)),.one (.d (.int .i64 n))] [] fun r h'=>r = .one (.d (.int .i64 0))∧h'=[]:=by
 refine aS aR zW3 (by simp) ?_;show vwp kd5 0 xS _ [(0,.one (.d (.int .i64 n))),(1,.one (.d (.int .i64 n)))] [];conv in xS=>cbv
 rw[aO];have hn:¬n<n:=by omega
 simp -implicitDefEqProofs only[oS.d,J2,↓reduceIte,hn];apply aI [];rfl;rfl;exact⟨rfl,rfl⟩
def tyV (t:Ty):V:=.agg ((aG t).map .d)
theorem uM:∀l:List Ty,l.length≤tyn.go l
 |[]=>kf2 _
 |.mk _ _ l::r=>by have:=uM r;simp only[tyn.go,tyn,kf6];omega
theorem jN8:∀(t:Ty),tyn t<1000000000→VC kd5 61 [tyV t,tyV t] [] fun r h'=>r = .one (.d (.int .i64 0))∧h'=[]:=by
 intro t;induction t using Ty.ind with
 |h k n kids ih=>
 intro hp;simp only[tyn]at hp;have hlen:=uM kids;refine aS aR zV3 (by simp) ?_;show vwp kd5 0 xN _ [(0,.agg [.d (.int .i64 k),.d (.int .i64 n),.d (.sl (aG.encs kids))]),(1,.agg [.d (.int .i64 k),.d (.int .i64 n),.d (.sl (aG.encs kids))])] [];conv in xN=>cbv
 rw[aO];simp -implicitDefEqProofs only[oS.d,J1,J2,J5,J6,↓reduceIte,reduceCtorEq];refine aQ [] (zA7 k) rfl rfl rfl rfl ?_;simp -implicitDefEqProofs only[oS.d,J1,J2,J5,J6,↓reduceIte,reduceCtorEq];refine aQ [] (zA7 n) rfl rfl rfl rfl ?_;simp -implicitDefEqProofs only[oS.d,J1,J2,J5,J6,↓reduceIte,reduceCtorEq,dA];refine aQ [] (zA7 kids.length) rfl rfl rfl rfl ?_;simp -implicitDefEqProofs only[oS.d,J2,↓reduceIte];refine bC (α:=Nat) (fun i=>[(8,.one (.d (.int .i64 i))),(3,.one (.ptr 1 0)),(2,.one (.ptr 0 0))])
  (fun _=>[.box [.d (.int .i64 k),.d (.int .i64 n),.d (.sl (aG.encs kids))],.box [.d (.int .i64 k),.d (.int .i64 n),.d (.sl (aG.encs kids))]])
  (fun i=>i≤kids.length) (fun i=>kids.length-i) 0
  (aL [0,1] rfl rfl rfl rfl) (kg1 _) ?_
 intro i hi;have hw:IntKind.i64.wrap ((i:Int)+1)=((i+1:Nat):Int):=pI (by omega);simp -implicitDefEqProofs only[oS.d,J1,J2,J5,J6,↓reduceIte,reduceCtorEq,dA];refine⟨fun h5=>?_,fun h5=>?_⟩
 ·have hi':i<kids.length:=by omega
  obtain⟨u,hu⟩:∃u,kids[i]?=some u:=⟨kids[i],ke7 hi'⟩;have hmem:=kd7 hu;have hnu:=uL hmem;have iu:=ih u hmem (by omega);have hg:(aG.encs kids)[i]?=some (aG u):=by rw[dN,ke6,hu];rfl
  obtain⟨uk,un,uc⟩:=u;simp only[tyV,aG,ke5,ke8]at iu hg;simp -implicitDefEqProofs only[oS.d,J1,J2,J5,J6,↓reduceIte,reduceCtorEq,hg,kd8,kd9];refine aQ [] iu rfl rfl rfl rfl ?_;simp -implicitDefEqProofs only[oS.d,J2,↓reduceIte,hw];refine⟨i+1,by omega,by omega,?_⟩;exact(aL [0,1] rfl rfl rfl rfl)
 ·apply aI [];rfl;rfl;exact⟨rfl,rfl⟩
theorem zA8 (t:Ty) (hp:tyn t<1000000000):VC kd5 16 [tyV t,tyV t] [] fun r h'=>r = .one (.d (.bool true))∧h'=[]:=by
 have ih:=jN8 t hp;obtain⟨k,n,kids⟩:=t;refine aS aR zU4 (by simp) ?_;show vwp kd5 0 xJ _ [(0,.agg [.d (.int .i64 k),.d (.int .i64 n),.d (.sl (aG.encs kids))]),(1,.agg [.d (.int .i64 k),.d (.int .i64 n),.d (.sl (aG.encs kids))])] [];conv in xJ=>cbv
 rw[aO];simp -implicitDefEqProofs only[oS.d,J1,J2,J6,↓reduceIte];refine aQ [] ih rfl rfl rfl rfl ?_;simp -implicitDefEqProofs only[oS.d,J2,↓reduceIte,reduceCtorEq];apply aI [];rfl;rfl;exact⟨rfl,rfl⟩
def scV (s:Sc):V:=.agg ((gP s).map .d)
theorem jN9 (s:Sc) (hp:tyn s.t<1000000000):VC kd5 11 [scV s,scV s] [] fun r h'=>r = .one (.d (.bool true))∧h'=[]:=by
 obtain⟨g,t⟩:=s;have ih:=zA8 t hp;obtain⟨k,n,kids⟩:=t;refine aS aR zU3 (by simp) ?_;show vwp kd5 0 xI _ [(0,.agg [.d (.int .i64 g),.d (.int .i64 k),.d (.int .i64 n),.d (.sl (aG.encs kids))]),(1,.agg [.d (.int .i64 g),.d (.int .i64 k),.d (.int .i64 n),.d (.sl (aG.encs kids))])] [];conv in xI=>cbv
 rw[aO];simp -implicitDefEqProofs only[oS.d,J1,J2,J5,J6,↓reduceIte,reduceCtorEq];refine aQ [] ih rfl rfl rfl rfl ?_;simp -implicitDefEqProofs only[oS.d,J2];apply aI [];rfl;rfl;exact⟨rfl,rfl⟩
theorem eL {l:List Int} {i:Nat} {n:Int} (h:l[i]?=some n):(nums l)[i]?=some [.int .i64 n]:=by simp[nums,h]
section iter
variable {P:Program} {n:Nat} {Y:kE} {T:Sl} {ys:List Tmp} {h:aB} {pd:Option VX}
theorem kJ {l:List VOp} {d:Option Tmp} {op:Op} {r:V} {h':aB} {K:KO} (hy:yop (VOp.mk d op none) ys = .no) (hv:vop P T h (mkO op)=some (r,h')) (hk:eG P Y l (bP T d r) (iJ d ys) h' pd K):eG P Y (VOp.mk d op none::l) T ys h pd K:=by
 show kU P Y (VOp.mk d op none) T ys h pd _;unfold kU;rw[hy];show gM P (VOp.mk d op none) T h _;unfold gM lG eZ;simp only[hv];exact hk
theorem zZ1 {l:List VOp} {d:Tmp} {op:Op} {K:KO} (hy:yop (VOp.mk (some d) op none) ys = .mv d) (hk:eG P Y l ((d,.one .any)::T) (d::ys) h pd K):eG P Y (VOp.mk (some d) op none::l) T ys h pd K:=by
 show kU P Y (VOp.mk (some d) op none) T ys h pd _;unfold kU;rw[hy];exact hk
theorem zZ2 {l:List VOp} {d:Option Tmp} {op:Op} {args:List Operand} {vs:List V} {K:KO} (hy:yop (VOp.mk d op none) ys = .yl args) (ha:eO T args=some vs) (hk:Y vs h fun pd' h'=>eG P Y l (bP T d (.one (.d (.bool pd'.isNone)))) (iJ d ys) h' pd' K):eG P Y (VOp.mk d op none::l) T ys h none K:=by
 show kU P Y (VOp.mk d op none) T ys h none _;unfold kU;rw[hy];exact⟨rfl,vs,ha,hk⟩
theorem qQ {a b:Nat} (h:a≠b):kl2 a b=false:=by
 cases e:kl2 a b with
 |false=>rfl
 |true=>exact absurd (Nat.eq_of_beq_eq_true e) h
inductive Yd:Nat→List Tmp→Prop
 |base:Yd 0 [0]
 |more {b:Nat} {ys:List Tmp}:Yd b ys→Yd (b+1) (11::ys)
theorem Yd.mem0 {b:Nat} {ys:List Tmp} (hy:Yd b ys):gN 0 ys=true:=by
 induction hy with
 |base=>rfl
 |more _ ih=>exact ih
theorem Yd.memN {b j:Nat} {ys:List Tmp} (hy:Yd b ys) (h0:j≠0) (h1:j≠11):gN j ys=false:=by
 induction hy with
 |base=>show(kl2 j 0||false)=false;rw[qQ h0];rfl
 |@more b ys _ ih=>show(kl2 j 11||gN j ys)=false;rw[qQ h1,ih];rfl
theorem Yd.drop {b d:Nat} {ys:List Tmp} (h0:d≠0) (h1:d≠11) (hy:Yd b ys):Yd b (iJ (some d) ys):=by
 induction hy with
 |base=>show Yd 0 (if kl2 0 d=true then []else [0]);rw[qQ (Ne.symm h0)];exact .base
 |@more b ys _ ih=>
  show Yd (b+1) (if kl2 11 d=true then iJ (some d) ys else 11::iJ (some d) ys);rw[qQ (Ne.symm h1)];exact .more ih
theorem fJ {b:Nat} {l:List VOp} {d:Tmp} {op:Op} {r:V} {h':aB} {K:KO} (hy:Yd b ys) (hop:yop (VOp.mk (some d) op none) ys = .no) (h0:d≠0) (h1:d≠11) (hv:vop P T h (mkO op)=some (r,h')) (hk:∀ys,Yd b ys→eG P Y l ((d,r)::T) ys h' pd K):eG P Y (VOp.mk (some d) op none::l) T ys h pd K:=
 kJ hop hv (hk _ (hy.drop h0 h1))
theorem qR {b d i:Nat} (hy:Yd b ys) (h0:i≠0) (h1:i≠11):yop (VOp.mk (some d) (.move (.tmp i)) none) ys = .no:=by
 show(if gN i ys=true then YOp.mv d else .no)=_;rw[hy.memN h0 h1];rfl
theorem zZ3 {b:Nat} {l:List VOp} {K:KO} (hy:Yd b ys) (hk:∀ys,Yd (b+1) ys→eG P Y l ((11,.one .any)::T) ys h pd K):eG P Y (VOp.mk (some 11) (.move (.tmp 0)) none::l) T ys h pd K:=by
 refine zZ1 ?_ (hk _ ?_)
 ·show(if gN 0 ys=true then YOp.mv 11 else .no)=_;rw[hy.mem0];rfl
 ·exact .more hy
theorem zZ4 {b:Nat} {l:List VOp} {d:Tmp} {args:Array Operand} {ts:Array TypeId} {vs:List V} {K:KO} (hy:Yd (b+1) ys) (h0:d≠0) (h1:d≠11) (ha:eO T args.toList=some vs) (hk:∀ys,Yd (b+1) ys→Y vs h fun pd' h'=>eG P Y l ((d,.one (.d (.bool pd'.isNone)))::T) ys h' pd' K):eG P Y (VOp.mk (some d) (.call (.mk (.value (.tmp 11)) args ts)) none::l) T ys h none K:=by
 refine zZ2 (args:=args.toList) ?_ ha (hk _ (hy.drop h0 h1));show(if gN 11 ys=true then YOp.yl args.toList else .no)=_;have:gN 11 ys=true:=by
  cases hy with
  |more _=>rfl
 rw[this];rfl
theorem uN:∀{l:List Nat} {id:Nat} {n:Nat},l=kh4 n→id<n→idx l id=some id:=by
 have key:∀(m s id:Nat),s≤id→id<s+m→idx (kr6 s m) id=some (id-s):=by
  intro m;induction m with
  |zero=>intro s id h1 h2;omega
  |succ m ih=>
   intro s id h1 h2;rw[kw9];show(if s=id then some 0 else (idx (kr6 (s+1) m) id).map (·+1))=_;split
   ·rename_i e;subst e;simp
   ·rw[ih (s+1) id (by omega) (by omega)];simp only[Option.map_some]
    congr 1
    omega
 intro l id n e hlt;subst e;rw[kv4,key n 0 id (by omega) (by omega)];simp
theorem zd3 {m:Nat→Option Nat} {h r:aB}:∀{ids:List Nat} {x:aB},bB h m ids=some x→bB (h++r) m ids=some x
 |[],_,e=>e
 |id::l,x,e=>by
  unfold bB at e ⊢;cases ho:h[id]? with
  |none=>simp[ho]at e
  |some o=>
   have hlt:id<h.length:=(List.getElem?_eq_some_iff.1 ho).1;rw[List.getElem?_append_left hlt,ho];simp only[ho]at e ⊢;cases h1:bH m o with
   |none=>simp[h1]at e
   |some x1=>
    cases h2:bB h m l with
    |none=>simp[h1,h2]at e
    |some x2=>
     simp only[h1,h2]at e;simp only[zd3 h2];exact e
theorem nI (n:Nat):bK (kh4 n)=true:=by
 have key:∀(m s:Nat),bK (kr6 s m)=true:=by
  intro m;induction m with
  |zero=>intro s;rfl
  |succ m ih=>
   intro s;rw[kw9];show(!(kr6 (s+1) m).contains s&&bK (kr6 (s+1) m))=true;rw[ih];simp[List.mem_range'];omega
 rw[kv4];exact key n 0
theorem qT {z:Int} (h1:-1≤z) (h2:z<1000000000):IntKind.i64.wrap z=z:=by rw[IntKind.wrap_i64];omega
theorem uO {K:KY}:dY P n Y .skip K T ys h pd=K .normal T ys h pd:=rfl
theorem lL {l:List VOp} {K:KY}:dY P n Y (.ops l) K T ys h pd=eG P Y l T ys h pd (K .normal):=rfl
theorem jP {a b:aC} {K:KY}:dY P n Y (.seq a b) K T ys h pd=dY P n Y a (fA (dY P n Y b K) K) T ys h pd:=rfl
theorem qU {c:Operand} {x y:aC} {K:KY}:dY P n Y (.cond c x y) K T ys h pd=iB (opd T c) (dY P n Y x K T ys h pd) (dY P n Y y K T ys h pd):=rfl
theorem uP {id:Nat} {c:aC} {K:KY}:dY P n Y (.block id c) K T ys h pd=dY P n Y c (wG id K) T ys h pd:=rfl
theorem zA9 {c:aC} {K:KY}:dY P n Y (.loop c) K T ys h pd=∃I:Nat→KO,(∃k T0 h0,gB n T h T0 h0∧I k T0 ys h0 pd)∧
   ∀k T ys h pd,I k T ys h pd→dY P n Y c (fA (fun T' ys' h' pd'=>∃m T0 h0,m<k∧gB n T' h' T0 h0∧I m T0 ys' h0 pd') K) T ys h pd:=rfl
theorem kK {K:KO}:eG P Y [] T ys h pd K=K T ys h pd:=rfl
theorem qV {T:Sl} {h:aB} {op:BinOp} {x y:Operand} {a b:Int} {d:D} (hx:opd T x=some (.one (.d (.int .i64 a)))) (hy:opd T y=some (.one (.d (.int .i64 b)))) (hd:fX kd5 h 3 (.int .i64) op (.one (.d (.int .i64 a))) (.one (.d (.int .i64 b)))=some d):vop kd5 T h (mkO (.binOp op 3 x y 3))=some (.one (.d d),h):=by
 simp only[vop,hx,hy,ti3,hd]
end iter
section
variable {Q:VX→Sl→aB→Prop} {h:aB}
theorem uQ {A:Sl→aB→Prop}:tQ A Q .normal=A:=rfl
theorem zB0 {ids:List Nat}:∀x:List D,dG h ids (x.map .d)=some (x.map .d)
 |[]=>rfl
 |d::r=>by simp only[ke5,dG,zB0 r];rfl
theorem zB1 {ids:List Nat}:∀x:List D,kR ids (x.map .d)=[]
 |[]=>rfl
 |d::r=>by simp only[ke5,kR,zB1 r];rfl
end
theorem nJ {a b c:Nat} (h:a+b=c) (hc:c<1000000000000):IntKind.i64.wrap ((a:Int)+(b:Int))=(c:Int):=by rw[IntKind.wrap_i64];omega
theorem bJ {a c:Nat} (h:a+1=c) (hc:c<1000000000000):IntKind.i64.wrap ((a:Int)+1)=(c:Int):=by rw[IntKind.wrap_i64];omega
theorem kW {a b c:Nat} (h:a=b+c) (ha:a<1000000000000):IntKind.i64.wrap ((a:Int)-(b:Int))=(c:Int):=by rw[IntKind.wrap_i64];omega
theorem lM {a c:Nat} (h:a=c+1) (ha:a<1000000000000):IntKind.i64.wrap ((a:Int)-1)=(c:Int):=by rw[IntKind.wrap_i64];omega
structure kX (tS tE:TypeId) (k:Nat):Prop where
 S:∃b z b2 zs,ti kd5 tS=some (TI.mk 1 b false z TK.slice [] (some (EI.mk k b2 (some (.agg zs)) true)))∧b2≤1000∧zs.length=k∧k≠0
 E:∃b z fs,ti kd5 tE=some (TI.mk k b true z TK.struct fs none)
theorem bA {α:Type} {l:List α} {i:Nat} (h:i<l.length):∃x,l[i]?=some x:=⟨l[i],ke7 h⟩
section
variable {tS tE:TypeId} {k:Nat}
theorem zZ5 (H:kX tS tE k) {f:FuncId} (hF:aK kd5 f 8 (pG tS) [.tmp 2]) (es:List (List D)) (hr:lC k es=true) (hbig:es.length<1000000000) :
  VC kd5 f [.one (.d (.sl es))] [] fun r h'=>(es=[]∧r = .one .nils∧h'=[])∨(r = .one (.own 0 1 es.length)∧h'=[.arr false k 1 es]):=by
 obtain⟨b1,z1,b2,z2,hS,hb2,hz2,hk0⟩:=H.S;refine aS aR hF (by simp) ?_;show vwp kd5 0 (pG tS) _ [(0,.one (.d (.sl es)))] [];unfold pG;rw[aO];have hbb:es.length*b2≤aM:=by
  have:=Nat.mul_le_mul (ky6 hbig) hb2;unfold aM;omega
 have hb3:es.length≤aM:=by unfold aM;omega
 have hr2:=hr;unfold lC at hr2;simp -implicitDefEqProofs only[oS.d,J2,↓reduceIte,zn7 hS rfl,mE hS rfl,nA hS rfl,hr2,hbb,hb3,hz2,hk0,Nat.zero_mul,kg1];refine⟨fun he=>?_,?_⟩
 ·apply aI [];rfl;rfl;exact .inl ⟨he,rfl,rfl⟩
 ·apply aI [0];rfl;rfl;exact .inr ⟨rfl,rfl⟩
end
noncomputable def eqB {α:Type} (x y:α):Bool:=@decide (x=y) (Classical.propDecidable _)
section
variable {α:Type} {x y:α} {l l':List α} {i:Nat}
theorem zB2:eqB x x=true:=by simp[eqB]
theorem gH (h:x=y):eqB x y=true:=by subst h;exact zB2
theorem cD (h:x≠y):eqB x y=false:=by simp[eqB,h]
theorem dO (h:eqB x y=true):x=y:=by simpa[eqB]using h
theorem dP (h:eqB x y=false):x≠y:=by simpa[eqB]using h
theorem eV (hu:l[i]?=some x) (hv:l'[i]?=some y) (h:x≠y):l≠l':=fun e=>h (Option.some.inj (hu.symm.trans (e▸hv)))
theorem iZ (he:∀j,j<i→l[j]?=l'[j]?) (hu:l[i]?=some x) (hv:l'[i]?=some y) (h:x=y):∀j,j<i+1→l[j]?=l'[j]?:=fun j hj=>by
 rcases kf3 j i with h1|h1
 ·exact he j h1
 ·obtain rfl:j=i:=by omega
  rw[hu,hv,h]
theorem jA (hl:l.length=l'.length) (he:∀j,j<l.length→l[j]?=l'[j]?):l=l':=List.ext_getElem? fun j=>by
 rcases kf3 j l.length with h1|h1
 ·exact he j h1
 ·rw[km6 h1,km6 (by omega)]
end
theorem zZ6 (l:List Int) (hp:l.length<1000000000):VC kd5 66 [.one (.d (.sl (nums l))),.one (.d (.sl (nums l)))] [] fun r h'=>r = .one (.d (.bool true))∧h'=[]:=by
 refine aS aR zV5 (by simp) ?_;show vwp kd5 0 xP _ [(0,.one (.d (.sl (nums l)))),(1,.one (.d (.sl (nums l))))] [];conv in xP=>cbv
 rw[aO];simp -implicitDefEqProofs only[oS.d,J2,↓reduceIte,bW];refine bC (α:=Nat) (fun i=>[(5,.one (.d (.int .i64 i))),(0,.one (.d (.sl (nums l)))),(1,.one (.d (.sl (nums l))))]) (fun _=>[])
  (fun i=>i≤l.length) (fun i=>l.length-i) 0
  (aL [] rfl rfl rfl rfl) (kg1 _) ?_
 intro i hi;have hw:IntKind.i64.wrap ((i:Int)+1)=((i+1:Nat):Int):=pI (by omega);simp -implicitDefEqProofs only[oS.d,J2,↓reduceIte,bW];refine⟨fun h5=>?_,fun h5=>?_⟩
 ·have hi':i<l.length:=by omega
  obtain⟨u,hu⟩:∃u,l[i]?=some u:=⟨l[i],ke7 hi'⟩;have hg:=eL hu;simp -implicitDefEqProofs only[oS.d,J1,J2,↓reduceIte,hg,hw,kd8,kd9];refine⟨i+1,by omega,by omega,?_⟩;exact(aL [] rfl rfl rfl rfl)
 ·apply aI [];rfl;rfl;exact⟨rfl,rfl⟩
theorem jO0 (l:List Ct) (hp:aT ctn l<1000000000):VC kd5 65 [.one (.d (.sl (l.map bD))),.one (.d (.sl (l.map bD)))] [] fun r h'=>r = .one (.d (.bool true))∧h'=[]:=by
 have hlen:=dV (f:=ctn) (fun c=>by simp[ctn]) l;refine aS aR zV4 (by simp) ?_;show vwp kd5 0 xO _ [(0,.one (.d (.sl (l.map bD)))),(1,.one (.d (.sl (l.map bD))))] [];conv in xO=>cbv
 rw[aO];simp -implicitDefEqProofs only[oS.d,J2,↓reduceIte,ke9];refine bC (α:=Nat) (fun i=>[(5,.one (.d (.int .i64 i))),(0,.one (.d (.sl (l.map bD)))),(1,.one (.d (.sl (l.map bD))))]) (fun _=>[])
  (fun i=>i≤l.length) (fun i=>l.length-i) 0
  (aL [] rfl rfl rfl rfl) (kg1 _) ?_
 intro i hi;have hw:IntKind.i64.wrap ((i:Int)+1)=((i+1:Nat):Int):=pI (by omega);simp -implicitDefEqProofs only[oS.d,J2,↓reduceIte,ke9];refine⟨fun h5=>?_,fun h5=>?_⟩
 ·have hi':i<l.length:=by omega
  obtain⟨u,hu⟩:∃u,l[i]?=some u:=⟨l[i],ke7 hi'⟩;have hmem:=kd7 hu;have hnu:=cY (f:=ctn) hmem;have hg:(l.map bD)[i]?=some (bD u):=by rw[ke6,hu];rfl
  obtain⟨un,uc⟩:=u;simp only[ctn]at hnu;have hcl:=uM uc;simp only[bD]at hg;simp -implicitDefEqProofs only[oS.d,J1,J2,J6,↓reduceIte,reduceCtorEq,hg,kd8,kd9,dA];refine bC (α:=Nat) (fun k=>[(6,.one (.d (.int .i64 k))),(5,.one (.d (.int .i64 i))),(0,.one (.d (.sl (l.map bD)))),(1,.one (.d (.sl (l.map bD))))]) (fun _=>[])
   (fun k=>k≤uc.length) (fun k=>uc.length-k) 0
   (aL [] rfl rfl rfl rfl) (kg1 _) ?_
  intro k hk;have hwk:IntKind.i64.wrap ((k:Int)+1)=((k+1:Nat):Int):=pI (by omega);simp -implicitDefEqProofs only[oS.d,J1,J2,J6,↓reduceIte,reduceCtorEq,hg,kd8,kd9,dA];refine⟨fun h6=>?_,fun h6=>?_⟩
  ·have hk':k<uc.length:=by omega
   obtain⟨t,ht⟩:∃t,uc[k]?=some t:=⟨uc[k],ke7 hk'⟩;have hmt:=uL (kd7 ht);have iu:=zA8 t (by omega);have hgt:(aG.encs uc)[k]?=some (aG t):=by rw[dN,ke6,ht];rfl
   obtain⟨tk,tn,tc⟩:=t;simp only[tyV,aG,ke5,ke8]at iu hgt;simp -implicitDefEqProofs only[oS.d,J1,J2,J6,↓reduceIte,reduceCtorEq,hg,hgt,kd8,kd9];refine aQ [] iu rfl rfl rfl rfl ?_;simp -implicitDefEqProofs only[oS.d,J2,↓reduceIte,hwk];refine⟨k+1,by omega,by omega,?_⟩;exact(aL [] rfl rfl rfl rfl)
  ·simp -implicitDefEqProofs only[hw];refine⟨i+1,by omega,by omega,?_⟩;exact(aL [] rfl rfl rfl rfl)
 ·apply aI [];rfl;rfl;exact⟨rfl,rfl⟩
theorem jO1:∀l,aA.subs l=l.map bX:=xY
def stV (x:Stx):V:=.agg ((aA x).map .d)
def abV (l:List Int) (x:Stx):V:=.agg ((L.d (.sl (nums l)))::(aA x).map .d)
theorem zB3 (l:List Int) (x:Stx) (hl:l.length<1000000000) (ih:VC kd5 20 [stV x,stV x] [] fun r h'=>r = .one (.d (.bool true))∧h'=[]) :
  VC kd5 24 [abV l x,abV l x] [] fun r h'=>r = .one (.d (.bool true))∧h'=[]:=by
 have hi:=zZ6 l hl;obtain⟨x1,x2,x3,x4,x5⟩:=x;simp only[stV,abV,aA,ke5,ke8]at ih ⊢;refine aS aR zU6 (by simp) ?_;show vwp kd5 0 xL _ [(0,.agg [.d (.sl (nums l)),.d (.sl (x1.map aD)),.d (.sl (x2.map aE)),.d (.sl (aA.subs x3)),.d (.sl (aA.funs x4)),.d (.sl (aA.sigs x5))]),(1,.agg [.d (.sl (nums l)),.d (.sl (x1.map aD)),.d (.sl (x2.map aE)),.d (.sl (aA.subs x3)),.d (.sl (aA.funs x4)),.d (.sl (aA.sigs x5))])] [];conv in xL=>cbv
 rw[aO];simp -implicitDefEqProofs only[oS.d,J1,J2,J5,J6,↓reduceIte,reduceCtorEq];refine aQ [] hi rfl rfl rfl rfl ?_;simp -implicitDefEqProofs only[oS.d,J1,J2,J5,J6,↓reduceIte,reduceCtorEq];refine aQ [] ih rfl rfl rfl rfl ?_;simp -implicitDefEqProofs only[oS.d,J2];apply aI [];rfl;rfl;exact⟨rfl,rfl⟩
theorem jO2:∀x:Stx,stn x<1000000000→VC kd5 20 [stV x,stV x] [] fun r h'=>r = .one (.d (.bool true))∧h'=[]:=by
 intro x;induction x using Stx.ind with
 |h x1 x2 x3 x4 x5 ih3 ih4 ih5=>
 intro hp;have hsz:=xZ (x:=.mk x1 x2 x3 x4 x5) (ky6 hp);simp only[Stx.subs,Stx.vals,Stx.types,Stx.funs,Stx.sigs]at hsz;obtain⟨z3,z2,z1,z4,z5⟩:=hsz;have hp0:=hp;simp only[stn]at hp;have l3:(aA.subs x3).length=x3.length:=by rw[xY,ke9]
 have l4:(aA.funs x4).length=x4.length:=by rw[iL,ke9]
 have l5:(aA.sigs x5).length=x5.length:=by rw[iM,ke9]
 simp only[stV,aA,ke5,ke8];refine aS aR zU5 (by simp) ?_;show vwp kd5 0 xK _ [(0,.agg [.d (.sl (x1.map aD)),.d (.sl (x2.map aE)),.d (.sl (aA.subs x3)),.d (.sl (aA.funs x4)),.d (.sl (aA.sigs x5))]),(1,.agg [.d (.sl (x1.map aD)),.d (.sl (x2.map aE)),.d (.sl (aA.subs x3)),.d (.sl (aA.funs x4)),.d (.sl (aA.sigs x5))])] [];conv in xK=>cbv
 rw[aO];simp -implicitDefEqProofs only[oS.d,J1,J2,J5,J6,↓reduceIte,reduceCtorEq,ke9,l3,l4,l5];refine bC (α:=Nat) (fun i=>[(5,.one (.d (.int .i64 i))),(3,.one (.ptr 1 0)),(2,.one (.ptr 0 0))])
  (fun _=>[.box [.d (.sl (x1.map aD)),.d (.sl (x2.map aE)),.d (.sl (aA.subs x3)),.d (.sl (aA.funs x4)),.d (.sl (aA.sigs x5))],.box [.d (.sl (x1.map aD)),.d (.sl (x2.map aE)),.d (.sl (aA.subs x3)),.d (.sl (aA.funs x4)),.d (.sl (aA.sigs x5))]])
  (fun i=>i≤x1.length) (fun i=>x1.length-i) 0
  (aL [0,1] rfl rfl rfl rfl) (kg1 _) ?_
 intro i hi;have hw:IntKind.i64.wrap ((i:Int)+1)=((i+1:Nat):Int):=pI (by omega);simp -implicitDefEqProofs only[oS.d,J1,J2,J5,J6,↓reduceIte,reduceCtorEq,ke9];refine⟨fun h6=>?_,fun h6=>?_⟩
 ·have hi':i<x1.length:=by omega
  obtain⟨u,hu⟩:∃u,x1[i]?=some u:=⟨x1[i],ke7 hi'⟩;have hmem:=kd7 hu;have hnu:=cY (f:=cJ) hmem;have hnu2:cJ u=1+tyn u.t+aT ctn u.cts:=rfl;have iu:=zA8 u.t (by omega);have iv:=jO0 u.cts (by omega);have hg:(x1.map aD)[i]?=some (aD u):=by rw[ke6,hu];rfl
  obtain⟨un,⟨u1,u2,u3⟩,uc⟩:=u;simp only[tyV,aG,ke5,ke8]at iu iv;simp only[aD,aG,kg6,kh0]at hg;simp -implicitDefEqProofs only[oS.d,J1,J2,J5,J6,↓reduceIte,reduceCtorEq,hg,kd8,kd9];refine aQ [] iu rfl rfl rfl rfl ?_;simp -implicitDefEqProofs only[oS.d,J1,J2,J5,J6,↓reduceIte,reduceCtorEq,hg,kd8,kd9];refine aQ [] iv rfl rfl rfl rfl ?_;simp -implicitDefEqProofs only[oS.d,J2,↓reduceIte,hw];refine⟨i+1,by omega,by omega,?_⟩;exact(aL [0,1] rfl rfl rfl rfl)
 refine bC (α:=Nat) (fun i=>[(6,.one (.d (.int .i64 i))),(3,.one (.ptr 1 0)),(2,.one (.ptr 0 0))])
  (fun _=>[.box [.d (.sl (x1.map aD)),.d (.sl (x2.map aE)),.d (.sl (aA.subs x3)),.d (.sl (aA.funs x4)),.d (.sl (aA.sigs x5))],.box [.d (.sl (x1.map aD)),.d (.sl (x2.map aE)),.d (.sl (aA.subs x3)),.d (.sl (aA.funs x4)),.d (.sl (aA.sigs x5))]])
  (fun i=>i≤x2.length) (fun i=>x2.length-i) 0
  (aL [0,1] rfl rfl rfl rfl) (kg1 _) ?_
 intro i hi;have hw:IntKind.i64.wrap ((i:Int)+1)=((i+1:Nat):Int):=pI (by omega);simp -implicitDefEqProofs only[oS.d,J1,J2,J5,J6,↓reduceIte,reduceCtorEq,ke9];refine⟨fun h6=>?_,fun h6=>?_⟩
 ·have hi':i<x2.length:=by omega
  obtain⟨u,hu⟩:∃u,x2[i]?=some u:=⟨x2[i],ke7 hi'⟩;have hmem:=kd7 hu;have hnu:=cY (f:=cO) hmem;have hnu2:cO u=1+tyn u.s.t:=rfl;have iu:=jN9 u.s (by omega);have hg:(x2.map aE)[i]?=some (aE u):=by rw[ke6,hu];rfl
  obtain⟨un,⟨u0,⟨u1,u2,u3⟩⟩⟩:=u;simp only[scV,gP,aG,ke5,ke8]at iu;simp only[aE,gP,aG]at hg;simp -implicitDefEqProofs only[oS.d,J1,J2,J5,J6,↓reduceIte,reduceCtorEq,hg,kd8,kd9];refine aQ [] iu rfl rfl rfl rfl ?_;simp -implicitDefEqProofs only[oS.d,J2,↓reduceIte,hw];refine⟨i+1,by omega,by omega,?_⟩;exact(aL [0,1] rfl rfl rfl rfl)
 refine bC (α:=Nat) (fun i=>[(7,.one (.d (.int .i64 i))),(3,.one (.ptr 1 0)),(2,.one (.ptr 0 0))])
  (fun _=>[.box [.d (.sl (x1.map aD)),.d (.sl (x2.map aE)),.d (.sl (aA.subs x3)),.d (.sl (aA.funs x4)),.d (.sl (aA.sigs x5))],.box [.d (.sl (x1.map aD)),.d (.sl (x2.map aE)),.d (.sl (aA.subs x3)),.d (.sl (aA.funs x4)),.d (.sl (aA.sigs x5))]])
  (fun i=>i≤x3.length) (fun i=>x3.length-i) 0
  (aL [0,1] rfl rfl rfl rfl) (kg1 _) ?_
 intro i hi;have hw:IntKind.i64.wrap ((i:Int)+1)=((i+1:Nat):Int):=pI (by omega);simp -implicitDefEqProofs only[oS.d,J1,J2,J5,J6,↓reduceIte,reduceCtorEq,l3];refine⟨fun h6=>?_,fun h6=>?_⟩
 ·have hi':i<x3.length:=by omega
  obtain⟨u,hu⟩:∃u,x3[i]?=some u:=⟨x3[i],ke7 hi'⟩;have hmem:=kd7 hu;have hnu:=pH hmem;have iu:=ih3 u hmem (by omega);have hg:(aA.subs x3)[i]?=some (bX u):=by rw[jO1,ke6,hu];rfl
  obtain⟨un,⟨u1,u2,u3,u4,u5⟩⟩:=u;simp only[stV,aA,ke5,ke8]at iu;simp only[bX,aA]at hg;simp -implicitDefEqProofs only[oS.d,J1,J2,J5,J6,↓reduceIte,reduceCtorEq,hg,kd8,kd9];refine aQ [] iu rfl rfl rfl rfl ?_;simp -implicitDefEqProofs only[oS.d,J2,↓reduceIte,hw];refine⟨i+1,by omega,by omega,?_⟩;exact(aL [0,1] rfl rfl rfl rfl)
 refine bC (α:=Nat) (fun i=>[(8,.one (.d (.int .i64 i))),(3,.one (.ptr 1 0)),(2,.one (.ptr 0 0))])
  (fun _=>[.box [.d (.sl (x1.map aD)),.d (.sl (x2.map aE)),.d (.sl (aA.subs x3)),.d (.sl (aA.funs x4)),.d (.sl (aA.sigs x5))],.box [.d (.sl (x1.map aD)),.d (.sl (x2.map aE)),.d (.sl (aA.subs x3)),.d (.sl (aA.funs x4)),.d (.sl (aA.sigs x5))]])
  (fun i=>i≤x4.length) (fun i=>x4.length-i) 0
  (aL [0,1] rfl rfl rfl rfl) (kg1 _) ?_
 intro i hi;have hw:IntKind.i64.wrap ((i:Int)+1)=((i+1:Nat):Int):=pI (by omega);simp -implicitDefEqProofs only[oS.d,J1,J2,J5,J6,↓reduceIte,reduceCtorEq,l4];refine⟨fun h6=>?_,fun h6=>?_⟩
 ·have hi':i<x4.length:=by omega
  obtain⟨u,hu⟩:∃u,x4[i]?=some u:=⟨x4[i],ke7 hi'⟩;have hmem:=kd7 hu;have hnu:=iX hmem;have ia:=zZ6 u.2.1 (by omega);have iu:=(ih4 u hmem).1 (by omega);have iv:=zB3 u.2.2.2.1 u.2.2.2.2 (by omega) ((ih4 u hmem).2 (by omega));have hg:(aA.funs x4)[i]?=some (bT u):=by rw[iL,ke6,hu];rfl
  obtain⟨un,l1,⟨u1,u2,u3,u4,u5⟩,l2,⟨w1,w2,w3,w4,w5⟩⟩:=u;simp only[stV,abV,aA,ke5,ke8]at iu iv;simp only[bT,eU,aA,kg6,kh0]at hg;simp -implicitDefEqProofs only[oS.d,J1,J2,J5,J6,↓reduceIte,reduceCtorEq,hg,kd8,kd9];refine aQ [] ia rfl rfl rfl rfl ?_;simp -implicitDefEqProofs only[oS.d,J1,J2,J5,J6,↓reduceIte,reduceCtorEq];refine aQ [] iu rfl rfl rfl rfl ?_;simp -implicitDefEqProofs only[oS.d,J1,J2,J5,J6,↓reduceIte,reduceCtorEq];refine aQ [] iv rfl rfl rfl rfl ?_;simp -implicitDefEqProofs only[oS.d,J2,↓reduceIte,hw];refine⟨i+1,by omega,by omega,?_⟩;exact(aL [0,1] rfl rfl rfl rfl)
 refine bC (α:=Nat) (fun i=>[(11,.one (.d (.int .i64 i))),(3,.one (.ptr 1 0)),(2,.one (.ptr 0 0))])
  (fun _=>[.box [.d (.sl (x1.map aD)),.d (.sl (x2.map aE)),.d (.sl (aA.subs x3)),.d (.sl (aA.funs x4)),.d (.sl (aA.sigs x5))],.box [.d (.sl (x1.map aD)),.d (.sl (x2.map aE)),.d (.sl (aA.subs x3)),.d (.sl (aA.funs x4)),.d (.sl (aA.sigs x5))]])
  (fun i=>i≤x5.length) (fun i=>x5.length-i) 0
  (aL [0,1] rfl rfl rfl rfl) (kg1 _) ?_
 intro i hi;have hw:IntKind.i64.wrap ((i:Int)+1)=((i+1:Nat):Int):=pI (by omega);simp -implicitDefEqProofs only[oS.d,J1,J2,J5,J6,↓reduceIte,reduceCtorEq,l5];refine⟨fun h6=>?_,fun h6=>?_⟩
 ·have hi':i<x5.length:=by omega
  obtain⟨u,hu⟩:∃u,x5[i]?=some u:=⟨x5[i],ke7 hi'⟩;have hmem:=kd7 hu;have hnu:=nF hmem;have iv:=zB3 u.2.1 u.2.2 (by omega) (ih5 u hmem (by omega));have hg:(aA.sigs x5)[i]?=some (cA u):=by rw[iM,ke6,hu];rfl
  obtain⟨un,l1,⟨u1,u2,u3,u4,u5⟩⟩:=u;simp only[abV,aA,ke5,ke8]at iv;simp only[cA,aA]at hg;simp -implicitDefEqProofs only[oS.d,J1,J2,J5,J6,↓reduceIte,reduceCtorEq,hg,kd8,kd9];refine aQ [] iv rfl rfl rfl rfl ?_;simp -implicitDefEqProofs only[oS.d,J2,↓reduceIte,hw];refine⟨i+1,by omega,by omega,?_⟩;exact(aL [0,1] rfl rfl rfl rfl)
 apply aI [];rfl;rfl;exact⟨rfl,rfl⟩
end Go.Vt.Tryz
