import Derived.Test.YtdabfkmhkoppcaaGreatDoorVtSeat
import Derived.Test.YtdabfkmhkoppcaaGreatDoorVtKn
set_option linter.all false
set_option maxHeartbeats 4000000
set_option maxRecDepth 100000
open Int renaming natCast_nonneg→kq2,toNat_natCast→kq4
open List renaming cons_append→kr0,getElem?_eq_getElem→kr1,getElem?_eq_none→kz0,getElem?_map→ks1,length_cons→kr4,length_map→kr8,map_cons→kq1,map_nil→kq5,mem_cons→kt6,mem_of_getElem?→kq0,nil_append→kr2,range'_succ→kJ4,range'→kD9,range_eq_range'→kI1,range→kt4,sizeOf_lt_of_mem→kB2,take_succ_cons→kv5
open Nat renaming beq→kx4,le_of_lt→kL2,le_refl→ks0,lt_or_ge→ks3,not_lt_zero→ky7,zero_le→kt1
open Go.Proofs.Tryz renaming prog→kp8
open Go.Vt renaming dL→J0,mkV→J1
open Nat renaming reduceBEq→J2,reduceEqDiff→J3,reduceLT→J4,reduceLeDiff→J5,reduceAdd→J6,reduceMul→J7,reduceSub→J8
namespace Go.Vt
def nums (l:List Int):List (List D):=l.map fun n=>[.int .i64 n]
theorem bU (l:List Int):(nums l).length=l.length:=by simp[nums]
inductive Ty where
 |mk (kind n:Int) (kids:List Ty)
inductive Tt where
 |mk (kind n:Int) (labels:List ByteArray) (kids:List Tt)
inductive Tm where
 |mk (kind n i:Int) (name:ByteArray) (labels:List ByteArray) (types:List Tt) (kids:List Tm)
theorem Ty.ind {P:Ty→Prop} (h:∀k n l,(∀t∈l,P t)→P (.mk k n l)):∀t,P t
 |.mk k n l=>h k n l fun t _=>Ty.ind h t
 termination_by u=>SizeOf.sizeOf u
 decreasing_by
 have:=kB2 ‹_›;simp;omega
theorem Tt.ind {P:Tt→Prop} (h:∀k n ls l,(∀t∈l,P t)→P (.mk k n ls l)):∀t,P t
 |.mk k n ls l=>h k n ls l fun t _=>Tt.ind h t
 termination_by u=>SizeOf.sizeOf u
 decreasing_by
 have:=kB2 ‹_›;simp;omega
theorem Tm.ind {P:Tm→Prop} (h:∀k n i s ls ts l,(∀t∈l,P t)→P (.mk k n i s ls ts l)):∀t,P t
 |.mk k n i s ls ts l=>h k n i s ls ts l fun t _=>Tm.ind h t
 termination_by u=>SizeOf.sizeOf u
 decreasing_by
 have:=kB2 ‹_›;simp;omega
def aF:Ty→List D
 |.mk k n l=>[.int .i64 k,.int .i64 n,.sl (encs l)]
 where
 encs:List Ty→List (List D)
  |[]=>[]
  |t::r=>aF t::encs r
theorem eI:∀l,aF.encs l=l.map aF
 |[]=>rfl
 |_::r=>by simp[aF.encs,eI r]
theorem cS (l:List Ty):(aF.encs l).length=l.length:=by simp[eI]
def Ty.kids:Ty→List Ty|.mk _ _ l=>l
def Tt.kids:Tt→List Tt|.mk _ _ _ l=>l
def tyn:Ty→Nat
 |.mk _ _ l=>1+go l
 where
 go:List Ty→Nat
  |[]=>0
  |t::r=>tyn t+go r
theorem zF:∀{l:List Ty} {t:Ty},t∈l→tyn t≤tyn.go l
 |[],_,h=>by cases h
 |a::r,t,h=>by
  rcases kt6.1 h with rfl|h
  ·simp[tyn.go]
  ·have:=zF h;simp only[tyn.go];omega
structure Sc where
 gens:Int
 t:Ty
def cZ (s:Sc):List D:=.int .i64 s.gens::aF s.t
structure Ct where
 name:ByteArray
 args:List Ty
def bC (c:Ct):List D:=[.str c.name,.sl (aF.encs c.args)]
structure Tym where
 name:ByteArray
 t:Ty
 cts:List Ct
def aD (m:Tym):List D:=.str m.name::(aF m.t++[.sl (m.cts.map bC)])
structure Vam where
 name:ByteArray
 s:Sc
def aE (m:Vam):List D:=.str m.name::cZ m.s
inductive Stx where
 |mk (types:List Tym) (vals:List Vam) (subs:List (ByteArray×Stx)) (funs:List (ByteArray×List Int×Stx×List Int×Stx)) (sigs:List (ByteArray×List Int×Stx))
def aA:Stx→List D
 |.mk ts vs ss fs gs=>[.sl (ts.map aD),.sl (vs.map aE),.sl (subs ss),.sl (funs fs),.sl (sigs gs)]
 where
 subs:List (ByteArray×Stx)→List (List D)
  |[]=>[]
  |(s,x)::r=>(.str s::aA x)::subs r
 funs:List (ByteArray×List Int×Stx×List Int×Stx)→List (List D)
  |[]=>[]
  |(s,l,x,m,y)::r=>(.str s::(.sl (nums l)::(aA x++(.sl (nums m)::aA y))))::funs r
 sigs:List (ByteArray×List Int×Stx)→List (List D)
  |[]=>[]
  |(s,l,x)::r=>(.str s::(.sl (nums l)::aA x))::sigs r
theorem Stx.ind {P:Stx→Prop} (h:∀ts vs ss fs gs,(∀x∈ss,P x.2)→(∀x∈fs,P x.2.2.1∧P x.2.2.2.2)→(∀x∈gs,P x.2.2)→P (.mk ts vs ss fs gs)):∀s,P s
 |.mk ts vs ss fs gs=>h ts vs ss fs gs (fun x _=>Stx.ind h x.2) (fun x _=>⟨Stx.ind h x.2.2.1,Stx.ind h x.2.2.2.2⟩) (fun x _=>Stx.ind h x.2.2)
 termination_by u=>SizeOf.sizeOf u
 decreasing_by
 all_goals
  have h1:=kB2 ‹_›;obtain⟨a,b⟩:=x;first
  |(simp at h1 ⊢;omega)
  |(obtain⟨b,c,d,e⟩:=b;simp at h1 ⊢;omega)
  |(obtain⟨b,c⟩:=b;simp at h1 ⊢;omega)
def Stx.types:Stx→List Tym|.mk a _ _ _ _=>a
def Stx.vals:Stx→List Vam|.mk _ a _ _ _=>a
def Stx.subs:Stx→List (ByteArray×Stx)|.mk _ _ a _ _=>a
def Stx.funs:Stx→List (ByteArray×List Int×Stx×List Int×Stx)|.mk _ _ _ a _=>a
def Stx.sigs:Stx→List (ByteArray×List Int×Stx)|.mk _ _ _ _ a=>a
end Go.Vt
namespace Go.Vt.Tryz
abbrev FnE:=List Int×Stx×List Int×Stx
abbrev iN:=ByteArray×List Int×Stx
def cU (x:FnE):List D:=.sl (nums x.1)::(aA x.2.1++(.sl (nums x.2.2.1)::aA x.2.2.2))
def cA (m:ByteArray×Stx):List D:=.str m.1::aA m.2
def bW (m:ByteArray×FnE):List D:=.str m.1::cU m.2
def cB (x:iN):List D:=.str x.1::(.sl (nums x.2.1)::aA x.2.2)
theorem zG:∀l,aA.subs l=l.map fun m=>D.str m.1::aA m.2
 |[]=>rfl
 |(s,x)::r=>by simp[aA.subs,zG r]
theorem lR:∀l,aA.funs l=l.map bW
 |[]=>rfl
 |(s,l,x,m,y)::r=>by simp[aA.funs,lR r,bW,cU]
theorem lS:∀l,aA.sigs l=l.map cB
 |[]=>rfl
 |(s,l,x)::r=>by simp[aA.sigs,lS r,cB]
def aK {α:Type} (f:α→Nat):List α→Nat
 |[]=>0
 |a::r=>f a+aK f r
theorem dB {α:Type} {f:α→Nat}:∀{l:List α} {a:α},a∈l→f a≤aK f l
 |b::r,a,h=>by
  rcases kt6.1 h with rfl|h
  ·simp[aK]
  ·have:=dB (f:=f) h;simp only[aK];omega
theorem eC {α:Type} {f:α→Nat} (hf:∀a,1≤f a):∀l:List α,l.length≤aK f l
 |[]=>ks0 _
 |a::r=>by have:=eC hf r;have:=hf a;simp only[aK,kr4];omega
def ctn (c:Ct):Nat:=1+tyn.go c.args
def dC (m:Tym):Nat:=1+tyn m.t+aK ctn m.cts
def dJ (m:Vam):Nat:=1+tyn m.s.t
def stn:Stx→Nat
 |.mk ts vs ss fs gs=>1+aK dC ts+aK dJ vs+goS ss+goF fs+goG gs
 where
 goS:List (ByteArray×Stx)→Nat
  |[]=>0
  |(_,x)::r=>1+stn x+goS r
 goF:List (ByteArray×List Int×Stx×List Int×Stx)→Nat
  |[]=>0
  |(_,l,x,m,y)::r=>1+l.length+stn x+m.length+stn y+goF r
 goG:List (ByteArray×List Int×Stx)→Nat
  |[]=>0
  |(_,l,x)::r=>1+l.length+stn x+goG r
theorem wC:∀{l:List (ByteArray×Stx)} {m:ByteArray×Stx},m∈l→stn m.2≤stn.goS l
 |(a,b)::r,m,h=>by
  rcases kt6.1 h with rfl|h
  ·simp[stn.goS];omega
  ·have:=wC h;simp only[stn.goS];omega
theorem oF:∀{l:List (ByteArray×List Int×Stx×List Int×Stx)} {m:ByteArray×List Int×Stx×List Int×Stx},m∈l→m.2.1.length+stn m.2.2.1+m.2.2.2.1.length+stn m.2.2.2.2≤stn.goF l
 |(a,b,c,d,e)::r,m,h=>by
  rcases kt6.1 h with rfl|h
  ·simp[stn.goF];omega
  ·have:=oF h;simp only[stn.goF];omega
theorem tT:∀{l:List (ByteArray×List Int×Stx)} {m:ByteArray×List Int×Stx},m∈l→m.2.1.length+stn m.2.2≤stn.goG l
 |(a,b,c)::r,m,h=>by
  rcases kt6.1 h with rfl|h
  ·simp[stn.goG];omega
  ·have:=tT h;simp only[stn.goG];omega
theorem zF4:∀l:List (ByteArray×Stx),l.length≤stn.goS l
 |[]=>ks0 _
 |(a,b)::r=>by have:=zF4 r;simp only[stn.goS,kr4];omega
theorem zF5:∀l:List (ByteArray×List Int×Stx×List Int×Stx),l.length≤stn.goF l
 |[]=>ks0 _
 |(a,b,c,d,e)::r=>by have:=zF5 r;simp only[stn.goF,kr4];omega
theorem zF6:∀l:List (ByteArray×List Int×Stx),l.length≤stn.goG l
 |[]=>ks0 _
 |(a,b,c)::r=>by have:=zF6 r;simp only[stn.goG,kr4];omega
theorem mK:∀l:List Ty,tyn.go l=aK tyn l
 |[]=>rfl
 |t::r=>by simp only[tyn.go,aK,mK r]
def stW (x:Stx):V:=.agg ((aA x).map .d)
def abW (l:List Int) (x:Stx):V:=.agg ((L.d (.sl (nums l)))::(aA x).map .d)
theorem qA:∀l,aA.subs l=l.map cA:=zG
def eZ (m:ByteArray×Stx):Nat:=1+stn m.2
def eQ (m:ByteArray×FnE):Nat:=1+m.2.1.length+stn m.2.2.1+m.2.2.2.1.length+stn m.2.2.2.2
def fJ (m:iN):Nat:=1+m.2.1.length+stn m.2.2
theorem qB:∀l:List (ByteArray×Stx),stn.goS l=aK eZ l
 |[]=>rfl
 |(a,b)::r=>by simp only[stn.goS,aK,qB r,eZ]
theorem qC:∀l:List (ByteArray×FnE),stn.goF l=aK eQ l
 |[]=>rfl
 |(a,b,c,d,e)::r=>by simp only[stn.goF,aK,qC r,eQ]
theorem qD:∀l:List iN,stn.goG l=aK fJ l
 |[]=>rfl
 |(a,b,c)::r=>by simp only[stn.goG,aK,qD r,fJ]
theorem kJ (l:List (ByteArray×Stx)):(aA.subs l).length=l.length:=by rw[qA,kr8]
theorem lT (l:List (ByteArray×FnE)):(aA.funs l).length=l.length:=by rw[lR,kr8]
theorem lU (l:List iN):(aA.sigs l).length=l.length:=by rw[lS,kr8]
theorem qE (u:Tym):dC u=1+tyn u.t+aK ctn u.cts:=rfl
theorem wD (u:Vam):dJ u=1+tyn u.s.t:=rfl
theorem tU (u:ByteArray×Stx):eZ u=1+stn u.2:=rfl
theorem qH (u:ByteArray×FnE):eQ u=1+u.2.1.length+stn u.2.2.1+u.2.2.2.1.length+stn u.2.2.2.2:=rfl
theorem tV (u:iN):fJ u=1+u.2.1.length+stn u.2.2:=rfl
theorem tW (c:Ct):ctn c=1+aK tyn c.args:=by show 1+tyn.go c.args=_;rw[mK]
theorem qI {α:Type} {f:α→Nat}:∀{l:List α} {i:Nat} {a:α},l[i]?=some a→aK f (l.take (i+1))=aK f (l.take i)+f a
 |b::r,0,a,h=>by
  have:b=a:=by simpa using h
  subst this;simp[aK]
 |b::r,i+1,a,h=>by
  have:=qI (f:=f) (l:=r) (i:=i) (a:=a) (by simpa using h);simp only[kv5,aK,this];omega
theorem oY {α:Type} {f:α→Nat}:∀(l:List α) (i:Nat),aK f (l.take i)≤aK f l
 |[],i=>by simp[aK]
 |b::r,0=>by simp[aK]
 |b::r,i+1=>by
  have:=oY (f:=f) r i;simp only[kv5,aK];omega
theorem zg6 {x:Stx} {B:Nat} (h:stn x≤B):x.subs.length≤B∧x.vals.length≤B∧x.types.length≤B∧x.funs.length≤B∧x.sigs.length≤B:=by
 obtain⟨a,b,c,d,e⟩:=x;simp only[stn]at h;simp only[Stx.subs,Stx.vals,Stx.types,Stx.funs,Stx.sigs];have h1:=eC (f:=dC) (fun m=>by simp[dC];omega) a;have h2:=eC (f:=dJ) (fun m=>by simp[dJ]) b;have h3:=zF4 c;have h4:=zF5 d;have h5:=zF6 e;omega
open Go.Proofs
theorem oZ {i:Nat} (h:i<1000000000000):IntKind.i64.wrap ((i:Int)+1)=((i+1:Nat):Int):=by rw[IntKind.wrap_i64];omega
theorem zF7 (n:Int):VC kp8 119 [.one (.d (.int .i64 n)),.one (.d (.int .i64 n))] [] fun r h'=>r = .one (.d (.int .i64 0))∧h'=[]:=by
 refine aU mixed jL2 (by simp) ?_;show vwp kp8 0 zy3 _ [(0,.one (.d (.int .i64 n))),(1,.one (.d (.int .i64 n)))] [];conv in zy3=>cbv
 rw[aO];have hn:¬n<n:=by omega
 simp -implicitDefEqProofs only[oS.d,J0,J1,J2,J3,J4,J5,J6,J7,J8,↓reduceIte,reduceCtorEq,hn];apply aH [];rfl;rfl;exact⟨rfl,rfl⟩
def tyV (t:Ty):V:=.agg ((aF t).map .d)
theorem zH:∀l:List Ty,l.length≤tyn.go l
 |[]=>ks0 _
 |.mk _ _ l::r=>by have:=zH r;simp only[tyn.go,tyn,kr4];omega
theorem jW0:∀(t:Ty),tyn t<1000000000→VC kp8 61 [tyV t,tyV t] [] fun r h'=>r = .one (.d (.int .i64 0))∧h'=[]:=by
 intro t;induction t using Ty.ind with
 |h k n kids ih=>
 intro hp;simp only[tyn]at hp;have hlen:=zH kids;refine aU mixed jJ1 (by simp) ?_;show vwp kp8 0 zw2 _ [(0,.agg [.d (.int .i64 k),.d (.int .i64 n),.d (.sl (aF.encs kids))]),(1,.agg [.d (.int .i64 k),.d (.int .i64 n),.d (.sl (aF.encs kids))])] [];conv in zw2=>cbv
 rw[aO];simp -implicitDefEqProofs only[oS.d,J0,J1,J2,J3,J4,J5,J6,J7,J8,↓reduceIte,reduceCtorEq,cS];refine aM [] (zF7 k) rfl rfl rfl rfl ?_;simp -implicitDefEqProofs only[oS.d,J0,J1,J2,J3,J4,J5,J6,J7,J8,↓reduceIte,reduceCtorEq,cS];refine aM [] (zF7 n) rfl rfl rfl rfl ?_;simp -implicitDefEqProofs only[oS.d,J0,J1,J2,J3,J4,J5,J6,J7,J8,↓reduceIte,reduceCtorEq,cS];refine aM [] (zF7 kids.length) rfl rfl rfl rfl ?_;simp -implicitDefEqProofs only[oS.d,J0,J1,J2,J3,J4,J5,J6,J7,J8,↓reduceIte,reduceCtorEq,cS];refine bE (α:=Nat) (fun i=>[(8,.one (.d (.int .i64 i))),(3,.one (.ptr 1 0)),(2,.one (.ptr 0 0))])
  (fun _=>[.box [.d (.int .i64 k),.d (.int .i64 n),.d (.sl (aF.encs kids))],.box [.d (.int .i64 k),.d (.int .i64 n),.d (.sl (aF.encs kids))]])
  (fun i=>i≤kids.length) (fun i=>kids.length-i) 0
  (aP [0,1] rfl rfl rfl rfl) (kt1 _) ?_
 intro i hi;have hw:IntKind.i64.wrap ((i:Int)+1)=((i+1:Nat):Int):=oZ (by omega);simp -implicitDefEqProofs only[oS.d,J0,J1,J2,J3,J4,J5,J6,J7,J8,↓reduceIte,reduceCtorEq,cS];refine⟨fun h5=>?_,fun h5=>?_⟩
 ·have hi':i<kids.length:=by omega
  obtain⟨u,hu⟩:∃u,kids[i]?=some u:=⟨kids[i],kr1 hi'⟩;have hmem:=kq0 hu;have hnu:=zF hmem;have iu:=ih u hmem (by omega);have hg:(aF.encs kids)[i]?=some (aF u):=by rw[eI,ks1,hu];rfl
  obtain⟨uk,un,uc⟩:=u;simp only[tyV,aF,kq1,kq5]at iu hg;simp -implicitDefEqProofs only[oS.d,J0,J1,J2,J3,J4,J5,J6,J7,J8,↓reduceIte,reduceCtorEq,hg,kq2,kq4];refine aM [] iu rfl rfl rfl rfl ?_;simp -implicitDefEqProofs only[oS.d,J0,J1,J2,J3,J4,J5,J6,J7,J8,↓reduceIte,reduceCtorEq,hw];refine⟨i+1,by omega,by omega,?_⟩;exact(aP [0,1] rfl rfl rfl rfl)
 ·apply aH [];rfl;rfl;exact⟨rfl,rfl⟩
theorem zF8 (t:Ty) (hp:tyn t<1000000000):VC kp8 16 [tyV t,tyV t] [] fun r h'=>r = .one (.d (.bool true))∧h'=[]:=by
 have ih:=jW0 t hp;obtain⟨k,n,kids⟩:=t;refine aU mixed jI2 (by simp) ?_;show vwp kp8 0 zv3 _ [(0,.agg [.d (.int .i64 k),.d (.int .i64 n),.d (.sl (aF.encs kids))]),(1,.agg [.d (.int .i64 k),.d (.int .i64 n),.d (.sl (aF.encs kids))])] [];conv in zv3=>cbv
 rw[aO];simp -implicitDefEqProofs only[oS.d,J0,J1,J2,J3,J4,J5,J6,J7,J8,↓reduceIte,reduceCtorEq];refine aM [] ih rfl rfl rfl rfl ?_;simp -implicitDefEqProofs only[oS.d,J0,J1,J2,J3,J4,J5,J6,J7,J8,↓reduceIte,reduceCtorEq];apply aH [];rfl;rfl;exact⟨rfl,rfl⟩
def scV (s:Sc):V:=.agg ((cZ s).map .d)
theorem jW1 (s:Sc) (hp:tyn s.t<1000000000):VC kp8 11 [scV s,scV s] [] fun r h'=>r = .one (.d (.bool true))∧h'=[]:=by
 obtain⟨g,t⟩:=s;have ih:=zF8 t hp;obtain⟨k,n,kids⟩:=t;refine aU mixed jI1 (by simp) ?_;show vwp kp8 0 zv2 _ [(0,.agg [.d (.int .i64 g),.d (.int .i64 k),.d (.int .i64 n),.d (.sl (aF.encs kids))]),(1,.agg [.d (.int .i64 g),.d (.int .i64 k),.d (.int .i64 n),.d (.sl (aF.encs kids))])] [];conv in zv2=>cbv
 rw[aO];simp -implicitDefEqProofs only[oS.d,J0,J1,J2,J3,J4,J5,J6,J7,J8,↓reduceIte,reduceCtorEq];refine aM [] ih rfl rfl rfl rfl ?_;simp -implicitDefEqProofs only[oS.d,J0,J1,J2,J3,J4,J5,J6,J7,J8,↓reduceIte,reduceCtorEq];apply aH [];rfl;rfl;exact⟨rfl,rfl⟩
theorem iP {l:List Int} {i:Nat} {n:Int} (h:l[i]?=some n):(nums l)[i]?=some [.int .i64 n]:=by simp[nums,h]
section iter
variable {P:Program} {n:Nat} {Y:kX} {T:Sl} {ys:List Tmp} {h:aB} {pd:Option VX}
theorem lB {l:List VOp} {d:Option Tmp} {op:Op} {r:V} {h':aB} {K:KO} (hy:yop (VOp.mk d op none) ys = .no) (hv:vop P T h (mkO op)=some (r,h')) (hk:eH P Y l (bI T d r) (jF d ys) h' pd K):eH P Y (VOp.mk d op none::l) T ys h pd K:=by
 show lP P Y (VOp.mk d op none) T ys h pd _;unfold lP;rw[hy];show iJ P (VOp.mk d op none) T h _;unfold iJ lO eW;simp only[hv];exact hk
theorem z57 {l:List VOp} {d:Tmp} {op:Op} {K:KO} (hy:yop (VOp.mk (some d) op none) ys = .mv d) (hk:eH P Y l ((d,.one .any)::T) (d::ys) h pd K):eH P Y (VOp.mk (some d) op none::l) T ys h pd K:=by
 show lP P Y (VOp.mk (some d) op none) T ys h pd _;unfold lP;rw[hy];exact hk
theorem z58 {l:List VOp} {d:Option Tmp} {op:Op} {args:List Operand} {vs:List V} {K:KO} (hy:yop (VOp.mk d op none) ys = .yl args) (ha:eO T args=some vs) (hk:Y vs h fun pd' h'=>eH P Y l (bI T d (.one (.d (.bool pd'.isNone)))) (jF d ys) h' pd' K):eH P Y (VOp.mk d op none::l) T ys h none K:=by
 show lP P Y (VOp.mk d op none) T ys h none _;unfold lP;rw[hy];exact⟨rfl,vs,ha,hk⟩
theorem rV {a b:Nat} (h:a≠b):kx4 a b=false:=by
 cases e:kx4 a b with
 |false=>rfl
 |true=>exact absurd (Nat.eq_of_beq_eq_true e) h
inductive Yd:Nat→List Tmp→Prop
 |base:Yd 0 [0]
 |more {b:Nat} {ys:List Tmp}:Yd b ys→Yd (b+1) (11::ys)
theorem Yd.mem0 {b:Nat} {ys:List Tmp} (hy:Yd b ys):iK 0 ys=true:=by
 induction hy with
 |base=>rfl
 |more _ ih=>exact ih
theorem Yd.memN {b j:Nat} {ys:List Tmp} (hy:Yd b ys) (h0:j≠0) (h1:j≠11):iK j ys=false:=by
 induction hy with
 |base=>show(kx4 j 0||false)=false;rw[rV h0];rfl
 |@more b ys _ ih=>show(kx4 j 11||iK j ys)=false;rw[rV h1,ih];rfl
theorem Yd.drop {b d:Nat} {ys:List Tmp} (h0:d≠0) (h1:d≠11) (hy:Yd b ys):Yd b (jF (some d) ys):=by
 induction hy with
 |base=>show Yd 0 (if kx4 0 d=true then []else [0]);rw[rV (Ne.symm h0)];exact .base
 |@more b ys _ ih=>
  show Yd (b+1) (if kx4 11 d=true then jF (some d) ys else 11::jF (some d) ys);rw[rV (Ne.symm h1)];exact .more ih
theorem gK {b:Nat} {l:List VOp} {d:Tmp} {op:Op} {r:V} {h':aB} {K:KO} (hy:Yd b ys) (hop:yop (VOp.mk (some d) op none) ys = .no) (h0:d≠0) (h1:d≠11) (hv:vop P T h (mkO op)=some (r,h')) (hk:∀ys,Yd b ys→eH P Y l ((d,r)::T) ys h' pd K):eH P Y (VOp.mk (some d) op none::l) T ys h pd K:=
 lB hop hv (hk _ (hy.drop h0 h1))
theorem rW {b d i:Nat} (hy:Yd b ys) (h0:i≠0) (h1:i≠11):yop (VOp.mk (some d) (.move (.tmp i)) none) ys = .no:=by
 show(if iK i ys=true then YOp.mv d else .no)=_;rw[hy.memN h0 h1];rfl
theorem z59 {b:Nat} {l:List VOp} {K:KO} (hy:Yd b ys) (hk:∀ys,Yd (b+1) ys→eH P Y l ((11,.one .any)::T) ys h pd K):eH P Y (VOp.mk (some 11) (.move (.tmp 0)) none::l) T ys h pd K:=by
 refine z57 ?_ (hk _ ?_)
 ·show(if iK 0 ys=true then YOp.mv 11 else .no)=_;rw[hy.mem0];rfl
 ·exact .more hy
theorem z60 {b:Nat} {l:List VOp} {d:Tmp} {args:Array Operand} {ts:Array TypeId} {vs:List V} {K:KO} (hy:Yd (b+1) ys) (h0:d≠0) (h1:d≠11) (ha:eO T args.toList=some vs) (hk:∀ys,Yd (b+1) ys→Y vs h fun pd' h'=>eH P Y l ((d,.one (.d (.bool pd'.isNone)))::T) ys h' pd' K):eH P Y (VOp.mk (some d) (.call (.mk (.value (.tmp 11)) args ts)) none::l) T ys h none K:=by
 refine z58 (args:=args.toList) ?_ ha (hk _ (hy.drop h0 h1));show(if iK 11 ys=true then YOp.yl args.toList else .no)=_;have:iK 11 ys=true:=by
  cases hy with
  |more _=>rfl
 rw[this];rfl
theorem wF:∀{l:List Nat} {id:Nat} {n:Nat},l=kt4 n→id<n→idx l id=some id:=by
 have key:∀(m s id:Nat),s≤id→id<s+m→idx (kD9 s m) id=some (id-s):=by
  intro m;induction m with
  |zero=>intro s id h1 h2;omega
  |succ m ih=>
   intro s id h1 h2;rw[kJ4];show(if s=id then some 0 else (idx (kD9 (s+1) m) id).map (·+1))=_;split
   ·rename_i e;subst e;simp
   ·rw[ih (s+1) id (by omega) (by omega)];simp only[Option.map_some]
    congr 1
    omega
 intro l id n e hlt;subst e;rw[kI1,key n 0 id (by omega) (by omega)];simp
theorem zg7 {m:Nat→Option Nat} {h r:aB}:∀{ids:List Nat} {x:aB},bA h m ids=some x→bA (h++r) m ids=some x
 |[],_,e=>e
 |id::l,x,e=>by
  unfold bA at e ⊢;cases ho:h[id]? with
  |none=>simp[ho]at e
  |some o=>
   have hlt:id<h.length:=(List.getElem?_eq_some_iff.1 ho).1;rw[List.getElem?_append_left hlt,ho];simp only[ho]at e ⊢;cases h1:bD m o with
   |none=>simp[h1]at e
   |some x1=>
    cases h2:bA h m l with
    |none=>simp[h1,h2]at e
    |some x2=>
     simp only[h1,h2]at e;simp only[zg7 h2];exact e
theorem nodup_range (n:Nat):bO (kt4 n)=true:=by
 have key:∀(m s:Nat),bO (kD9 s m)=true:=by
  intro m;induction m with
  |zero=>intro s;rfl
  |succ m ih=>
   intro s;rw[kJ4];show(!(kD9 (s+1) m).contains s&&bO (kD9 (s+1) m))=true;rw[ih];simp[List.mem_range'];omega
 rw[kI1];exact key n 0
theorem rX {z:Int} (h1:-1≤z) (h2:z<1000000000):IntKind.i64.wrap z=z:=by rw[IntKind.wrap_i64];omega
theorem wG {K:KY}:dY P n Y .skip K T ys h pd=K .normal T ys h pd:=rfl
theorem mL {l:List VOp} {K:KY}:dY P n Y (.ops l) K T ys h pd=eH P Y l T ys h pd (K .normal):=rfl
theorem kK {a b:aC} {K:KY}:dY P n Y (.seq a b) K T ys h pd=dY P n Y a (fI (dY P n Y b K) K) T ys h pd:=rfl
theorem rY {c:Operand} {x y:aC} {K:KY}:dY P n Y (.cond c x y) K T ys h pd=iX (opd T c) (dY P n Y x K T ys h pd) (dY P n Y y K T ys h pd):=rfl
theorem wH {id:Nat} {c:aC} {K:KY}:dY P n Y (.block id c) K T ys h pd=dY P n Y c (xS id K) T ys h pd:=rfl
theorem zF9 {c:aC} {K:KY}:dY P n Y (.loop c) K T ys h pd=∃I:Nat→KO,(∃k T0 h0,fG n T h T0 h0∧I k T0 ys h0 pd)∧
   ∀k T ys h pd,I k T ys h pd→dY P n Y c (fI (fun T' ys' h' pd'=>∃m T0 h0,m<k∧fG n T' h' T0 h0∧I m T0 ys' h0 pd') K) T ys h pd:=rfl
theorem lC {K:KO}:eH P Y [] T ys h pd K=K T ys h pd:=rfl
theorem rZ {T:Sl} {h:aB} {op:BinOp} {x y:Operand} {a b:Int} {d:D} (hx:opd T x=some (.one (.d (.int .i64 a)))) (hy:opd T y=some (.one (.d (.int .i64 b)))) (hd:gZ kp8 h 3 (.int .i64) op (.one (.d (.int .i64 a))) (.one (.d (.int .i64 b)))=some d):vop kp8 T h (mkO (.binOp op 3 x y 3))=some (.one (.d d),h):=by
 simp only[vop,hx,hy,ti3,hd]
end iter
section
variable {Q:VX→Sl→aB→Prop} {h:aB}
theorem tX {A:Sl→aB→Prop}:vG A Q .normal=A:=rfl
theorem zG0 {ids:List Nat}:∀x:List D,cW h ids (x.map .d)=some (x.map .d)
 |[]=>rfl
 |d::r=>by simp only[kq1,cW,zG0 r];rfl
theorem zG1 {ids:List Nat}:∀x:List D,lK ids (x.map .d)=[]
 |[]=>rfl
 |d::r=>by simp only[kq1,lK,zG1 r];rfl
end
theorem oG {a b c:Nat} (h:a+b=c) (hc:c<1000000000000):IntKind.i64.wrap ((a:Int)+(b:Int))=(c:Int):=by rw[IntKind.wrap_i64];omega
theorem bQ {a c:Nat} (h:a+1=c) (hc:c<1000000000000):IntKind.i64.wrap ((a:Int)+1)=(c:Int):=by rw[IntKind.wrap_i64];omega
theorem mM {a b c:Nat} (h:a=b+c) (ha:a<1000000000000):IntKind.i64.wrap ((a:Int)-(b:Int))=(c:Int):=by rw[IntKind.wrap_i64];omega
theorem zg8 {a c:Nat} (h:a=c+1) (ha:a<1000000000000):IntKind.i64.wrap ((a:Int)-1)=(c:Int):=by rw[IntKind.wrap_i64];omega
structure lV (tS tE:TypeId) (k:Nat):Prop where
 S:∃b z b2 zs,ti kp8 tS=some (TI.mk 1 b false z TK.slice [] (some (EI.mk k b2 (some (.agg zs)) true)))∧b2≤1000∧zs.length=k∧k≠0
 E:∃b z fs,ti kp8 tE=some (TI.mk k b true z TK.struct fs none)
theorem bK {α:Type} {l:List α} {i:Nat} (h:i<l.length):∃x,l[i]?=some x:=⟨l[i],kr1 h⟩
section
variable {tS tE:TypeId} {k:Nat}
theorem z61 (H:lV tS tE k) {f:FuncId} (hF:aJ kp8 f 8 (pZ tS) [.tmp 2]) (es:List (List D)) (hr:mC k es=true) (hbig:es.length<1000000000) :
  VC kp8 f [.one (.d (.sl es))] [] fun r h'=>(es=[]∧r = .one .nils∧h'=[])∨(r = .one (.own 0 1 es.length)∧h'=[.arr false k 1 es]):=by
 obtain⟨b1,z1,b2,z2,hS,hb2,hz2,hk0⟩:=H.S;refine aU mixed hF (by simp) ?_;show vwp kp8 0 (pZ tS) _ [(0,.one (.d (.sl es)))] [];unfold pZ;rw[aO];have hbb:es.length*b2≤aV:=by
  have:=Nat.mul_le_mul (kL2 hbig) hb2;unfold aV;omega
 have hb3:es.length≤aV:=by unfold aV;omega
 have hr2:=hr;unfold mC at hr2;simp -implicitDefEqProofs only[oS.d,J0,J1,J2,J3,J4,J5,J6,J7,J8,↓reduceIte,reduceCtorEq,zs3 hS rfl,lQ hS rfl,mH hS rfl,hr2,hbb,hb3,hz2,hk0,Nat.zero_mul,kt1];refine⟨fun he=>?_,?_⟩
 ·apply aH [];rfl;rfl;exact .inl ⟨he,rfl,rfl⟩
 ·apply aH [0];rfl;rfl;exact .inr ⟨rfl,rfl⟩
end
noncomputable def eqB {α:Type} (x y:α):Bool:=@decide (x=y) (Classical.propDecidable _)
section
variable {α:Type} {x y:α} {l l':List α} {i:Nat}
theorem zG2:eqB x x=true:=by simp[eqB]
theorem jP (h:x=y):eqB x y=true:=by subst h;exact zG2
theorem dD (h:x≠y):eqB x y=false:=by simp[eqB,h]
theorem gL (h:eqB x y=true):x=y:=by simpa[eqB]using h
theorem gM (h:eqB x y=false):x≠y:=by simpa[eqB]using h
theorem qJ (hu:l[i]?=some x) (hv:l'[i]?=some y) (h:x≠y):l≠l':=fun e=>h (Option.some.inj (hu.symm.trans (e▸hv)))
theorem qK (he:∀j,j<i→l[j]?=l'[j]?) (hu:l[i]?=some x) (hv:l'[i]?=some y) (h:x=y):∀j,j<i+1→l[j]?=l'[j]?:=fun j hj=>by
 rcases ks3 j i with h1|h1
 ·exact he j h1
 ·obtain rfl:j=i:=by omega
  rw[hu,hv,h]
theorem qL (hl:l.length=l'.length) (he:∀j,j<l.length→l[j]?=l'[j]?):l=l':=List.ext_getElem? fun j=>by
 rcases ks3 j l.length with h1|h1
 ·exact he j h1
 ·rw[kz0 h1,kz0 (by omega)]
end
theorem z62 (l:List Int) (hp:l.length<1000000000):VC kp8 66 [.one (.d (.sl (nums l))),.one (.d (.sl (nums l)))] [] fun r h'=>r = .one (.d (.bool true))∧h'=[]:=by
 refine aU mixed jJ3 (by simp) ?_;show vwp kp8 0 zw4 _ [(0,.one (.d (.sl (nums l)))),(1,.one (.d (.sl (nums l))))] [];conv in zw4=>cbv
 rw[aO];simp -implicitDefEqProofs only[oS.d,J0,J1,J2,J3,J4,J5,J6,J7,J8,↓reduceIte,reduceCtorEq,bU];refine bE (α:=Nat) (fun i=>[(5,.one (.d (.int .i64 i))),(0,.one (.d (.sl (nums l)))),(1,.one (.d (.sl (nums l))))]) (fun _=>[])
  (fun i=>i≤l.length) (fun i=>l.length-i) 0
  (aP [] rfl rfl rfl rfl) (kt1 _) ?_
 intro i hi;have hw:IntKind.i64.wrap ((i:Int)+1)=((i+1:Nat):Int):=oZ (by omega);simp -implicitDefEqProofs only[oS.d,J0,J1,J2,J3,J4,J5,J6,J7,J8,↓reduceIte,reduceCtorEq,bU];refine⟨fun h5=>?_,fun h5=>?_⟩
 ·have hi':i<l.length:=by omega
  obtain⟨u,hu⟩:∃u,l[i]?=some u:=⟨l[i],kr1 hi'⟩;have hg:=iP hu;simp -implicitDefEqProofs only[oS.d,J0,J1,J2,J3,J4,J5,J6,J7,J8,↓reduceIte,reduceCtorEq,hg,hw,kq2,kq4];refine⟨i+1,by omega,by omega,?_⟩;exact(aP [] rfl rfl rfl rfl)
 ·apply aH [];rfl;rfl;exact⟨rfl,rfl⟩
theorem jW2 (l:List Ct) (hp:aK ctn l<1000000000):VC kp8 65 [.one (.d (.sl (l.map bC))),.one (.d (.sl (l.map bC)))] [] fun r h'=>r = .one (.d (.bool true))∧h'=[]:=by
 have hlen:=eC (f:=ctn) (fun c=>by simp[ctn]) l;refine aU mixed jJ2 (by simp) ?_;show vwp kp8 0 zw3 _ [(0,.one (.d (.sl (l.map bC)))),(1,.one (.d (.sl (l.map bC))))] [];conv in zw3=>cbv
 rw[aO];simp -implicitDefEqProofs only[oS.d,J0,J1,J2,J3,J4,J5,J6,J7,J8,↓reduceIte,reduceCtorEq,kr8];refine bE (α:=Nat) (fun i=>[(5,.one (.d (.int .i64 i))),(0,.one (.d (.sl (l.map bC)))),(1,.one (.d (.sl (l.map bC))))]) (fun _=>[])
  (fun i=>i≤l.length) (fun i=>l.length-i) 0
  (aP [] rfl rfl rfl rfl) (kt1 _) ?_
 intro i hi;have hw:IntKind.i64.wrap ((i:Int)+1)=((i+1:Nat):Int):=oZ (by omega);simp -implicitDefEqProofs only[oS.d,J0,J1,J2,J3,J4,J5,J6,J7,J8,↓reduceIte,reduceCtorEq,kr8];refine⟨fun h5=>?_,fun h5=>?_⟩
 ·have hi':i<l.length:=by omega
  obtain⟨u,hu⟩:∃u,l[i]?=some u:=⟨l[i],kr1 hi'⟩;have hmem:=kq0 hu;have hnu:=dB (f:=ctn) hmem;have hg:(l.map bC)[i]?=some (bC u):=by rw[ks1,hu];rfl
  obtain⟨un,uc⟩:=u;simp only[ctn]at hnu;have hcl:=zH uc;simp only[bC]at hg;simp -implicitDefEqProofs only[oS.d,J0,J1,J2,J3,J4,J5,J6,J7,J8,↓reduceIte,reduceCtorEq,hg,kq2,kq4,cS];refine bE (α:=Nat) (fun k=>[(6,.one (.d (.int .i64 k))),(5,.one (.d (.int .i64 i))),(0,.one (.d (.sl (l.map bC)))),(1,.one (.d (.sl (l.map bC))))]) (fun _=>[])
   (fun k=>k≤uc.length) (fun k=>uc.length-k) 0
   (aP [] rfl rfl rfl rfl) (kt1 _) ?_
  intro k hk;have hwk:IntKind.i64.wrap ((k:Int)+1)=((k+1:Nat):Int):=oZ (by omega);simp -implicitDefEqProofs only[oS.d,J0,J1,J2,J3,J4,J5,J6,J7,J8,↓reduceIte,reduceCtorEq,hg,kq2,kq4,cS];refine⟨fun h6=>?_,fun h6=>?_⟩
  ·have hk':k<uc.length:=by omega
   obtain⟨t,ht⟩:∃t,uc[k]?=some t:=⟨uc[k],kr1 hk'⟩;have hmt:=zF (kq0 ht);have iu:=zF8 t (by omega);have hgt:(aF.encs uc)[k]?=some (aF t):=by rw[eI,ks1,ht];rfl
   obtain⟨tk,tn,tc⟩:=t;simp only[tyV,aF,kq1,kq5]at iu hgt;simp -implicitDefEqProofs only[oS.d,J0,J1,J2,J3,J4,J5,J6,J7,J8,↓reduceIte,reduceCtorEq,hg,hgt,kq2,kq4];refine aM [] iu rfl rfl rfl rfl ?_;simp -implicitDefEqProofs only[oS.d,J0,J1,J2,J3,J4,J5,J6,J7,J8,↓reduceIte,reduceCtorEq,hwk];refine⟨k+1,by omega,by omega,?_⟩;exact(aP [] rfl rfl rfl rfl)
  ·simp -implicitDefEqProofs only[oS.d,J0,J1,J2,J3,J4,J5,J6,J7,J8,↓reduceIte,reduceCtorEq,hw];refine⟨i+1,by omega,by omega,?_⟩;exact(aP [] rfl rfl rfl rfl)
 ·apply aH [];rfl;rfl;exact⟨rfl,rfl⟩
theorem jW3:∀l,aA.subs l=l.map cA:=zG
def stV (x:Stx):V:=.agg ((aA x).map .d)
def abV (l:List Int) (x:Stx):V:=.agg ((L.d (.sl (nums l)))::(aA x).map .d)
theorem zG3 (l:List Int) (x:Stx) (hl:l.length<1000000000) (ih:VC kp8 20 [stV x,stV x] [] fun r h'=>r = .one (.d (.bool true))∧h'=[]) :
  VC kp8 24 [abV l x,abV l x] [] fun r h'=>r = .one (.d (.bool true))∧h'=[]:=by
 have hi:=z62 l hl;obtain⟨x1,x2,x3,x4,x5⟩:=x;simp only[stV,abV,aA,kq1,kq5]at ih ⊢;refine aU mixed jI5 (by simp) ?_;show vwp kp8 0 zv6 _ [(0,.agg [.d (.sl (nums l)),.d (.sl (x1.map aD)),.d (.sl (x2.map aE)),.d (.sl (aA.subs x3)),.d (.sl (aA.funs x4)),.d (.sl (aA.sigs x5))]),(1,.agg [.d (.sl (nums l)),.d (.sl (x1.map aD)),.d (.sl (x2.map aE)),.d (.sl (aA.subs x3)),.d (.sl (aA.funs x4)),.d (.sl (aA.sigs x5))])] [];conv in zv6=>cbv
 rw[aO];simp -implicitDefEqProofs only[oS.d,J0,J1,J2,J3,J4,J5,J6,J7,J8,↓reduceIte,reduceCtorEq];refine aM [] hi rfl rfl rfl rfl ?_;simp -implicitDefEqProofs only[oS.d,J0,J1,J2,J3,J4,J5,J6,J7,J8,↓reduceIte,reduceCtorEq];refine aM [] ih rfl rfl rfl rfl ?_;simp -implicitDefEqProofs only[oS.d,J0,J1,J2,J3,J4,J5,J6,J7,J8,↓reduceIte,reduceCtorEq];apply aH [];rfl;rfl;exact⟨rfl,rfl⟩
theorem jW4:∀x:Stx,stn x<1000000000→VC kp8 20 [stV x,stV x] [] fun r h'=>r = .one (.d (.bool true))∧h'=[]:=by
 intro x;induction x using Stx.ind with
 |h x1 x2 x3 x4 x5 ih3 ih4 ih5=>
 intro hp;have hsz:=zg6 (x:=.mk x1 x2 x3 x4 x5) (kL2 hp);simp only[Stx.subs,Stx.vals,Stx.types,Stx.funs,Stx.sigs]at hsz;obtain⟨z3,z2,z1,z4,z5⟩:=hsz;have hp0:=hp;simp only[stn]at hp;have l3:(aA.subs x3).length=x3.length:=by rw[zG,kr8]
 have l4:(aA.funs x4).length=x4.length:=by rw[lR,kr8]
 have l5:(aA.sigs x5).length=x5.length:=by rw[lS,kr8]
 simp only[stV,aA,kq1,kq5];refine aU mixed jI3 (by simp) ?_;show vwp kp8 0 zv4 _ [(0,.agg [.d (.sl (x1.map aD)),.d (.sl (x2.map aE)),.d (.sl (aA.subs x3)),.d (.sl (aA.funs x4)),.d (.sl (aA.sigs x5))]),(1,.agg [.d (.sl (x1.map aD)),.d (.sl (x2.map aE)),.d (.sl (aA.subs x3)),.d (.sl (aA.funs x4)),.d (.sl (aA.sigs x5))])] [];conv in zv4=>cbv
 rw[aO];simp -implicitDefEqProofs only[oS.d,J0,J1,J2,J3,J4,J5,J6,J7,J8,↓reduceIte,reduceCtorEq,kr8,l3,l4,l5];refine bE (α:=Nat) (fun i=>[(5,.one (.d (.int .i64 i))),(3,.one (.ptr 1 0)),(2,.one (.ptr 0 0))])
  (fun _=>[.box [.d (.sl (x1.map aD)),.d (.sl (x2.map aE)),.d (.sl (aA.subs x3)),.d (.sl (aA.funs x4)),.d (.sl (aA.sigs x5))],.box [.d (.sl (x1.map aD)),.d (.sl (x2.map aE)),.d (.sl (aA.subs x3)),.d (.sl (aA.funs x4)),.d (.sl (aA.sigs x5))]])
  (fun i=>i≤x1.length) (fun i=>x1.length-i) 0
  (aP [0,1] rfl rfl rfl rfl) (kt1 _) ?_
 intro i hi;have hw:IntKind.i64.wrap ((i:Int)+1)=((i+1:Nat):Int):=oZ (by omega);simp -implicitDefEqProofs only[oS.d,J0,J1,J2,J3,J4,J5,J6,J7,J8,↓reduceIte,reduceCtorEq,kr8,l3,l4,l5];refine⟨fun h6=>?_,fun h6=>?_⟩
 ·have hi':i<x1.length:=by omega
  obtain⟨u,hu⟩:∃u,x1[i]?=some u:=⟨x1[i],kr1 hi'⟩;have hmem:=kq0 hu;have hnu:=dB (f:=dC) hmem;have hnu2:dC u=1+tyn u.t+aK ctn u.cts:=rfl;have iu:=zF8 u.t (by omega);have iv:=jW2 u.cts (by omega);have hg:(x1.map aD)[i]?=some (aD u):=by rw[ks1,hu];rfl
  obtain⟨un,⟨u1,u2,u3⟩,uc⟩:=u;simp only[tyV,aF,kq1,kq5]at iu iv;simp only[aD,aF,kq1,kq5,kr0,kr2]at hg;simp -implicitDefEqProofs only[oS.d,J0,J1,J2,J3,J4,J5,J6,J7,J8,↓reduceIte,reduceCtorEq,hg,kq2,kq4];refine aM [] iu rfl rfl rfl rfl ?_;simp -implicitDefEqProofs only[oS.d,J0,J1,J2,J3,J4,J5,J6,J7,J8,↓reduceIte,reduceCtorEq,hg,hw,kq2,kq4];refine aM [] iv rfl rfl rfl rfl ?_;simp -implicitDefEqProofs only[oS.d,J0,J1,J2,J3,J4,J5,J6,J7,J8,↓reduceIte,reduceCtorEq,hg,hw,kq2,kq4];refine⟨i+1,by omega,by omega,?_⟩;exact(aP [0,1] rfl rfl rfl rfl)
 refine bE (α:=Nat) (fun i=>[(6,.one (.d (.int .i64 i))),(3,.one (.ptr 1 0)),(2,.one (.ptr 0 0))])
  (fun _=>[.box [.d (.sl (x1.map aD)),.d (.sl (x2.map aE)),.d (.sl (aA.subs x3)),.d (.sl (aA.funs x4)),.d (.sl (aA.sigs x5))],.box [.d (.sl (x1.map aD)),.d (.sl (x2.map aE)),.d (.sl (aA.subs x3)),.d (.sl (aA.funs x4)),.d (.sl (aA.sigs x5))]])
  (fun i=>i≤x2.length) (fun i=>x2.length-i) 0
  (aP [0,1] rfl rfl rfl rfl) (kt1 _) ?_
 intro i hi;have hw:IntKind.i64.wrap ((i:Int)+1)=((i+1:Nat):Int):=oZ (by omega);simp -implicitDefEqProofs only[oS.d,J0,J1,J2,J3,J4,J5,J6,J7,J8,↓reduceIte,reduceCtorEq,kr8,l3,l4,l5];refine⟨fun h6=>?_,fun h6=>?_⟩
 ·have hi':i<x2.length:=by omega
  obtain⟨u,hu⟩:∃u,x2[i]?=some u:=⟨x2[i],kr1 hi'⟩;have hmem:=kq0 hu;have hnu:=dB (f:=dJ) hmem;have hnu2:dJ u=1+tyn u.s.t:=rfl;have iu:=jW1 u.s (by omega);have hg:(x2.map aE)[i]?=some (aE u):=by rw[ks1,hu];rfl
  obtain⟨un,⟨u0,⟨u1,u2,u3⟩⟩⟩:=u;simp only[scV,cZ,aF,kq1,kq5]at iu;simp only[aE,cZ,aF,kq1,kq5,kr0,kr2]at hg;simp -implicitDefEqProofs only[oS.d,J0,J1,J2,J3,J4,J5,J6,J7,J8,↓reduceIte,reduceCtorEq,hg,kq2,kq4];refine aM [] iu rfl rfl rfl rfl ?_;simp -implicitDefEqProofs only[oS.d,J0,J1,J2,J3,J4,J5,J6,J7,J8,↓reduceIte,reduceCtorEq,hg,hw,kq2,kq4];refine⟨i+1,by omega,by omega,?_⟩;exact(aP [0,1] rfl rfl rfl rfl)
 refine bE (α:=Nat) (fun i=>[(7,.one (.d (.int .i64 i))),(3,.one (.ptr 1 0)),(2,.one (.ptr 0 0))])
  (fun _=>[.box [.d (.sl (x1.map aD)),.d (.sl (x2.map aE)),.d (.sl (aA.subs x3)),.d (.sl (aA.funs x4)),.d (.sl (aA.sigs x5))],.box [.d (.sl (x1.map aD)),.d (.sl (x2.map aE)),.d (.sl (aA.subs x3)),.d (.sl (aA.funs x4)),.d (.sl (aA.sigs x5))]])
  (fun i=>i≤x3.length) (fun i=>x3.length-i) 0
  (aP [0,1] rfl rfl rfl rfl) (kt1 _) ?_
 intro i hi;have hw:IntKind.i64.wrap ((i:Int)+1)=((i+1:Nat):Int):=oZ (by omega);simp -implicitDefEqProofs only[oS.d,J0,J1,J2,J3,J4,J5,J6,J7,J8,↓reduceIte,reduceCtorEq,kr8,l3,l4,l5];refine⟨fun h6=>?_,fun h6=>?_⟩
 ·have hi':i<x3.length:=by omega
  obtain⟨u,hu⟩:∃u,x3[i]?=some u:=⟨x3[i],kr1 hi'⟩;have hmem:=kq0 hu;have hnu:=wC hmem;have iu:=ih3 u hmem (by omega);have hg:(aA.subs x3)[i]?=some (cA u):=by rw[jW3,ks1,hu];rfl
  obtain⟨un,⟨u1,u2,u3,u4,u5⟩⟩:=u;simp only[stV,aA,kq1,kq5]at iu;simp only[cA,aA,kq1,kq5,kr0,kr2]at hg;simp -implicitDefEqProofs only[oS.d,J0,J1,J2,J3,J4,J5,J6,J7,J8,↓reduceIte,reduceCtorEq,hg,kq2,kq4];refine aM [] iu rfl rfl rfl rfl ?_;simp -implicitDefEqProofs only[oS.d,J0,J1,J2,J3,J4,J5,J6,J7,J8,↓reduceIte,reduceCtorEq,hg,hw,kq2,kq4];refine⟨i+1,by omega,by omega,?_⟩;exact(aP [0,1] rfl rfl rfl rfl)
 refine bE (α:=Nat) (fun i=>[(8,.one (.d (.int .i64 i))),(3,.one (.ptr 1 0)),(2,.one (.ptr 0 0))])
  (fun _=>[.box [.d (.sl (x1.map aD)),.d (.sl (x2.map aE)),.d (.sl (aA.subs x3)),.d (.sl (aA.funs x4)),.d (.sl (aA.sigs x5))],.box [.d (.sl (x1.map aD)),.d (.sl (x2.map aE)),.d (.sl (aA.subs x3)),.d (.sl (aA.funs x4)),.d (.sl (aA.sigs x5))]])
  (fun i=>i≤x4.length) (fun i=>x4.length-i) 0
  (aP [0,1] rfl rfl rfl rfl) (kt1 _) ?_
 intro i hi;have hw:IntKind.i64.wrap ((i:Int)+1)=((i+1:Nat):Int):=oZ (by omega);simp -implicitDefEqProofs only[oS.d,J0,J1,J2,J3,J4,J5,J6,J7,J8,↓reduceIte,reduceCtorEq,kr8,l3,l4,l5];refine⟨fun h6=>?_,fun h6=>?_⟩
 ·have hi':i<x4.length:=by omega
  obtain⟨u,hu⟩:∃u,x4[i]?=some u:=⟨x4[i],kr1 hi'⟩;have hmem:=kq0 hu;have hnu:=oF hmem;have ia:=z62 u.2.1 (by omega);have iu:=(ih4 u hmem).1 (by omega);have iv:=zG3 u.2.2.2.1 u.2.2.2.2 (by omega) ((ih4 u hmem).2 (by omega));have hg:(aA.funs x4)[i]?=some (bW u):=by rw[lR,ks1,hu];rfl
  obtain⟨un,l1,⟨u1,u2,u3,u4,u5⟩,l2,⟨w1,w2,w3,w4,w5⟩⟩:=u;simp only[stV,abV,aA,kq1,kq5]at iu iv;simp only[bW,cU,aA,kq1,kq5,kr0,kr2]at hg;simp -implicitDefEqProofs only[oS.d,J0,J1,J2,J3,J4,J5,J6,J7,J8,↓reduceIte,reduceCtorEq,hg,kq2,kq4];refine aM [] ia rfl rfl rfl rfl ?_;simp -implicitDefEqProofs only[oS.d,J0,J1,J2,J3,J4,J5,J6,J7,J8,↓reduceIte,reduceCtorEq,hg,hw,kq2,kq4];refine aM [] iu rfl rfl rfl rfl ?_;simp -implicitDefEqProofs only[oS.d,J0,J1,J2,J3,J4,J5,J6,J7,J8,↓reduceIte,reduceCtorEq,hg,hw,kq2,kq4];refine aM [] iv rfl rfl rfl rfl ?_;simp -implicitDefEqProofs only[oS.d,J0,J1,J2,J3,J4,J5,J6,J7,J8,↓reduceIte,reduceCtorEq,hg,hw,kq2,kq4];refine⟨i+1,by omega,by omega,?_⟩;exact(aP [0,1] rfl rfl rfl rfl)
 refine bE (α:=Nat) (fun i=>[(11,.one (.d (.int .i64 i))),(3,.one (.ptr 1 0)),(2,.one (.ptr 0 0))])
  (fun _=>[.box [.d (.sl (x1.map aD)),.d (.sl (x2.map aE)),.d (.sl (aA.subs x3)),.d (.sl (aA.funs x4)),.d (.sl (aA.sigs x5))],.box [.d (.sl (x1.map aD)),.d (.sl (x2.map aE)),.d (.sl (aA.subs x3)),.d (.sl (aA.funs x4)),.d (.sl (aA.sigs x5))]])
  (fun i=>i≤x5.length) (fun i=>x5.length-i) 0
  (aP [0,1] rfl rfl rfl rfl) (kt1 _) ?_
 intro i hi;have hw:IntKind.i64.wrap ((i:Int)+1)=((i+1:Nat):Int):=oZ (by omega);simp -implicitDefEqProofs only[oS.d,J0,J1,J2,J3,J4,J5,J6,J7,J8,↓reduceIte,reduceCtorEq,kr8,l3,l4,l5];refine⟨fun h6=>?_,fun h6=>?_⟩
 ·have hi':i<x5.length:=by omega
  obtain⟨u,hu⟩:∃u,x5[i]?=some u:=⟨x5[i],kr1 hi'⟩;have hmem:=kq0 hu;have hnu:=tT hmem;have iv:=zG3 u.2.1 u.2.2 (by omega) (ih5 u hmem (by omega));have hg:(aA.sigs x5)[i]?=some (cB u):=by rw[lS,ks1,hu];rfl
  obtain⟨un,l1,⟨u1,u2,u3,u4,u5⟩⟩:=u;simp only[abV,aA,kq1,kq5]at iv;simp only[cB,aA,kq1,kq5,kr0,kr2]at hg;simp -implicitDefEqProofs only[oS.d,J0,J1,J2,J3,J4,J5,J6,J7,J8,↓reduceIte,reduceCtorEq,hg,kq2,kq4];refine aM [] iv rfl rfl rfl rfl ?_;simp -implicitDefEqProofs only[oS.d,J0,J1,J2,J3,J4,J5,J6,J7,J8,↓reduceIte,reduceCtorEq,hg,hw,kq2,kq4];refine⟨i+1,by omega,by omega,?_⟩;exact(aP [0,1] rfl rfl rfl rfl)
 apply aH [];rfl;rfl;exact⟨rfl,rfl⟩
theorem z63 (l l':List Int) (hl:l.length<1000000000):VC kp8 154 [.one (.d (.sl (nums l))),.one (.d (.sl (nums l')))] [] fun r h'=>r = .one (.d (.bool (eqB l l')))∧h'=[]:=by
 refine aU mixed jM4 (by simp) ?_;show vwp kp8 0 zz5 _ [(0,.one (.d (.sl (nums l)))),(1,.one (.d (.sl (nums l'))))] [];conv in zz5=>cbv
 rw[aO];by_cases hn:l.length=l'.length
 case neg=>
  have hc:((l.length:Int)=(l'.length:Int))=False:=by simp;omega
  simp -implicitDefEqProofs only[oS.d,J0,J1,J2,J3,J4,J5,J6,J7,J8,↓reduceIte,reduceCtorEq,bU,hc];apply aH [];rfl;rfl;exact⟨by rw[dD fun e:l=l'=>hn (congrArg List.length e)],rfl⟩
 have hc:((l.length:Int)=(l'.length:Int))=True:=by simp[hn]
 simp -implicitDefEqProofs only[oS.d,J0,J1,J2,J3,J4,J5,J6,J7,J8,↓reduceIte,reduceCtorEq,bU,hc];refine bE (α:=Nat) (fun i=>[(13,.one (.d (.int .i64 i))),(12,.one (.d (.int .i64 l.length))),(0,.one (.d (.sl (nums l)))),(1,.one (.d (.sl (nums l'))))]) (fun _=>[]) (fun i=>i≤l.length∧∀j,j<i→l[j]?=l'[j]?) (fun i=>l.length-i) 0 (aP [] rfl rfl rfl rfl) ⟨kt1 _,fun j h=>absurd h (ky7 _)⟩ ?_;rintro i ⟨hi,he⟩;have hw:=bQ (a:=i) rfl (by omega);rcases ks3 i l.length with h5|h5
 ·have hc1:((i:Int)<(l.length:Int))=True:=by simp;omega
  have hc2:((i:Int)<(l'.length:Int))=True:=by simp;omega
  have hc3:i<l'.length:=by omega
  obtain⟨u,hu⟩:=bK h5;obtain⟨v,hv⟩:=bK (l:=l') (i:=i) (by omega);have gu:=iP hu;have gv:=iP hv;by_cases e:u=v
  ·have e1:(u=v)=True:=by simp[e]
   simp -implicitDefEqProofs only[oS.d,J0,J1,J2,J3,J4,J5,J6,J7,J8,↓reduceIte,reduceCtorEq,hc1,hc2,hc3,gu,gv,bU,e1,hw,kq2,kq4];refine⟨i+1,⟨by omega,qK he hu hv e⟩,by omega,?_⟩;exact(aP [] rfl rfl rfl rfl)
  ·have e1:(u=v)=False:=by simp[e]
   simp -implicitDefEqProofs only[oS.d,J0,J1,J2,J3,J4,J5,J6,J7,J8,↓reduceIte,reduceCtorEq,hc1,hc2,hc3,gu,gv,bU,e1,kq2,kq4];apply aH [];rfl;rfl;exact⟨by rw[dD (qJ hu hv e)],rfl⟩
 ·have hc1:((i:Int)<(l.length:Int))=False:=by simp;omega
  simp -implicitDefEqProofs only[oS.d,J0,J1,J2,J3,J4,J5,J6,J7,J8,↓reduceIte,reduceCtorEq,hc1,bU];apply aH [];rfl;rfl;exact⟨by rw[jP (qL hn fun j hj=>he j (by omega))],rfl⟩
noncomputable def zG4:aC:=aN [] (aT Tryz.f299)
theorem jW5:aJ kp8 299 6 zG4 [.tmp 2]:=⟨Tryz.f299,_,[],Tryz.func299,rfl,rfl,rfl,by kernel_rfl,by kernel_rfl,by kernel_rfl⟩
theorem z64 (n:Int):VC kp8 299 [.one (.d (.int .i64 n))] [] fun r h'=>r = .one (.d (.bool false))∧h'=[]:=by
 refine aU mixed jW5 (by simp) ?_;show vwp kp8 0 zG4 _ [(0,.one (.d (.int .i64 n)))] [];conv in zG4=>cbv
 rw[aO];simp -implicitDefEqProofs only[oS.d,J0,J1,J2,J3,J4,J5,J6,J7,J8,↓reduceIte,reduceCtorEq];apply aH [];rfl;rfl;exact⟨rfl,rfl⟩
theorem zG5 (m n:Int):VC kp8 285 [.one (.d (.int .i64 m)),.one (.d (.int .i64 n))] [] fun r h'=>∃c:Int,r = .one (.d (.int .i64 c))∧(c=0↔m=n)∧h'=[]:=by
 refine aU mixed jR5 (by simp) ?_;show vwp kp8 0 zE5 _ [(0,.one (.d (.int .i64 m))),(1,.one (.d (.int .i64 n)))] [];conv in zE5=>cbv
 rw[aO];simp -implicitDefEqProofs only[oS.d,J0,J1,J2,J3,J4,J5,J6,J7,J8,↓reduceIte,reduceCtorEq];refine aM [] (z64 m) rfl rfl rfl rfl ?_;simp -implicitDefEqProofs only[oS.d,J0,J1,J2,J3,J4,J5,J6,J7,J8,↓reduceIte,reduceCtorEq];refine aM [] (z64 n) rfl rfl rfl rfl ?_;rcases Int.lt_trichotomy m n with h|h|h
 ·have h1:(m<n)=True:=by simp[h]
  simp -implicitDefEqProofs only[oS.d,J0,J1,J2,J3,J4,J5,J6,J7,J8,↓reduceIte,reduceCtorEq,h1];apply aH [];rfl;rfl;exact⟨-1,rfl,by omega,rfl⟩
 ·have h1:(m<n)=False:=by simp;omega
  have h2:(n<m)=False:=by simp;omega
  simp -implicitDefEqProofs only[oS.d,J0,J1,J2,J3,J4,J5,J6,J7,J8,↓reduceIte,reduceCtorEq,h1,h2];apply aH [];rfl;rfl;exact⟨0,rfl,by omega,rfl⟩
 ·have h1:(m<n)=False:=by simp;omega
  have h2:(n<m)=True:=by simp[h]
  simp -implicitDefEqProofs only[oS.d,J0,J1,J2,J3,J4,J5,J6,J7,J8,↓reduceIte,reduceCtorEq,h1,h2];apply aH [];rfl;rfl;exact⟨1,rfl,by omega,rfl⟩
theorem jW6 (l:List Int) (hl:l.length<1000000000):VC kp8 284 [.one (.d (.sl (nums l)))] [] fun r h'=>∃c:Int,r = .one (.d (.int .i64 c))∧(c=0↔∀x∈l,x=0)∧h'=[]:=by
 refine aU mixed jR4 (by simp) ?_;show vwp kp8 0 zE4 _ [(0,.one (.d (.sl (nums l))))] [];conv in zE4=>cbv
 rw[aO];simp -implicitDefEqProofs only[oS.d,J0,J1,J2,J3,J4,J5,J6,J7,J8,↓reduceIte,reduceCtorEq,bU];refine bE (α:=Nat) (fun i=>[(8,.one (.d (.int .i64 i))),(7,.one (.d (.int .i64 l.length))),(6,.one (.d (.sl (nums l)))),(3,.one (.d (.int .i64 0)))]) (fun _=>[]) (fun i=>i≤l.length∧∀x∈l.take i,x=0) (fun i=>l.length-i) 0 (aP [] rfl rfl rfl rfl) ⟨kt1 _,by simp⟩ ?_;rintro i ⟨hi,he⟩;have hw:=bQ (a:=i) rfl (by omega);rcases ks3 i l.length with h5|h5
 ·have hc1:((i:Int)<(l.length:Int))=True:=by simp;omega
  obtain⟨u,hu⟩:=bK h5;have gu:=iP hu;by_cases e:u=0
  ·subst e;simp -implicitDefEqProofs only[oS.d,J0,J1,J2,J3,J4,J5,J6,J7,J8,↓reduceIte,reduceCtorEq,hc1,gu,hw,bU,kq2,kq4];refine⟨i+1,⟨by omega,?_⟩,by omega,?_⟩
   ·rw[List.take_add_one,hu];intro x hx;rcases List.mem_append.1 hx with hx|hx
    ·exact he x hx
    ·simpa using hx
   ·exact(aP [] rfl rfl rfl rfl)
  ·have e1:(u=0)=False:=by simp[e]
   simp -implicitDefEqProofs only[oS.d,J0,J1,J2,J3,J4,J5,J6,J7,J8,↓reduceIte,reduceCtorEq,hc1,gu,e1,bU,kq2,kq4];apply aH [];rfl;rfl;exact⟨u,rfl,⟨fun h=>absurd h e,fun h=>h u (kq0 hu)⟩,rfl⟩
 ·have hc1:((i:Int)<(l.length:Int))=False:=by simp;omega
  rw[List.take_of_length_le h5]at he;simp -implicitDefEqProofs only[oS.d,J0,J1,J2,J3,J4,J5,J6,J7,J8,↓reduceIte,reduceCtorEq,hc1,bU];apply aH [];rfl;rfl;exact⟨0,rfl,⟨fun _=>he,fun _=>rfl⟩,rfl⟩
theorem jW7 (l l':List Ty) (hl:l.length<1000000000) (hl':l'.length<1000000000) (hg:∀u∈l,∀v∈l',VC kp8 256 [tyV u,tyV v] [] fun r h'=>∃c:Int,r = .one (.d (.int .i64 c))∧(c=0↔u=v)∧h'=[]) :
  VC kp8 286 [.one (.d (.sl (aF.encs l))),.one (.d (.sl (aF.encs l'))),.one (.fn 256 [])] [] fun r h'=>∃c:Int,r = .one (.d (.int .i64 c))∧(c=0↔l=l')∧h'=[]:=by
 refine aU mixed jR6 (by simp) ?_;show vwp kp8 0 zE6 _ [(0,.one (.d (.sl (aF.encs l)))),(1,.one (.d (.sl (aF.encs l')))),(2,.one (.fn 256 []))] [];conv in zE6=>cbv
 rw[aO];simp -implicitDefEqProofs only[oS.d,J0,J1,J2,J3,J4,J5,J6,J7,J8,↓reduceIte,reduceCtorEq,cS];refine bE (α:=Nat) (fun i=>[(13,.one (.d (.int .i64 i))),(12,.one (.d (.int .i64 l.length))),(11,.one (.d (.sl (aF.encs l)))),(0,.one (.d (.sl (aF.encs l)))),(1,.one (.d (.sl (aF.encs l')))),(2,.one (.fn 256 []))]) (fun _=>[]) (fun i=>i≤l.length∧i≤l'.length∧∀j,j<i→l[j]?=l'[j]?) (fun i=>l.length-i) 0 (aP [] rfl rfl rfl rfl) ⟨kt1 _,kt1 _,fun j h=>absurd h (ky7 _)⟩ ?_;rintro i ⟨hi,hi',he⟩;have hw:=bQ (a:=i) rfl (by omega);rcases ks3 i l.length with h5|h5
 ·have hc1:((i:Int)<(l.length:Int))=True:=by simp;omega
  obtain⟨u,hu⟩:=bK h5;have gu:(aF.encs l)[i]?=some (aF u):=by rw[eI,ks1,hu];rfl
  rcases ks3 i l'.length with h6|h6
  ·have hc2:((l'.length:Int)≤(i:Int))=False:=by simp;omega
   have hc3:((i:Int)<(l'.length:Int))=True:=by simp;omega
   obtain⟨v,hv⟩:=bK h6;have gv:(aF.encs l')[i]?=some (aF v):=by rw[eI,ks1,hv];rfl
   have t1:=hg u (kq0 hu) v (kq0 hv);have hN:=qJ hu hv;have hY:=qK he hu hv;clear hu hv;obtain⟨uk,un,ul⟩:=u;obtain⟨vk,vn,vl⟩:=v;simp only[tyV,aF,kq1,kq5]at t1 gu gv;simp -implicitDefEqProofs only[oS.d,J0,J1,J2,J3,J4,J5,J6,J7,J8,↓reduceIte,reduceCtorEq,hc1,hc2,hc3,h6,gu,gv,cS,kq2,kq4];refine bJ [] (t1) rfl rfl rfl ?_;rintro _ _ ⟨c,rfl,hc,rfl⟩;refine⟨_,_,rfl,?_⟩;by_cases e:c=0
   ·subst e;simp -implicitDefEqProofs only[oS.d,J0,J1,J2,J3,J4,J5,J6,J7,J8,↓reduceIte,reduceCtorEq,hw];refine⟨i+1,⟨by omega,by omega,hY (hc.1 rfl)⟩,by omega,?_⟩;exact(aP [] rfl rfl rfl rfl)
   ·have e1:(c=0)=False:=by simp[e]
    simp -implicitDefEqProofs only[oS.d,J0,J1,J2,J3,J4,J5,J6,J7,J8,↓reduceIte,reduceCtorEq,e1];apply aH [];rfl;rfl;exact⟨c,rfl,⟨fun h=>absurd h e,fun h=>absurd h (hN fun g=>e (hc.2 g))⟩,rfl⟩
  ·have hc2:((l'.length:Int)≤(i:Int))=True:=by simp;omega
   obtain⟨uk,un,ul⟩:=u;simp only[aF]at gu;simp -implicitDefEqProofs only[oS.d,J0,J1,J2,J3,J4,J5,J6,J7,J8,↓reduceIte,reduceCtorEq,hc1,hc2,gu,cS,kq2,kq4];apply aH [];rfl;rfl;exact⟨1,rfl,⟨fun h=>by omega,fun h=>by subst h;omega⟩,rfl⟩
 ·have hc1:((i:Int)<(l.length:Int))=False:=by simp;omega
  rcases ks3 l.length l'.length with h6|h6
  ·have hc2:((l.length:Int)<(l'.length:Int))=True:=by simp;omega
   simp -implicitDefEqProofs only[oS.d,J0,J1,J2,J3,J4,J5,J6,J7,J8,↓reduceIte,reduceCtorEq,hc1,hc2,cS];apply aH [];rfl;rfl;exact⟨-1,rfl,⟨fun h=>by omega,fun h=>by subst h;omega⟩,rfl⟩
  ·have hc2:((l.length:Int)<(l'.length:Int))=False:=by simp;omega
   simp -implicitDefEqProofs only[oS.d,J0,J1,J2,J3,J4,J5,J6,J7,J8,↓reduceIte,reduceCtorEq,hc1,hc2,cS];apply aH [];rfl;rfl;exact⟨0,rfl,⟨fun _=>qL (by omega) fun j hj=>he j (by omega),fun _=>rfl⟩,rfl⟩
theorem jW8:∀(t t':Ty),tyn t<100000000→tyn t'<100000000→VC kp8 256 [tyV t,tyV t'] [] fun r h'=>∃c:Int,r = .one (.d (.int .i64 c))∧(c=0↔t=t')∧h'=[]:=by
 intro t;induction t using Ty.ind with
 |h k n l ih=>
 rintro⟨k',n',l'⟩ h1 h2;simp only[tyn]at h1 h2;have m1:=zH l;have m2:=zH l';have t4:=jW7 l l' (by omega) (by omega) fun u hu v hv=>ih u hu v (by have:=zF hu;omega) (by have:=zF hv;omega);simp only[tyV,aF,kq1,kq5];refine aU mixed jQ8 (by simp) ?_;show vwp kp8 0 zD8 _ [(0,.agg [.d (.int .i64 k),.d (.int .i64 n),.d (.sl (aF.encs l))]),(1,.agg [.d (.int .i64 k'),.d (.int .i64 n'),.d (.sl (aF.encs l'))])] [];conv in zD8=>cbv
 rw[aO];simp -implicitDefEqProofs only[oS.d,J0,J1,J2,J3,J4,J5,J6,J7,J8,↓reduceIte,reduceCtorEq];refine bJ [] (zG5 k k') rfl rfl rfl ?_;rintro _ _ ⟨c1,rfl,g1,rfl⟩;refine⟨_,_,rfl,?_⟩;simp -implicitDefEqProofs only[oS.d,J0,J1,J2,J3,J4,J5,J6,J7,J8,↓reduceIte,reduceCtorEq];refine bJ [] (zG5 n n') rfl rfl rfl ?_;rintro _ _ ⟨c2,rfl,g2,rfl⟩;refine⟨_,_,rfl,?_⟩;simp -implicitDefEqProofs only[oS.d,J0,J1,J2,J3,J4,J5,J6,J7,J8,↓reduceIte,reduceCtorEq,cS];refine bJ [] (zG5 l.length l'.length) rfl rfl rfl ?_;rintro _ _ ⟨c3,rfl,g3,rfl⟩;refine⟨_,_,rfl,?_⟩;simp -implicitDefEqProofs only[oS.d,J0,J1,J2,J3,J4,J5,J6,J7,J8,↓reduceIte,reduceCtorEq,cS];refine bJ [] (t4) rfl rfl rfl ?_;rintro _ _ ⟨c4,rfl,g4,rfl⟩;refine⟨_,_,rfl,?_⟩;simp -implicitDefEqProofs only[oS.d,J0,J1,J2,J3,J4,J5,J6,J7,J8,↓reduceIte,reduceCtorEq];refine bJ [] (jW6 [c1,c2,c3,c4] (by simp)) rfl (by simp[cE,bP,bT,idx,nums]) rfl ?_;rintro _ _ ⟨c,rfl,g,rfl⟩;refine⟨_,_,rfl,?_⟩;simp -implicitDefEqProofs only[oS.d,J0,J1,J2,J3,J4,J5,J6,J7,J8,↓reduceIte,reduceCtorEq];apply aH [];rfl;rfl;refine⟨c,rfl,?_,rfl⟩;rw[g];simp only[kt6,List.not_mem_nil,or_false,forall_eq_or_imp,forall_eq,g1,g2,g4,Ty.mk.injEq];constructor
 ·rintro⟨a,b,_,d⟩;exact⟨a,b,d⟩
 ·rintro⟨a,b,d⟩;exact⟨a,b,g3.2 (by rw[d]),d⟩
theorem zG6 (t t':Ty) (h1:tyn t<100000000) (h2:tyn t'<100000000):VC kp8 209 [tyV t,tyV t'] [] fun r h'=>r = .one (.d (.bool (eqB t t')))∧h'=[]:=by
 have t1:=jW8 t t' h1 h2;have hN:t≠t'→eqB t t'=false:=dD;have hY:t=t'→eqB t t'=true:=jP;generalize eqB t t'=B at hN hY ⊢;generalize hP:(t=t')=Q at t1 hY;have hM:¬Q→B=false:=fun h=>hN (by rw[←hP]at h;exact h);clear hP hN;obtain⟨k,n,l⟩:=t;obtain⟨k',n',l'⟩:=t';simp only[tyV,aF,kq1,kq5]at t1 ⊢;refine aU mixed jO4 (by simp) ?_;show vwp kp8 0 zB6 _ [(0,.agg [.d (.int .i64 k),.d (.int .i64 n),.d (.sl (aF.encs l))]),(1,.agg [.d (.int .i64 k'),.d (.int .i64 n'),.d (.sl (aF.encs l'))])] [];conv in zB6=>cbv
 rw[aO];simp -implicitDefEqProofs only[oS.d,J0,J1,J2,J3,J4,J5,J6,J7,J8,↓reduceIte,reduceCtorEq];refine bJ [] (t1) rfl rfl rfl ?_;rintro _ _ ⟨c,rfl,g,rfl⟩;refine⟨_,_,rfl,?_⟩;by_cases e:c=0
 ·have e1:(c=0)=True:=by simp[e]
  simp -implicitDefEqProofs only[oS.d,J0,J1,J2,J3,J4,J5,J6,J7,J8,↓reduceIte,reduceCtorEq,e1];apply aH [];rfl;rfl;exact⟨by rw[hY (g.1 e)],rfl⟩
 ·have e1:(c=0)=False:=by simp[e]
  simp -implicitDefEqProofs only[oS.d,J0,J1,J2,J3,J4,J5,J6,J7,J8,↓reduceIte,reduceCtorEq,e1];apply aH [];rfl;rfl;exact⟨by rw[hM fun h=>e (g.2 h)],rfl⟩
theorem jW9 (u v:Sc) (h1:tyn u.t<100000000) (h2:tyn v.t<100000000):VC kp8 215 [scV u,scV v] [] fun r h'=>r = .one (.d (.bool (eqB u v)))∧h'=[]:=by
 have n0:u.gens≠v.gens→u≠v:=fun h e=>h (e▸rfl);have n1:u.t≠v.t→u≠v:=fun h e=>h (e▸rfl);have hy:u.gens=v.gens→u.t=v.t→u=v:=by cases u;cases v;simp_all
 have t0:=zG6 u.t v.t h1 h2;generalize hB:eqB u.t v.t=B0 at t0;have n1:=fun h=>n1 (gM (hB.trans h));have hb0:B0=true→u.t=v.t:=fun h=>gL (hB.trans h);clear hB;obtain⟨u0,⟨u1,u2,u3⟩⟩:=u;obtain⟨v0,⟨v1,v2,v3⟩⟩:=v;simp only[aF,bC,aD,aE,cZ,cA,bW,cU,cB,aA,tyV,scV,stW,abW,kq1,kq5,kr0,kr2]at t0 ⊢;refine aU mixed jP0 (by simp) ?_;show vwp kp8 0 zC2 _ [(0,.agg [.d (.int .i64 u0),.d (.int .i64 u1),.d (.int .i64 u2),.d (.sl (aF.encs u3))]),(1,.agg [.d (.int .i64 v0),.d (.int .i64 v1),.d (.int .i64 v2),.d (.sl (aF.encs v3))])] [];conv in zC2=>cbv
 rw[aO];by_cases e0:u0=v0
 case neg=>
  have e0':(u0=v0)=False:=by simp[e0]
  simp -implicitDefEqProofs only[oS.d,J0,J1,J2,J3,J4,J5,J6,J7,J8,↓reduceIte,reduceCtorEq,e0'];apply aH [];rfl;rfl;exact⟨by rw[dD (n0 e0)],rfl⟩
 have e0':(u0=v0)=True:=by simp[e0]
 simp -implicitDefEqProofs only[oS.d,J0,J1,J2,J3,J4,J5,J6,J7,J8,↓reduceIte,reduceCtorEq,e0'];refine aM [] t0 rfl rfl rfl rfl ?_;cases B0 with
 |false=>
  simp -implicitDefEqProofs only[oS.d,J0,J1,J2,J3,J4,J5,J6,J7,J8,↓reduceIte,reduceCtorEq];apply aH [];rfl;rfl;exact⟨by rw[dD (n1 rfl)],rfl⟩
 |true=>
  simp -implicitDefEqProofs only[oS.d,J0,J1,J2,J3,J4,J5,J6,J7,J8,↓reduceIte,reduceCtorEq];apply aH [];rfl;rfl;exact⟨by rw[jP (hy e0 (hb0 rfl))],rfl⟩
theorem jX0 {g:FuncId} (l l':List Ty) (hl:l.length<1000000000) (hg:∀u∈l,∀v∈l',VC kp8 g [.agg ((aF u).map .d),.agg ((aF v).map .d)] [] fun r h'=>r = .one (.d (.bool (eqB u v)))∧h'=[]):VC kp8 257 [.one (.d (.sl (aF.encs l))),.one (.d (.sl (aF.encs l'))),.one (.fn g [])] [] fun r h'=>r = .one (.d (.bool (eqB l l')))∧h'=[]:=by
 have m1:(aF.encs l).length=l.length:=by simp only[cS]
 have m2:(aF.encs l').length=l'.length:=by simp only[cS]
 refine aU mixed jQ9 (by simp) ?_;show vwp kp8 0 zD9 _ [(0,.one (.d (.sl (aF.encs l)))),(1,.one (.d (.sl (aF.encs l')))),(2,.one (.fn g []))] [];conv in zD9=>cbv
 rw[aO];by_cases hn:l.length=l'.length
 case neg=>
  have hc:((l.length:Int)=(l'.length:Int))=False:=by simp;omega
  simp -implicitDefEqProofs only[oS.d,J0,J1,J2,J3,J4,J5,J6,J7,J8,↓reduceIte,reduceCtorEq,m1,m2,hc];apply aH [];rfl;rfl;exact⟨by rw[dD fun e:l=l'=>hn (congrArg List.length e)],rfl⟩
 have hc:((l.length:Int)=(l'.length:Int))=True:=by simp[hn]
 simp -implicitDefEqProofs only[oS.d,J0,J1,J2,J3,J4,J5,J6,J7,J8,↓reduceIte,reduceCtorEq,m1,m2,hc];refine bE (α:=Nat) (fun i=>[(17,.one (.d (.int .i64 i))),(16,.one (.d (.int .i64 l.length))),(15,.one (.d (.sl (aF.encs l)))),(1,.one (.d (.sl (aF.encs l')))),(2,.one (.fn g []))]) (fun _=>[]) (fun i=>i≤l.length∧∀j,j<i→l[j]?=l'[j]?) (fun i=>l.length-i) 0 (aP [] rfl rfl rfl rfl) ⟨kt1 _,fun j h=>absurd h (ky7 _)⟩ ?_;rintro i ⟨hi,he⟩;have hw:=bQ (a:=i) rfl (by omega);rcases ks3 i l.length with h5|h5
 ·have hc1:((i:Int)<(l.length:Int))=True:=by simp;omega
  have hc2:((i:Int)<(l'.length:Int))=True:=by simp;omega
  have hc3:i<l'.length:=by omega
  obtain⟨u,hu⟩:=bK h5;obtain⟨v,hv⟩:=bK (l:=l') (i:=i) (by omega);have t1:=hg u (kq0 hu) v (kq0 hv);have gu:(aF.encs l)[i]?=some (aF u):=by rw[eI,ks1,hu];rfl
  have gv:(aF.encs l')[i]?=some (aF v):=by rw[eI,ks1,hv];rfl
  have hN:=qJ hu hv;have hY:=qK he hu hv;clear hu hv;generalize hB:eqB u v=B at t1;have hN:=fun h=>hN (gM (hB.trans h));have hY:=fun h=>hY (gL (hB.trans h));clear hB;obtain⟨uk,un,ul⟩:=u;obtain⟨vk,vn,vl⟩:=v;simp only[aF,bC,aD,aE,cZ,cA,bW,cU,cB,aA,tyV,scV,stW,abW,kq1,kq5,kr0,kr2]at t1 gu gv;simp -implicitDefEqProofs only[oS.d,J0,J1,J2,J3,J4,J5,J6,J7,J8,↓reduceIte,reduceCtorEq,hc1,hc2,hc3,gu,gv,m1,m2,kq2,kq4];refine aM [] t1 rfl rfl rfl rfl ?_;cases B with
  |false=>
   simp -implicitDefEqProofs only[oS.d,J0,J1,J2,J3,J4,J5,J6,J7,J8,↓reduceIte,reduceCtorEq];apply aH [];rfl;rfl;exact⟨by rw[dD (hN rfl)],rfl⟩
  |true=>
   simp -implicitDefEqProofs only[oS.d,J0,J1,J2,J3,J4,J5,J6,J7,J8,↓reduceIte,reduceCtorEq,hw];refine⟨i+1,⟨by omega,hY rfl⟩,by omega,?_⟩;exact(aP [] rfl rfl rfl rfl)
 ·have hc1:((i:Int)<(l.length:Int))=False:=by simp;omega
  simp -implicitDefEqProofs only[oS.d,J0,J1,J2,J3,J4,J5,J6,J7,J8,↓reduceIte,reduceCtorEq,hc1];apply aH [];rfl;rfl;exact⟨by rw[jP (qL hn fun j hj=>he j (by omega))],rfl⟩
theorem jX1 (l l':List Ty) (h1:aK tyn l<100000000) (h2:aK tyn l'<100000000):VC kp8 212 [.one (.d (.sl (aF.encs l))),.one (.d (.sl (aF.encs l')))] [] fun r h'=>r = .one (.d (.bool (eqB l l')))∧h'=[]:=by
 have m1:=eC (f:=tyn) (fun t=>by cases t;simp[tyn]) l;have t1:=jX0 (g:=209) l l' (by omega) fun u hu v hv=>zG6 u v (by have:=dB (f:=tyn) hu;omega) (by have:=dB (f:=tyn) hv;omega);refine aU mixed jO7 (by simp) ?_;show vwp kp8 0 zB9 _ [(0,.one (.d (.sl (aF.encs l)))),(1,.one (.d (.sl (aF.encs l'))))] [];conv in zB9=>cbv
 rw[aO];simp -implicitDefEqProofs only[oS.d,J0,J1,J2,J3,J4,J5,J6,J7,J8,↓reduceIte,reduceCtorEq];refine aM [] t1 rfl rfl rfl rfl ?_;simp -implicitDefEqProofs only[oS.d,J0,J1,J2,J3,J4,J5,J6,J7,J8,↓reduceIte,reduceCtorEq];apply aH [];rfl;rfl;exact⟨rfl,rfl⟩
theorem jX2 (u v:Ct) (h1:ctn u<100000000) (h2:ctn v<100000000):VC kp8 211 [.agg ((bC u).map .d),.agg ((bC v).map .d)] [] fun r h'=>r = .one (.d (.bool (eqB u v)))∧h'=[]:=by
 have n0:u.name≠v.name→u≠v:=fun h e=>h (e▸rfl);have n1:u.args≠v.args→u≠v:=fun h e=>h (e▸rfl);have hy:u.name=v.name→u.args=v.args→u=v:=by cases u;cases v;simp_all
 have t0:=jX1 u.args v.args (by rw[tW]at h1;omega) (by rw[tW]at h2;omega);generalize hB:eqB u.args v.args=B0 at t0;have n1:=fun h=>n1 (gM (hB.trans h));have hb0:B0=true→u.args=v.args:=fun h=>gL (hB.trans h);clear hB;obtain⟨un,ul⟩:=u;obtain⟨vn,vl⟩:=v;simp only[aF,bC,aD,aE,cZ,cA,bW,cU,cB,aA,tyV,scV,stW,abW,kq1,kq5,kr0,kr2]at t0 ⊢;refine aU mixed jO6 (by simp) ?_;show vwp kp8 0 zB8 _ [(0,.agg [.d (.str un),.d (.sl (aF.encs ul))]),(1,.agg [.d (.str vn),.d (.sl (aF.encs vl))])] [];conv in zB8=>cbv
 rw[aO];by_cases e0:un=vn
 case neg=>
  have e0':(un=vn)=False:=by simp[e0]
  simp -implicitDefEqProofs only[oS.d,J0,J1,J2,J3,J4,J5,J6,J7,J8,↓reduceIte,reduceCtorEq,e0'];apply aH [];rfl;rfl;exact⟨by rw[dD (n0 e0)],rfl⟩
 have e0':(un=vn)=True:=by simp[e0]
 simp -implicitDefEqProofs only[oS.d,J0,J1,J2,J3,J4,J5,J6,J7,J8,↓reduceIte,reduceCtorEq,e0'];refine aM [] t0 rfl rfl rfl rfl ?_;cases B0 with
 |false=>
  simp -implicitDefEqProofs only[oS.d,J0,J1,J2,J3,J4,J5,J6,J7,J8,↓reduceIte,reduceCtorEq];apply aH [];rfl;rfl;exact⟨by rw[dD (n1 rfl)],rfl⟩
 |true=>
  simp -implicitDefEqProofs only[oS.d,J0,J1,J2,J3,J4,J5,J6,J7,J8,↓reduceIte,reduceCtorEq];apply aH [];rfl;rfl;exact⟨by rw[jP (hy e0 (hb0 rfl))],rfl⟩
theorem jX3 {g:FuncId} (l l':List Ct) (hl:l.length<1000000000) (hg:∀u∈l,∀v∈l',VC kp8 g [.agg ((bC u).map .d),.agg ((bC v).map .d)] [] fun r h'=>r = .one (.d (.bool (eqB u v)))∧h'=[]):VC kp8 210 [.one (.d (.sl (l.map bC))),.one (.d (.sl (l'.map bC))),.one (.fn g [])] [] fun r h'=>r = .one (.d (.bool (eqB l l')))∧h'=[]:=by
 have m1:(l.map bC).length=l.length:=by simp only[kr8]
 have m2:(l'.map bC).length=l'.length:=by simp only[kr8]
 refine aU mixed jO5 (by simp) ?_;show vwp kp8 0 zB7 _ [(0,.one (.d (.sl (l.map bC)))),(1,.one (.d (.sl (l'.map bC)))),(2,.one (.fn g []))] [];conv in zB7=>cbv
 rw[aO];by_cases hn:l.length=l'.length
 case neg=>
  have hc:((l.length:Int)=(l'.length:Int))=False:=by simp;omega
  simp -implicitDefEqProofs only[oS.d,J0,J1,J2,J3,J4,J5,J6,J7,J8,↓reduceIte,reduceCtorEq,m1,m2,hc];apply aH [];rfl;rfl;exact⟨by rw[dD fun e:l=l'=>hn (congrArg List.length e)],rfl⟩
 have hc:((l.length:Int)=(l'.length:Int))=True:=by simp[hn]
 simp -implicitDefEqProofs only[oS.d,J0,J1,J2,J3,J4,J5,J6,J7,J8,↓reduceIte,reduceCtorEq,m1,m2,hc];refine bE (α:=Nat) (fun i=>[(17,.one (.d (.int .i64 i))),(16,.one (.d (.int .i64 l.length))),(15,.one (.d (.sl (l.map bC)))),(1,.one (.d (.sl (l'.map bC)))),(2,.one (.fn g []))]) (fun _=>[]) (fun i=>i≤l.length∧∀j,j<i→l[j]?=l'[j]?) (fun i=>l.length-i) 0 (aP [] rfl rfl rfl rfl) ⟨kt1 _,fun j h=>absurd h (ky7 _)⟩ ?_;rintro i ⟨hi,he⟩;have hw:=bQ (a:=i) rfl (by omega);rcases ks3 i l.length with h5|h5
 ·have hc1:((i:Int)<(l.length:Int))=True:=by simp;omega
  have hc2:((i:Int)<(l'.length:Int))=True:=by simp;omega
  have hc3:i<l'.length:=by omega
  obtain⟨u,hu⟩:=bK h5;obtain⟨v,hv⟩:=bK (l:=l') (i:=i) (by omega);have t1:=hg u (kq0 hu) v (kq0 hv);have gu:(l.map bC)[i]?=some (bC u):=by rw[ks1,hu];rfl
  have gv:(l'.map bC)[i]?=some (bC v):=by rw[ks1,hv];rfl
  have hN:=qJ hu hv;have hY:=qK he hu hv;clear hu hv;generalize hB:eqB u v=B at t1;have hN:=fun h=>hN (gM (hB.trans h));have hY:=fun h=>hY (gL (hB.trans h));clear hB;obtain⟨un,ul⟩:=u;obtain⟨vn,vl⟩:=v;simp only[aF,bC,aD,aE,cZ,cA,bW,cU,cB,aA,tyV,scV,stW,abW,kq1,kq5,kr0,kr2]at t1 gu gv;simp -implicitDefEqProofs only[oS.d,J0,J1,J2,J3,J4,J5,J6,J7,J8,↓reduceIte,reduceCtorEq,hc1,hc2,hc3,gu,gv,m1,m2,kq2,kq4];refine aM [] t1 rfl rfl rfl rfl ?_;cases B with
  |false=>
   simp -implicitDefEqProofs only[oS.d,J0,J1,J2,J3,J4,J5,J6,J7,J8,↓reduceIte,reduceCtorEq];apply aH [];rfl;rfl;exact⟨by rw[dD (hN rfl)],rfl⟩
  |true=>
   simp -implicitDefEqProofs only[oS.d,J0,J1,J2,J3,J4,J5,J6,J7,J8,↓reduceIte,reduceCtorEq,hw];refine⟨i+1,⟨by omega,hY rfl⟩,by omega,?_⟩;exact(aP [] rfl rfl rfl rfl)
 ·have hc1:((i:Int)<(l.length:Int))=False:=by simp;omega
  simp -implicitDefEqProofs only[oS.d,J0,J1,J2,J3,J4,J5,J6,J7,J8,↓reduceIte,reduceCtorEq,hc1];apply aH [];rfl;rfl;exact⟨by rw[jP (qL hn fun j hj=>he j (by omega))],rfl⟩
theorem jX4 (u v:Tym) (h1:dC u<100000000) (h2:dC v<100000000):VC kp8 208 [.agg ((aD u).map .d),.agg ((aD v).map .d)] [] fun r h'=>r = .one (.d (.bool (eqB u v)))∧h'=[]:=by
 have n0:u.name≠v.name→u≠v:=fun h e=>h (e▸rfl);have n1:u.t≠v.t→u≠v:=fun h e=>h (e▸rfl);have n2:u.cts≠v.cts→u≠v:=fun h e=>h (e▸rfl);have hy:u.name=v.name→u.t=v.t→u.cts=v.cts→u=v:=by cases u;cases v;simp_all
 have t0:=zG6 u.t v.t (by rw[qE]at h1;omega) (by rw[qE]at h2;omega);generalize hB:eqB u.t v.t=B0 at t0;have n1:=fun h=>n1 (gM (hB.trans h));have hb0:B0=true→u.t=v.t:=fun h=>gL (hB.trans h);clear hB;have t1:=jX3 (g:=211) u.cts v.cts (by rw[qE]at h1;have:=eC (f:=ctn) (fun t=>by unfold ctn;omega) u.cts;omega) fun a ha b hb=>jX2 a b (by rw[qE]at h1;have:=dB (f:=ctn) ha;omega) (by rw[qE]at h2;have:=dB (f:=ctn) hb;omega);generalize hB:eqB u.cts v.cts=B1 at t1;have n2:=fun h=>n2 (gM (hB.trans h));have hb1:B1=true→u.cts=v.cts:=fun h=>gL (hB.trans h);clear hB;obtain⟨un,⟨u1,u2,u3⟩,uc⟩:=u;obtain⟨vn,⟨v1,v2,v3⟩,vc⟩:=v;simp only[aF,bC,aD,aE,cZ,cA,bW,cU,cB,aA,tyV,scV,stW,abW,kq1,kq5,kr0,kr2]at t0 t1 ⊢;refine aU mixed jO3 (by simp) ?_;show vwp kp8 0 zB5 _ [(0,.agg [.d (.str un),.d (.int .i64 u1),.d (.int .i64 u2),.d (.sl (aF.encs u3)),.d (.sl (uc.map bC))]),(1,.agg [.d (.str vn),.d (.int .i64 v1),.d (.int .i64 v2),.d (.sl (aF.encs v3)),.d (.sl (vc.map bC))])] [];conv in zB5=>cbv
 rw[aO];by_cases e0:un=vn
 case neg=>
  have e0':(un=vn)=False:=by simp[e0]
  simp -implicitDefEqProofs only[oS.d,J0,J1,J2,J3,J4,J5,J6,J7,J8,↓reduceIte,reduceCtorEq,e0'];apply aH [];rfl;rfl;exact⟨by rw[dD (n0 e0)],rfl⟩
 have e0':(un=vn)=True:=by simp[e0]
 simp -implicitDefEqProofs only[oS.d,J0,J1,J2,J3,J4,J5,J6,J7,J8,↓reduceIte,reduceCtorEq,e0'];refine aM [] t0 rfl rfl rfl rfl ?_;cases B0 with
 |false=>
  simp -implicitDefEqProofs only[oS.d,J0,J1,J2,J3,J4,J5,J6,J7,J8,↓reduceIte,reduceCtorEq];apply aH [];rfl;rfl;exact⟨by rw[dD (n1 rfl)],rfl⟩
 |true=>
  simp -implicitDefEqProofs only[oS.d,J0,J1,J2,J3,J4,J5,J6,J7,J8,↓reduceIte,reduceCtorEq];refine aM [] t1 rfl rfl rfl rfl ?_;cases B1 with
  |false=>
   simp -implicitDefEqProofs only[oS.d,J0,J1,J2,J3,J4,J5,J6,J7,J8,↓reduceIte,reduceCtorEq];apply aH [];rfl;rfl;exact⟨by rw[dD (n2 rfl)],rfl⟩
  |true=>
   simp -implicitDefEqProofs only[oS.d,J0,J1,J2,J3,J4,J5,J6,J7,J8,↓reduceIte,reduceCtorEq];apply aH [];rfl;rfl;exact⟨by rw[jP (hy e0 (hb0 rfl) (hb1 rfl))],rfl⟩
theorem jX5 (u v:Vam) (h1:dJ u<100000000) (h2:dJ v<100000000):VC kp8 214 [.agg ((aE u).map .d),.agg ((aE v).map .d)] [] fun r h'=>r = .one (.d (.bool (eqB u v)))∧h'=[]:=by
 have n0:u.name≠v.name→u≠v:=fun h e=>h (e▸rfl);have n1:u.s≠v.s→u≠v:=fun h e=>h (e▸rfl);have hy:u.name=v.name→u.s=v.s→u=v:=by cases u;cases v;simp_all
 have t0:=jW9 u.s v.s (by rw[wD]at h1;omega) (by rw[wD]at h2;omega);generalize hB:eqB u.s v.s=B0 at t0;have n1:=fun h=>n1 (gM (hB.trans h));have hb0:B0=true→u.s=v.s:=fun h=>gL (hB.trans h);clear hB;obtain⟨un,u0,⟨u1,u2,u3⟩⟩:=u;obtain⟨vn,v0,⟨v1,v2,v3⟩⟩:=v;simp only[aF,bC,aD,aE,cZ,cA,bW,cU,cB,aA,tyV,scV,stW,abW,kq1,kq5,kr0,kr2]at t0 ⊢;refine aU mixed jO9 (by simp) ?_;show vwp kp8 0 zC1 _ [(0,.agg [.d (.str un),.d (.int .i64 u0),.d (.int .i64 u1),.d (.int .i64 u2),.d (.sl (aF.encs u3))]),(1,.agg [.d (.str vn),.d (.int .i64 v0),.d (.int .i64 v1),.d (.int .i64 v2),.d (.sl (aF.encs v3))])] [];conv in zC1=>cbv
 rw[aO];by_cases e0:un=vn
 case neg=>
  have e0':(un=vn)=False:=by simp[e0]
  simp -implicitDefEqProofs only[oS.d,J0,J1,J2,J3,J4,J5,J6,J7,J8,↓reduceIte,reduceCtorEq,e0'];apply aH [];rfl;rfl;exact⟨by rw[dD (n0 e0)],rfl⟩
 have e0':(un=vn)=True:=by simp[e0]
 simp -implicitDefEqProofs only[oS.d,J0,J1,J2,J3,J4,J5,J6,J7,J8,↓reduceIte,reduceCtorEq,e0'];refine aM [] t0 rfl rfl rfl rfl ?_;cases B0 with
 |false=>
  simp -implicitDefEqProofs only[oS.d,J0,J1,J2,J3,J4,J5,J6,J7,J8,↓reduceIte,reduceCtorEq];apply aH [];rfl;rfl;exact⟨by rw[dD (n1 rfl)],rfl⟩
 |true=>
  simp -implicitDefEqProofs only[oS.d,J0,J1,J2,J3,J4,J5,J6,J7,J8,↓reduceIte,reduceCtorEq];apply aH [];rfl;rfl;exact⟨by rw[jP (hy e0 (hb0 rfl))],rfl⟩
theorem jX6 {g:FuncId} (l l':List Tym) (hl:l.length<1000000000) (hg:∀u∈l,∀v∈l',VC kp8 g [.agg ((aD u).map .d),.agg ((aD v).map .d)] [] fun r h'=>r = .one (.d (.bool (eqB u v)))∧h'=[]):VC kp8 207 [.one (.d (.sl (l.map aD))),.one (.d (.sl (l'.map aD))),.one (.fn g [])] [] fun r h'=>r = .one (.d (.bool (eqB l l')))∧h'=[]:=by
 have m1:(l.map aD).length=l.length:=by simp only[kr8]
 have m2:(l'.map aD).length=l'.length:=by simp only[kr8]
 refine aU mixed jO2 (by simp) ?_;show vwp kp8 0 zB4 _ [(0,.one (.d (.sl (l.map aD)))),(1,.one (.d (.sl (l'.map aD)))),(2,.one (.fn g []))] [];conv in zB4=>cbv
 rw[aO];by_cases hn:l.length=l'.length
 case neg=>
  have hc:((l.length:Int)=(l'.length:Int))=False:=by simp;omega
  simp -implicitDefEqProofs only[oS.d,J0,J1,J2,J3,J4,J5,J6,J7,J8,↓reduceIte,reduceCtorEq,m1,m2,hc];apply aH [];rfl;rfl;exact⟨by rw[dD fun e:l=l'=>hn (congrArg List.length e)],rfl⟩
 have hc:((l.length:Int)=(l'.length:Int))=True:=by simp[hn]
 simp -implicitDefEqProofs only[oS.d,J0,J1,J2,J3,J4,J5,J6,J7,J8,↓reduceIte,reduceCtorEq,m1,m2,hc];refine bE (α:=Nat) (fun i=>[(17,.one (.d (.int .i64 i))),(16,.one (.d (.int .i64 l.length))),(15,.one (.d (.sl (l.map aD)))),(1,.one (.d (.sl (l'.map aD)))),(2,.one (.fn g []))]) (fun _=>[]) (fun i=>i≤l.length∧∀j,j<i→l[j]?=l'[j]?) (fun i=>l.length-i) 0 (aP [] rfl rfl rfl rfl) ⟨kt1 _,fun j h=>absurd h (ky7 _)⟩ ?_;rintro i ⟨hi,he⟩;have hw:=bQ (a:=i) rfl (by omega);rcases ks3 i l.length with h5|h5
 ·have hc1:((i:Int)<(l.length:Int))=True:=by simp;omega
  have hc2:((i:Int)<(l'.length:Int))=True:=by simp;omega
  have hc3:i<l'.length:=by omega
  obtain⟨u,hu⟩:=bK h5;obtain⟨v,hv⟩:=bK (l:=l') (i:=i) (by omega);have t1:=hg u (kq0 hu) v (kq0 hv);have gu:(l.map aD)[i]?=some (aD u):=by rw[ks1,hu];rfl
  have gv:(l'.map aD)[i]?=some (aD v):=by rw[ks1,hv];rfl
  have hN:=qJ hu hv;have hY:=qK he hu hv;clear hu hv;generalize hB:eqB u v=B at t1;have hN:=fun h=>hN (gM (hB.trans h));have hY:=fun h=>hY (gL (hB.trans h));clear hB;obtain⟨un,⟨u1,u2,u3⟩,uc⟩:=u;obtain⟨vn,⟨v1,v2,v3⟩,vc⟩:=v;simp only[aF,bC,aD,aE,cZ,cA,bW,cU,cB,aA,tyV,scV,stW,abW,kq1,kq5,kr0,kr2]at t1 gu gv;simp -implicitDefEqProofs only[oS.d,J0,J1,J2,J3,J4,J5,J6,J7,J8,↓reduceIte,reduceCtorEq,hc1,hc2,hc3,gu,gv,m1,m2,kq2,kq4];refine aM [] t1 rfl rfl rfl rfl ?_;cases B with
  |false=>
   simp -implicitDefEqProofs only[oS.d,J0,J1,J2,J3,J4,J5,J6,J7,J8,↓reduceIte,reduceCtorEq];apply aH [];rfl;rfl;exact⟨by rw[dD (hN rfl)],rfl⟩
  |true=>
   simp -implicitDefEqProofs only[oS.d,J0,J1,J2,J3,J4,J5,J6,J7,J8,↓reduceIte,reduceCtorEq,hw];refine⟨i+1,⟨by omega,hY rfl⟩,by omega,?_⟩;exact(aP [] rfl rfl rfl rfl)
 ·have hc1:((i:Int)<(l.length:Int))=False:=by simp;omega
  simp -implicitDefEqProofs only[oS.d,J0,J1,J2,J3,J4,J5,J6,J7,J8,↓reduceIte,reduceCtorEq,hc1];apply aH [];rfl;rfl;exact⟨by rw[jP (qL hn fun j hj=>he j (by omega))],rfl⟩
theorem jX7 {g:FuncId} (l l':List Vam) (hl:l.length<1000000000) (hg:∀u∈l,∀v∈l',VC kp8 g [.agg ((aE u).map .d),.agg ((aE v).map .d)] [] fun r h'=>r = .one (.d (.bool (eqB u v)))∧h'=[]):VC kp8 213 [.one (.d (.sl (l.map aE))),.one (.d (.sl (l'.map aE))),.one (.fn g [])] [] fun r h'=>r = .one (.d (.bool (eqB l l')))∧h'=[]:=by
 have m1:(l.map aE).length=l.length:=by simp only[kr8]
 have m2:(l'.map aE).length=l'.length:=by simp only[kr8]
 refine aU mixed jO8 (by simp) ?_;show vwp kp8 0 zC0 _ [(0,.one (.d (.sl (l.map aE)))),(1,.one (.d (.sl (l'.map aE)))),(2,.one (.fn g []))] [];conv in zC0=>cbv
 rw[aO];by_cases hn:l.length=l'.length
 case neg=>
  have hc:((l.length:Int)=(l'.length:Int))=False:=by simp;omega
  simp -implicitDefEqProofs only[oS.d,J0,J1,J2,J3,J4,J5,J6,J7,J8,↓reduceIte,reduceCtorEq,m1,m2,hc];apply aH [];rfl;rfl;exact⟨by rw[dD fun e:l=l'=>hn (congrArg List.length e)],rfl⟩
 have hc:((l.length:Int)=(l'.length:Int))=True:=by simp[hn]
 simp -implicitDefEqProofs only[oS.d,J0,J1,J2,J3,J4,J5,J6,J7,J8,↓reduceIte,reduceCtorEq,m1,m2,hc];refine bE (α:=Nat) (fun i=>[(17,.one (.d (.int .i64 i))),(16,.one (.d (.int .i64 l.length))),(15,.one (.d (.sl (l.map aE)))),(1,.one (.d (.sl (l'.map aE)))),(2,.one (.fn g []))]) (fun _=>[]) (fun i=>i≤l.length∧∀j,j<i→l[j]?=l'[j]?) (fun i=>l.length-i) 0 (aP [] rfl rfl rfl rfl) ⟨kt1 _,fun j h=>absurd h (ky7 _)⟩ ?_;rintro i ⟨hi,he⟩;have hw:=bQ (a:=i) rfl (by omega);rcases ks3 i l.length with h5|h5
 ·have hc1:((i:Int)<(l.length:Int))=True:=by simp;omega
  have hc2:((i:Int)<(l'.length:Int))=True:=by simp;omega
  have hc3:i<l'.length:=by omega
  obtain⟨u,hu⟩:=bK h5;obtain⟨v,hv⟩:=bK (l:=l') (i:=i) (by omega);have t1:=hg u (kq0 hu) v (kq0 hv);have gu:(l.map aE)[i]?=some (aE u):=by rw[ks1,hu];rfl
  have gv:(l'.map aE)[i]?=some (aE v):=by rw[ks1,hv];rfl
  have hN:=qJ hu hv;have hY:=qK he hu hv;clear hu hv;generalize hB:eqB u v=B at t1;have hN:=fun h=>hN (gM (hB.trans h));have hY:=fun h=>hY (gL (hB.trans h));clear hB;obtain⟨un,u0,⟨u1,u2,u3⟩⟩:=u;obtain⟨vn,v0,⟨v1,v2,v3⟩⟩:=v;simp only[aF,bC,aD,aE,cZ,cA,bW,cU,cB,aA,tyV,scV,stW,abW,kq1,kq5,kr0,kr2]at t1 gu gv;simp -implicitDefEqProofs only[oS.d,J0,J1,J2,J3,J4,J5,J6,J7,J8,↓reduceIte,reduceCtorEq,hc1,hc2,hc3,gu,gv,m1,m2,kq2,kq4];refine aM [] t1 rfl rfl rfl rfl ?_;cases B with
  |false=>
   simp -implicitDefEqProofs only[oS.d,J0,J1,J2,J3,J4,J5,J6,J7,J8,↓reduceIte,reduceCtorEq];apply aH [];rfl;rfl;exact⟨by rw[dD (hN rfl)],rfl⟩
  |true=>
   simp -implicitDefEqProofs only[oS.d,J0,J1,J2,J3,J4,J5,J6,J7,J8,↓reduceIte,reduceCtorEq,hw];refine⟨i+1,⟨by omega,hY rfl⟩,by omega,?_⟩;exact(aP [] rfl rfl rfl rfl)
 ·have hc1:((i:Int)<(l.length:Int))=False:=by simp;omega
  simp -implicitDefEqProofs only[oS.d,J0,J1,J2,J3,J4,J5,J6,J7,J8,↓reduceIte,reduceCtorEq,hc1];apply aH [];rfl;rfl;exact⟨by rw[jP (qL hn fun j hj=>he j (by omega))],rfl⟩
theorem jX8 {g:FuncId} (l l':List (ByteArray×Stx)) (hl:l.length<1000000000) (hg:∀u∈l,∀v∈l',VC kp8 g [.agg ((cA u).map .d),.agg ((cA v).map .d)] [] fun r h'=>r = .one (.d (.bool (eqB u v)))∧h'=[]):VC kp8 216 [.one (.d (.sl (aA.subs l))),.one (.d (.sl (aA.subs l'))),.one (.fn g [])] [] fun r h'=>r = .one (.d (.bool (eqB l l')))∧h'=[]:=by
 have m1:(aA.subs l).length=l.length:=by simp only[kJ]
 have m2:(aA.subs l').length=l'.length:=by simp only[kJ]
 refine aU mixed jP1 (by simp) ?_;show vwp kp8 0 zC3 _ [(0,.one (.d (.sl (aA.subs l)))),(1,.one (.d (.sl (aA.subs l')))),(2,.one (.fn g []))] [];conv in zC3=>cbv
 rw[aO];by_cases hn:l.length=l'.length
 case neg=>
  have hc:((l.length:Int)=(l'.length:Int))=False:=by simp;omega
  simp -implicitDefEqProofs only[oS.d,J0,J1,J2,J3,J4,J5,J6,J7,J8,↓reduceIte,reduceCtorEq,m1,m2,hc];apply aH [];rfl;rfl;exact⟨by rw[dD fun e:l=l'=>hn (congrArg List.length e)],rfl⟩
 have hc:((l.length:Int)=(l'.length:Int))=True:=by simp[hn]
 simp -implicitDefEqProofs only[oS.d,J0,J1,J2,J3,J4,J5,J6,J7,J8,↓reduceIte,reduceCtorEq,m1,m2,hc];refine bE (α:=Nat) (fun i=>[(17,.one (.d (.int .i64 i))),(16,.one (.d (.int .i64 l.length))),(15,.one (.d (.sl (aA.subs l)))),(1,.one (.d (.sl (aA.subs l')))),(2,.one (.fn g []))]) (fun _=>[]) (fun i=>i≤l.length∧∀j,j<i→l[j]?=l'[j]?) (fun i=>l.length-i) 0 (aP [] rfl rfl rfl rfl) ⟨kt1 _,fun j h=>absurd h (ky7 _)⟩ ?_;rintro i ⟨hi,he⟩;have hw:=bQ (a:=i) rfl (by omega);rcases ks3 i l.length with h5|h5
 ·have hc1:((i:Int)<(l.length:Int))=True:=by simp;omega
  have hc2:((i:Int)<(l'.length:Int))=True:=by simp;omega
  have hc3:i<l'.length:=by omega
  obtain⟨u,hu⟩:=bK h5;obtain⟨v,hv⟩:=bK (l:=l') (i:=i) (by omega);have t1:=hg u (kq0 hu) v (kq0 hv);have gu:(aA.subs l)[i]?=some (cA u):=by rw[qA,ks1,hu];rfl
  have gv:(aA.subs l')[i]?=some (cA v):=by rw[qA,ks1,hv];rfl
  have hN:=qJ hu hv;have hY:=qK he hu hv;clear hu hv;generalize hB:eqB u v=B at t1;have hN:=fun h=>hN (gM (hB.trans h));have hY:=fun h=>hY (gL (hB.trans h));clear hB;obtain⟨un,⟨u1,u2,u3,u4,u5⟩⟩:=u;obtain⟨vn,⟨v1,v2,v3,v4,v5⟩⟩:=v;simp only[aF,bC,aD,aE,cZ,cA,bW,cU,cB,aA,tyV,scV,stW,abW,kq1,kq5,kr0,kr2]at t1 gu gv;simp -implicitDefEqProofs only[oS.d,J0,J1,J2,J3,J4,J5,J6,J7,J8,↓reduceIte,reduceCtorEq,hc1,hc2,hc3,gu,gv,m1,m2,kq2,kq4];refine aM [] t1 rfl rfl rfl rfl ?_;cases B with
  |false=>
   simp -implicitDefEqProofs only[oS.d,J0,J1,J2,J3,J4,J5,J6,J7,J8,↓reduceIte,reduceCtorEq];apply aH [];rfl;rfl;exact⟨by rw[dD (hN rfl)],rfl⟩
  |true=>
   simp -implicitDefEqProofs only[oS.d,J0,J1,J2,J3,J4,J5,J6,J7,J8,↓reduceIte,reduceCtorEq,hw];refine⟨i+1,⟨by omega,hY rfl⟩,by omega,?_⟩;exact(aP [] rfl rfl rfl rfl)
 ·have hc1:((i:Int)<(l.length:Int))=False:=by simp;omega
  simp -implicitDefEqProofs only[oS.d,J0,J1,J2,J3,J4,J5,J6,J7,J8,↓reduceIte,reduceCtorEq,hc1];apply aH [];rfl;rfl;exact⟨by rw[jP (qL hn fun j hj=>he j (by omega))],rfl⟩
theorem jX9 {g:FuncId} (l l':List (ByteArray×FnE)) (hl:l.length<1000000000) (hg:∀u∈l,∀v∈l',VC kp8 g [.agg ((bW u).map .d),.agg ((bW v).map .d)] [] fun r h'=>r = .one (.d (.bool (eqB u v)))∧h'=[]):VC kp8 218 [.one (.d (.sl (aA.funs l))),.one (.d (.sl (aA.funs l'))),.one (.fn g [])] [] fun r h'=>r = .one (.d (.bool (eqB l l')))∧h'=[]:=by
 have m1:(aA.funs l).length=l.length:=by simp only[lT]
 have m2:(aA.funs l').length=l'.length:=by simp only[lT]
 refine aU mixed jP3 (by simp) ?_;show vwp kp8 0 zC5 _ [(0,.one (.d (.sl (aA.funs l)))),(1,.one (.d (.sl (aA.funs l')))),(2,.one (.fn g []))] [];conv in zC5=>cbv
 rw[aO];by_cases hn:l.length=l'.length
 case neg=>
  have hc:((l.length:Int)=(l'.length:Int))=False:=by simp;omega
  simp -implicitDefEqProofs only[oS.d,J0,J1,J2,J3,J4,J5,J6,J7,J8,↓reduceIte,reduceCtorEq,m1,m2,hc];apply aH [];rfl;rfl;exact⟨by rw[dD fun e:l=l'=>hn (congrArg List.length e)],rfl⟩
 have hc:((l.length:Int)=(l'.length:Int))=True:=by simp[hn]
 simp -implicitDefEqProofs only[oS.d,J0,J1,J2,J3,J4,J5,J6,J7,J8,↓reduceIte,reduceCtorEq,m1,m2,hc];refine bE (α:=Nat) (fun i=>[(17,.one (.d (.int .i64 i))),(16,.one (.d (.int .i64 l.length))),(15,.one (.d (.sl (aA.funs l)))),(1,.one (.d (.sl (aA.funs l')))),(2,.one (.fn g []))]) (fun _=>[]) (fun i=>i≤l.length∧∀j,j<i→l[j]?=l'[j]?) (fun i=>l.length-i) 0 (aP [] rfl rfl rfl rfl) ⟨kt1 _,fun j h=>absurd h (ky7 _)⟩ ?_;rintro i ⟨hi,he⟩;have hw:=bQ (a:=i) rfl (by omega);rcases ks3 i l.length with h5|h5
 ·have hc1:((i:Int)<(l.length:Int))=True:=by simp;omega
  have hc2:((i:Int)<(l'.length:Int))=True:=by simp;omega
  have hc3:i<l'.length:=by omega
  obtain⟨u,hu⟩:=bK h5;obtain⟨v,hv⟩:=bK (l:=l') (i:=i) (by omega);have t1:=hg u (kq0 hu) v (kq0 hv);have gu:(aA.funs l)[i]?=some (bW u):=by rw[lR,ks1,hu];rfl
  have gv:(aA.funs l')[i]?=some (bW v):=by rw[lR,ks1,hv];rfl
  have hN:=qJ hu hv;have hY:=qK he hu hv;clear hu hv;generalize hB:eqB u v=B at t1;have hN:=fun h=>hN (gM (hB.trans h));have hY:=fun h=>hY (gL (hB.trans h));clear hB;obtain⟨un,up,⟨u1,u2,u3,u4,u5⟩,uq,⟨ua,ub,uc,ud,ue⟩⟩:=u;obtain⟨vn,vp,⟨v1,v2,v3,v4,v5⟩,vq,⟨va,vb,vc,vd,ve⟩⟩:=v;simp only[aF,bC,aD,aE,cZ,cA,bW,cU,cB,aA,tyV,scV,stW,abW,kq1,kq5,kr0,kr2]at t1 gu gv;simp -implicitDefEqProofs only[oS.d,J0,J1,J2,J3,J4,J5,J6,J7,J8,↓reduceIte,reduceCtorEq,hc1,hc2,hc3,gu,gv,m1,m2,kq2,kq4];refine aM [] t1 rfl rfl rfl rfl ?_;cases B with
  |false=>
   simp -implicitDefEqProofs only[oS.d,J0,J1,J2,J3,J4,J5,J6,J7,J8,↓reduceIte,reduceCtorEq];apply aH [];rfl;rfl;exact⟨by rw[dD (hN rfl)],rfl⟩
  |true=>
   simp -implicitDefEqProofs only[oS.d,J0,J1,J2,J3,J4,J5,J6,J7,J8,↓reduceIte,reduceCtorEq,hw];refine⟨i+1,⟨by omega,hY rfl⟩,by omega,?_⟩;exact(aP [] rfl rfl rfl rfl)
 ·have hc1:((i:Int)<(l.length:Int))=False:=by simp;omega
  simp -implicitDefEqProofs only[oS.d,J0,J1,J2,J3,J4,J5,J6,J7,J8,↓reduceIte,reduceCtorEq,hc1];apply aH [];rfl;rfl;exact⟨by rw[jP (qL hn fun j hj=>he j (by omega))],rfl⟩
theorem jY0 {g:FuncId} (l l':List iN) (hl:l.length<1000000000) (hg:∀u∈l,∀v∈l',VC kp8 g [.agg ((cB u).map .d),.agg ((cB v).map .d)] [] fun r h'=>r = .one (.d (.bool (eqB u v)))∧h'=[]):VC kp8 220 [.one (.d (.sl (aA.sigs l))),.one (.d (.sl (aA.sigs l'))),.one (.fn g [])] [] fun r h'=>r = .one (.d (.bool (eqB l l')))∧h'=[]:=by
 have m1:(aA.sigs l).length=l.length:=by simp only[lU]
 have m2:(aA.sigs l').length=l'.length:=by simp only[lU]
 refine aU mixed jP5 (by simp) ?_;show vwp kp8 0 zC7 _ [(0,.one (.d (.sl (aA.sigs l)))),(1,.one (.d (.sl (aA.sigs l')))),(2,.one (.fn g []))] [];conv in zC7=>cbv
 rw[aO];by_cases hn:l.length=l'.length
 case neg=>
  have hc:((l.length:Int)=(l'.length:Int))=False:=by simp;omega
  simp -implicitDefEqProofs only[oS.d,J0,J1,J2,J3,J4,J5,J6,J7,J8,↓reduceIte,reduceCtorEq,m1,m2,hc];apply aH [];rfl;rfl;exact⟨by rw[dD fun e:l=l'=>hn (congrArg List.length e)],rfl⟩
 have hc:((l.length:Int)=(l'.length:Int))=True:=by simp[hn]
 simp -implicitDefEqProofs only[oS.d,J0,J1,J2,J3,J4,J5,J6,J7,J8,↓reduceIte,reduceCtorEq,m1,m2,hc];refine bE (α:=Nat) (fun i=>[(17,.one (.d (.int .i64 i))),(16,.one (.d (.int .i64 l.length))),(15,.one (.d (.sl (aA.sigs l)))),(1,.one (.d (.sl (aA.sigs l')))),(2,.one (.fn g []))]) (fun _=>[]) (fun i=>i≤l.length∧∀j,j<i→l[j]?=l'[j]?) (fun i=>l.length-i) 0 (aP [] rfl rfl rfl rfl) ⟨kt1 _,fun j h=>absurd h (ky7 _)⟩ ?_;rintro i ⟨hi,he⟩;have hw:=bQ (a:=i) rfl (by omega);rcases ks3 i l.length with h5|h5
 ·have hc1:((i:Int)<(l.length:Int))=True:=by simp;omega
  have hc2:((i:Int)<(l'.length:Int))=True:=by simp;omega
  have hc3:i<l'.length:=by omega
  obtain⟨u,hu⟩:=bK h5;obtain⟨v,hv⟩:=bK (l:=l') (i:=i) (by omega);have t1:=hg u (kq0 hu) v (kq0 hv);have gu:(aA.sigs l)[i]?=some (cB u):=by rw[lS,ks1,hu];rfl
  have gv:(aA.sigs l')[i]?=some (cB v):=by rw[lS,ks1,hv];rfl
  have hN:=qJ hu hv;have hY:=qK he hu hv;clear hu hv;generalize hB:eqB u v=B at t1;have hN:=fun h=>hN (gM (hB.trans h));have hY:=fun h=>hY (gL (hB.trans h));clear hB;obtain⟨un,up,⟨u1,u2,u3,u4,u5⟩⟩:=u;obtain⟨vn,vp,⟨v1,v2,v3,v4,v5⟩⟩:=v;simp only[aF,bC,aD,aE,cZ,cA,bW,cU,cB,aA,tyV,scV,stW,abW,kq1,kq5,kr0,kr2]at t1 gu gv;simp -implicitDefEqProofs only[oS.d,J0,J1,J2,J3,J4,J5,J6,J7,J8,↓reduceIte,reduceCtorEq,hc1,hc2,hc3,gu,gv,m1,m2,kq2,kq4];refine aM [] t1 rfl rfl rfl rfl ?_;cases B with
  |false=>
   simp -implicitDefEqProofs only[oS.d,J0,J1,J2,J3,J4,J5,J6,J7,J8,↓reduceIte,reduceCtorEq];apply aH [];rfl;rfl;exact⟨by rw[dD (hN rfl)],rfl⟩
  |true=>
   simp -implicitDefEqProofs only[oS.d,J0,J1,J2,J3,J4,J5,J6,J7,J8,↓reduceIte,reduceCtorEq,hw];refine⟨i+1,⟨by omega,hY rfl⟩,by omega,?_⟩;exact(aP [] rfl rfl rfl rfl)
 ·have hc1:((i:Int)<(l.length:Int))=False:=by simp;omega
  simp -implicitDefEqProofs only[oS.d,J0,J1,J2,J3,J4,J5,J6,J7,J8,↓reduceIte,reduceCtorEq,hc1];apply aH [];rfl;rfl;exact⟨by rw[jP (qL hn fun j hj=>he j (by omega))],rfl⟩
def StB (x y:Stx):Prop:=VC kp8 155 [stW x,stW y] [] fun r h'=>r = .one (.d (.bool (eqB x y)))∧h'=[]
theorem zG7 (u v:List Int×Stx) (hl:u.1.length<1000000000) (hs:StB u.2 v.2):VC kp8 106 [abW u.1 u.2,abW v.1 v.2] [] fun r h'=>r = .one (.d (.bool (eqB u v)))∧h'=[]:=by
 unfold StB at hs;have n0:u.1≠v.1→u≠v:=fun h e=>h (e▸rfl);have n1:u.2≠v.2→u≠v:=fun h e=>h (e▸rfl);have hy:u.1=v.1→u.2=v.2→u=v:=by cases u;cases v;simp_all
 have t0:=z63 u.1 v.1 hl;generalize hB:eqB u.1 v.1=B0 at t0;have n0:=fun h=>n0 (gM (hB.trans h));have hb0:B0=true→u.1=v.1:=fun h=>gL (hB.trans h);clear hB;have t1:=hs;generalize hB:eqB u.2 v.2=B1 at t1;have n1:=fun h=>n1 (gM (hB.trans h));have hb1:B1=true→u.2=v.2:=fun h=>gL (hB.trans h);clear hB;obtain⟨up,⟨u1,u2,u3,u4,u5⟩⟩:=u;obtain⟨vp,⟨v1,v2,v3,v4,v5⟩⟩:=v;simp only[aF,bC,aD,aE,cZ,cA,bW,cU,cB,aA,tyV,scV,stW,abW,kq1,kq5,kr0,kr2]at t0 t1 ⊢;refine aU mixed jK8 (by simp) ?_;show vwp kp8 0 zx9 _ [(0,.agg [.d (.sl (nums up)),.d (.sl (u1.map aD)),.d (.sl (u2.map aE)),.d (.sl (aA.subs u3)),.d (.sl (aA.funs u4)),.d (.sl (aA.sigs u5))]),(1,.agg [.d (.sl (nums vp)),.d (.sl (v1.map aD)),.d (.sl (v2.map aE)),.d (.sl (aA.subs v3)),.d (.sl (aA.funs v4)),.d (.sl (aA.sigs v5))])] [];conv in zx9=>cbv
 rw[aO];simp -implicitDefEqProofs only[oS.d,J0,J1,J2,J3,J4,J5,J6,J7,J8,↓reduceIte,reduceCtorEq];refine aM [] t0 rfl rfl rfl rfl ?_;cases B0 with
 |false=>
  simp -implicitDefEqProofs only[oS.d,J0,J1,J2,J3,J4,J5,J6,J7,J8,↓reduceIte,reduceCtorEq];apply aH [];rfl;rfl;exact⟨by rw[dD (n0 rfl)],rfl⟩
 |true=>
  simp -implicitDefEqProofs only[oS.d,J0,J1,J2,J3,J4,J5,J6,J7,J8,↓reduceIte,reduceCtorEq];refine aM [] t1 rfl rfl rfl rfl ?_;cases B1 with
  |false=>
   simp -implicitDefEqProofs only[oS.d,J0,J1,J2,J3,J4,J5,J6,J7,J8,↓reduceIte,reduceCtorEq];apply aH [];rfl;rfl;exact⟨by rw[dD (n1 rfl)],rfl⟩
  |true=>
   simp -implicitDefEqProofs only[oS.d,J0,J1,J2,J3,J4,J5,J6,J7,J8,↓reduceIte,reduceCtorEq];apply aH [];rfl;rfl;exact⟨by rw[jP (hy (hb0 rfl) (hb1 rfl))],rfl⟩
theorem jY1 (u v:ByteArray×Stx) (hs:StB u.2 v.2):VC kp8 217 [.agg ((cA u).map .d),.agg ((cA v).map .d)] [] fun r h'=>r = .one (.d (.bool (eqB u v)))∧h'=[]:=by
 unfold StB at hs;have n0:u.1≠v.1→u≠v:=fun h e=>h (e▸rfl);have n1:u.2≠v.2→u≠v:=fun h e=>h (e▸rfl);have hy:u.1=v.1→u.2=v.2→u=v:=by cases u;cases v;simp_all
 have t0:=hs;generalize hB:eqB u.2 v.2=B0 at t0;have n1:=fun h=>n1 (gM (hB.trans h));have hb0:B0=true→u.2=v.2:=fun h=>gL (hB.trans h);clear hB;obtain⟨un,⟨u1,u2,u3,u4,u5⟩⟩:=u;obtain⟨vn,⟨v1,v2,v3,v4,v5⟩⟩:=v;simp only[aF,bC,aD,aE,cZ,cA,bW,cU,cB,aA,tyV,scV,stW,abW,kq1,kq5,kr0,kr2]at t0 ⊢;refine aU mixed jP2 (by simp) ?_;show vwp kp8 0 zC4 _ [(0,.agg [.d (.str un),.d (.sl (u1.map aD)),.d (.sl (u2.map aE)),.d (.sl (aA.subs u3)),.d (.sl (aA.funs u4)),.d (.sl (aA.sigs u5))]),(1,.agg [.d (.str vn),.d (.sl (v1.map aD)),.d (.sl (v2.map aE)),.d (.sl (aA.subs v3)),.d (.sl (aA.funs v4)),.d (.sl (aA.sigs v5))])] [];conv in zC4=>cbv
 rw[aO];by_cases e0:un=vn
 case neg=>
  have e0':(un=vn)=False:=by simp[e0]
  simp -implicitDefEqProofs only[oS.d,J0,J1,J2,J3,J4,J5,J6,J7,J8,↓reduceIte,reduceCtorEq,e0'];apply aH [];rfl;rfl;exact⟨by rw[dD (n0 e0)],rfl⟩
 have e0':(un=vn)=True:=by simp[e0]
 simp -implicitDefEqProofs only[oS.d,J0,J1,J2,J3,J4,J5,J6,J7,J8,↓reduceIte,reduceCtorEq,e0'];refine aM [] t0 rfl rfl rfl rfl ?_;cases B0 with
 |false=>
  simp -implicitDefEqProofs only[oS.d,J0,J1,J2,J3,J4,J5,J6,J7,J8,↓reduceIte,reduceCtorEq];apply aH [];rfl;rfl;exact⟨by rw[dD (n1 rfl)],rfl⟩
 |true=>
  simp -implicitDefEqProofs only[oS.d,J0,J1,J2,J3,J4,J5,J6,J7,J8,↓reduceIte,reduceCtorEq];apply aH [];rfl;rfl;exact⟨by rw[jP (hy e0 (hb0 rfl))],rfl⟩
theorem jY2 (u v:ByteArray×FnE) (hl:u.2.1.length<1000000000) (hl2:u.2.2.2.1.length<1000000000) (hs:StB u.2.2.1 v.2.2.1) (hs2:StB u.2.2.2.2 v.2.2.2.2):VC kp8 219 [.agg ((bW u).map .d),.agg ((bW v).map .d)] [] fun r h'=>r = .one (.d (.bool (eqB u v)))∧h'=[]:=by
 unfold StB at hs;have n0:u.1≠v.1→u≠v:=fun h e=>h (e▸rfl);have n1:u.2.1≠v.2.1→u≠v:=fun h e=>h (e▸rfl);have n2:u.2.2.1≠v.2.2.1→u≠v:=fun h e=>h (e▸rfl);have n3:u.2.2.2≠v.2.2.2→u≠v:=fun h e=>h (e▸rfl);have hy:u.1=v.1→u.2.1=v.2.1→u.2.2.1=v.2.2.1→u.2.2.2=v.2.2.2→u=v:=by obtain⟨a,b,c,d⟩:=u;obtain⟨a2,b2,c2,d2⟩:=v;intros;simp_all
 have t0:=z63 u.2.1 v.2.1 hl;generalize hB:eqB u.2.1 v.2.1=B0 at t0;have n1:=fun h=>n1 (gM (hB.trans h));have hb0:B0=true→u.2.1=v.2.1:=fun h=>gL (hB.trans h);clear hB;have t1:=hs;generalize hB:eqB u.2.2.1 v.2.2.1=B1 at t1;have n2:=fun h=>n2 (gM (hB.trans h));have hb1:B1=true→u.2.2.1=v.2.2.1:=fun h=>gL (hB.trans h);clear hB;have t2:=zG7 u.2.2.2 v.2.2.2 hl2 hs2;generalize hB:eqB u.2.2.2 v.2.2.2=B2 at t2;have n3:=fun h=>n3 (gM (hB.trans h));have hb2:B2=true→u.2.2.2=v.2.2.2:=fun h=>gL (hB.trans h);clear hB;obtain⟨un,up,⟨u1,u2,u3,u4,u5⟩,uq,⟨ua,ub,uc,ud,ue⟩⟩:=u;obtain⟨vn,vp,⟨v1,v2,v3,v4,v5⟩,vq,⟨va,vb,vc,vd,ve⟩⟩:=v;simp only[aF,bC,aD,aE,cZ,cA,bW,cU,cB,aA,tyV,scV,stW,abW,kq1,kq5,kr0,kr2]at t0 t1 t2 ⊢;refine aU mixed jP4 (by simp) ?_;show vwp kp8 0 zC6 _ [(0,.agg [.d (.str un),.d (.sl (nums up)),.d (.sl (u1.map aD)),.d (.sl (u2.map aE)),.d (.sl (aA.subs u3)),.d (.sl (aA.funs u4)),.d (.sl (aA.sigs u5)),.d (.sl (nums uq)),.d (.sl (ua.map aD)),.d (.sl (ub.map aE)),.d (.sl (aA.subs uc)),.d (.sl (aA.funs ud)),.d (.sl (aA.sigs ue))]),(1,.agg [.d (.str vn),.d (.sl (nums vp)),.d (.sl (v1.map aD)),.d (.sl (v2.map aE)),.d (.sl (aA.subs v3)),.d (.sl (aA.funs v4)),.d (.sl (aA.sigs v5)),.d (.sl (nums vq)),.d (.sl (va.map aD)),.d (.sl (vb.map aE)),.d (.sl (aA.subs vc)),.d (.sl (aA.funs vd)),.d (.sl (aA.sigs ve))])] [];conv in zC6=>cbv
 rw[aO];by_cases e0:un=vn
 case neg=>
  have e0':(un=vn)=False:=by simp[e0]
  simp -implicitDefEqProofs only[oS.d,J0,J1,J2,J3,J4,J5,J6,J7,J8,↓reduceIte,reduceCtorEq,e0'];apply aH [];rfl;rfl;exact⟨by rw[dD (n0 e0)],rfl⟩
 have e0':(un=vn)=True:=by simp[e0]
 simp -implicitDefEqProofs only[oS.d,J0,J1,J2,J3,J4,J5,J6,J7,J8,↓reduceIte,reduceCtorEq,e0'];refine aM [] t0 rfl rfl rfl rfl ?_;cases B0 with
 |false=>
  simp -implicitDefEqProofs only[oS.d,J0,J1,J2,J3,J4,J5,J6,J7,J8,↓reduceIte,reduceCtorEq];apply aH [];rfl;rfl;exact⟨by rw[dD (n1 rfl)],rfl⟩
 |true=>
  simp -implicitDefEqProofs only[oS.d,J0,J1,J2,J3,J4,J5,J6,J7,J8,↓reduceIte,reduceCtorEq];refine aM [] t1 rfl rfl rfl rfl ?_;cases B1 with
  |false=>
   simp -implicitDefEqProofs only[oS.d,J0,J1,J2,J3,J4,J5,J6,J7,J8,↓reduceIte,reduceCtorEq];apply aH [];rfl;rfl;exact⟨by rw[dD (n2 rfl)],rfl⟩
  |true=>
   simp -implicitDefEqProofs only[oS.d,J0,J1,J2,J3,J4,J5,J6,J7,J8,↓reduceIte,reduceCtorEq];refine aM [] t2 rfl rfl rfl rfl ?_;cases B2 with
   |false=>
    simp -implicitDefEqProofs only[oS.d,J0,J1,J2,J3,J4,J5,J6,J7,J8,↓reduceIte,reduceCtorEq];apply aH [];rfl;rfl;exact⟨by rw[dD (n3 rfl)],rfl⟩
   |true=>
    simp -implicitDefEqProofs only[oS.d,J0,J1,J2,J3,J4,J5,J6,J7,J8,↓reduceIte,reduceCtorEq];apply aH [];rfl;rfl;exact⟨by rw[jP (hy e0 (hb0 rfl) (hb1 rfl) (hb2 rfl))],rfl⟩
theorem jY3 (u v:iN) (hl:u.2.1.length<1000000000) (hs:StB u.2.2 v.2.2):VC kp8 221 [.agg ((cB u).map .d),.agg ((cB v).map .d)] [] fun r h'=>r = .one (.d (.bool (eqB u v)))∧h'=[]:=by
 have n0:u.1≠v.1→u≠v:=fun h e=>h (e▸rfl);have n1:u.2≠v.2→u≠v:=fun h e=>h (e▸rfl);have hy:u.1=v.1→u.2=v.2→u=v:=by cases u;cases v;simp_all
 have t0:=zG7 u.2 v.2 hl hs;generalize hB:eqB u.2 v.2=B0 at t0;have n1:=fun h=>n1 (gM (hB.trans h));have hb0:B0=true→u.2=v.2:=fun h=>gL (hB.trans h);clear hB;obtain⟨un,up,⟨u1,u2,u3,u4,u5⟩⟩:=u;obtain⟨vn,vp,⟨v1,v2,v3,v4,v5⟩⟩:=v;simp only[aF,bC,aD,aE,cZ,cA,bW,cU,cB,aA,tyV,scV,stW,abW,kq1,kq5,kr0,kr2]at t0 ⊢;refine aU mixed jP6 (by simp) ?_;show vwp kp8 0 zC8 _ [(0,.agg [.d (.str un),.d (.sl (nums up)),.d (.sl (u1.map aD)),.d (.sl (u2.map aE)),.d (.sl (aA.subs u3)),.d (.sl (aA.funs u4)),.d (.sl (aA.sigs u5))]),(1,.agg [.d (.str vn),.d (.sl (nums vp)),.d (.sl (v1.map aD)),.d (.sl (v2.map aE)),.d (.sl (aA.subs v3)),.d (.sl (aA.funs v4)),.d (.sl (aA.sigs v5))])] [];conv in zC8=>cbv
 rw[aO];by_cases e0:un=vn
 case neg=>
  have e0':(un=vn)=False:=by simp[e0]
  simp -implicitDefEqProofs only[oS.d,J0,J1,J2,J3,J4,J5,J6,J7,J8,↓reduceIte,reduceCtorEq,e0'];apply aH [];rfl;rfl;exact⟨by rw[dD (n0 e0)],rfl⟩
 have e0':(un=vn)=True:=by simp[e0]
 simp -implicitDefEqProofs only[oS.d,J0,J1,J2,J3,J4,J5,J6,J7,J8,↓reduceIte,reduceCtorEq,e0'];refine aM [] t0 rfl rfl rfl rfl ?_;cases B0 with
 |false=>
  simp -implicitDefEqProofs only[oS.d,J0,J1,J2,J3,J4,J5,J6,J7,J8,↓reduceIte,reduceCtorEq];apply aH [];rfl;rfl;exact⟨by rw[dD (n1 rfl)],rfl⟩
 |true=>
  simp -implicitDefEqProofs only[oS.d,J0,J1,J2,J3,J4,J5,J6,J7,J8,↓reduceIte,reduceCtorEq];apply aH [];rfl;rfl;exact⟨by rw[jP (hy e0 (hb0 rfl))],rfl⟩
end Go.Vt.Tryz
