import Derived.Test.YtdabfkmhkoppcaaGreatDoorVtSeat
set_option linter.all false
open List renaming all_nil→kK5,lookup→kt8,map_nil→kq5,range→kt4
open Option renaming bind_some→ku8
namespace Go.Vt
set_option linter.unusedSectionVars false
set_option linter.unusedVariables false
variable [cJ]
theorem nD {P:Program}:∀{c:aC} {n:Nat} {Q Q':VX→Sl→aB→Prop} {T:Sl} {h:aB},(∀e T h,Q e T h→Q' e T h)→vwp P n c Q T h→vwp P n c Q' T h
 |.skip,_,_,_,_,_,hq,hv=>hq _ _ _ hv
 |.ops _,_,_,_,_,_,hq,hv=>xX (fun _ _=>hq _ _ _) hv
 |.opsW _ _,_,_,_,_,_,hq,hv=>vJ (fun _ _=>hq _ _ _) hv
 |.both a b,_,_,_,_,_,hq,hv=>⟨nD (c:=a) hq hv.1,nD (c:=b) hq hv.2⟩
 |.opsB t _,_,_,_,_,_,hq,hv=>rJ (t:=t) (fun _ _=>hq _ _ _) hv
 |.opsK t _,_,_,_,_,_,hq,hv=>rJ (t:=t) (fun _ _ ⟨T0,h0,k,hv⟩=>⟨T0,h0,k,hq _ _ _ hv⟩) hv
 |.seq a b,_,Q,Q',_,_,hq,hv=>nD (c:=a) (fun e T h hv=>by
   cases e with
   |normal=>exact nD (c:=b) hq hv
   |exit id=>exact hq _ _ _ hv
   |ret=>exact hq _ _ _ hv) hv
 |.cond c x y,n,Q,Q',T,h,hq,hv=>by
  have hv:iX (opd T c) (vwp P n x Q T h) (vwp P n y Q T h):=hv;show iX (opd T c) (vwp P n x Q' T h) (vwp P n y Q' T h);unfold iX at hv ⊢;split at hv
  ·exact⟨fun e=>nD hq (hv.1 e),fun e=>nD hq (hv.2 e)⟩
  ·exact hv
 |.block id c,_,Q,Q',_,_,hq,hv=>nD (c:=c) (fun e T h hv=>by
   cases e with
   |normal=>exact hq _ _ _ hv
   |exit id'=>
    have hv:if id'=id then Q .normal T h else Q (.exit id') T h:=hv
    show if id'=id then Q' .normal T h else Q' (.exit id') T h
    split at hv
    ·rename_i e;rw[if_pos e];exact hq _ _ _ hv
    ·rename_i e;rw[if_neg e];exact hq _ _ _ hv
   |ret=>exact hq _ _ _ hv) hv
 |.loop c,_,Q,Q',_,_,hq,hv=>by
  obtain⟨I,h0,hr⟩:=hv;refine⟨I,h0,fun k T h hi=>nD (c:=c) (fun e T h hv=>?_) (hr k T h hi)⟩;cases e with
  |normal=>exact hv
  |exit id=>exact hq _ _ _ hv
  |ret=>exact hq _ _ _ hv
 |.exit _,_,_,_,_,_,hq,hv=>hq _ _ _ hv
 |.ret,_,_,_,_,_,hq,hv=>hq _ _ _ hv
 |.bad,_,_,_,_,_,_,hv=>hv
 |.rangeF g ps x y,_,Q,Q',T,_,hq,hv=>by
  obtain⟨f,caps,N,it,h1,h2,h3,h4,hv⟩:=hv;refine⟨f,caps,N,it,h1,h2,h3,h4,jt2 (fun vs h K K' hk hv=>⟨hv.1,nD (c:=x) (fun e T h hv=>?_) hv.2⟩) (fun e T ys h pd hv=>?_) hv⟩
  ·cases e with
   |exit id=>exact hv
   |normal=>cases pd<;>exact hq _ _ _ hv
   |ret=>cases pd<;>exact hq _ _ _ hv
  ·cases e with
   |normal=>
    refine nD (c:=y) (fun e T h hv=>?_) hv;cases e with
    |normal=>exact hk _ _ hv
    |exit id=>exact hk _ _ hv
    |ret=>exact hk _ _ hv
   |exit id=>exact hv
   |ret=>exact hv
class Kn (α:Type) where
 run:α→Prop
theorem ju5 {α:Type} {f:α→Prop} {a:α}:@Kn.run α ⟨f⟩ a=f a:=rfl
def obI {α:Type} (x:Option α) [K:Kn α]:Prop:=match x with
 |some a=>K.run a
 |none=>False
def ze7 (c:Bool) [X:Kn Unit] [Y:Kn Unit]:Prop:=(c=true→X.run ())∧(c=false→Y.run ())
def kY (c:Bool) [X:Kn Unit] [Y:Kn Unit]:Prop:=match c with
 |true=>X.run ()
 |false=>Y.run ()
def vDI (h:aB) (d:D) [K:Kn (V×aB)]:Prop:=match d with
 |.bool c=>@ze7 c ⟨fun _=>K.run (.one (.d (.bool true)),h)⟩ ⟨fun _=>K.run (.one (.d (.bool false)),h)⟩
 |d=>K.run (.one (.d d),h)
def asB:Option V→Option Bool
 |some (.one (.d (.bool b)))=>some b
 |_=>none
def asL:Option V→Option L
 |some (.one l)=>some l
 |_=>none
def asI:Option V→Option (IntKind×Int)
 |some (.one (.d (.int k n)))=>some (k,n)
 |_=>none
def vN:Option V→Option (Nat×List L×List L)
 |some (.one (.fn f caps))=>some (f,[],caps)
 |some (.one (.fb f fst))=>some (f,fst,[])
 |_=>none
def cV (P:Program) (T:Sl) (h:aB) (op:Op) [K:Kn (V×aB)]:Prop:=lO P T h op fun v h=>K.run (v,h)
def nE (P:Program) (o:VOp) (T:Sl) (h:aB) [K:Kn (Sl×aB)]:Prop:=iJ P o T h fun T h=>K.run (T,h)
def ze8 (P:Program) (l:List VOp) (T:Sl) (h:aB) [K:Kn (Sl×aB)]:Prop:=nX P l T h fun T h=>K.run (T,h)
def vO (P:Program) (ob:List (Nat×List Nat)) (l:List (Nat×VOp)) (W:List (Nat×VOp×Sl×Sl)) (T:Sl) (h:aB) [K:Kn (Sl×aB)]:Prop:=nA P ob l W T h fun T h=>K.run (T,h)
def pR (P:Program) (ob:List (Nat×List Nat)) (t:VBT) (W:List (Nat×VOp×Sl×Sl)) (T:Sl) (h:aB) [K:Kn (Sl×aB)]:Prop:=jO P ob t W T h fun T h=>K.run (T,h)
def iY (P:Program) (n:Nat) (c:aC) (T:Sl) (h:aB) [K:Kn (VX×Sl×aB)]:Prop:=vwp P n c (fun e T h=>K.run (e,T,h)) T h
def kE (P:Program) (f:FuncId) (avs:List V) (h:aB) [K:Kn (V×aB)]:Prop:=sT P f avs h fun v h=>K.run (v,h)
def yB (c:Option V) [X:Kn Unit] [Y:Kn Unit]:Prop:=iX c (X.run ()) (Y.run ())
def yC (h:aB) (l:L) [X:Kn Bool]:Prop:=kV h l fun b=>X.run b
def yD (e:VX) (T:Sl) (h:aB) [N:Kn (Sl×aB)] [K:Kn (VX×Sl×aB)]:Prop:=vG (fun T h=>N.run (T,h)) (fun e T h=>K.run (e,T,h)) e T h
def ze9 (id:Nat) (e:VX) (T:Sl) (h:aB) [K:Kn (VX×Sl×aB)]:Prop:=zV9 id (fun e T h=>K.run (e,T,h)) e T h
section
variable {P:Program} {n:Nat} {T:Sl} {h:aB} {K:Kn (V×aB)} {K2:Kn (Sl×aB)} {KX:Kn (VX×Sl×aB)} {X Y:Kn Unit}
theorem tD {α:Type} {a:α} {K:Kn α}:@obI _ (some a) K=K.run a:=rfl
theorem ju6 {α:Type} {K:Kn α}:@obI α none K=False:=rfl
theorem ju7 {c:Bool}:@ze7 c X Y=((c=true→X.run ())∧(c=false→Y.run ())):=rfl
theorem ju8:@kY true X Y=X.run ():=rfl
theorem ju9:@kY false X Y=Y.run ():=rfl
theorem jv0 {c:Bool}:@vDI h (.bool c) K=@ze7 c ⟨fun _=>K.run (.one (.d (.bool true)),h)⟩ ⟨fun _=>K.run (.one (.d (.bool false)),h)⟩:=rfl
theorem jv1 {k:IntKind} {n:Int}:@vDI h (.int k n) K=K.run (.one (.d (.int k n)),h):=rfl
theorem jv2 {s:ByteArray}:@vDI h (.str s) K=K.run (.one (.d (.str s)),h):=rfl
theorem jv3 {d:D}:@vDI h d K=K.run (.one (.d d),h):=by cases d<;>first|rfl|(rename_i b;cases b<;>simp[vDI,ze7])
theorem aO {c:aC} {Q:VX→Sl→aB→Prop}:vwp P n c Q T h=@iY _ P n c T h ⟨fun p=>Q p.1 p.2.1 p.2.2⟩:=rfl
theorem jv4:@iY _ P n .skip T h KX=KX.run (.normal,T,h):=rfl
theorem jv5 {l:List VOp}:@iY _ P n (.ops l) T h KX=@ze8 _ P l T h ⟨fun p=>KX.run (.normal,p.1,p.2)⟩:=rfl
theorem jv6 {l:List (Nat×VOp)} {ob:List (Nat×List Nat)}:@iY _ P n (.opsW l ob) T h KX=@vO _ P ob l [] T h ⟨fun p=>KX.run (.normal,p.1,p.2)⟩:=rfl
theorem jv7 {a b:aC}:@iY _ P n (.both a b) T h KX=(@iY _ P n a T h KX∧@iY _ P n b T h KX):=rfl
theorem jv8 {t:VBT} {ob:List (Nat×List Nat)}:@iY _ P n (.opsB t ob) T h KX=@pR _ P ob t [] T h ⟨fun p=>KX.run (.normal,p.1,p.2)⟩:=rfl
theorem jv9 {a b:aC}:@iY _ P n (.seq a b) T h KX=@iY _ P n a T h ⟨fun p=>@yD p.1 p.2.1 p.2.2 ⟨fun q=>@iY _ P n b q.1 q.2 KX⟩ KX⟩:=rfl
theorem jw0 {c:Operand} {x y:aC}:@iY _ P n (.cond c x y) T h KX=@yB (opd T c) ⟨fun _=>@iY _ P n x T h KX⟩ ⟨fun _=>@iY _ P n y T h KX⟩:=rfl
theorem jw1 {id:Nat} {c:aC}:@iY _ P n (.block id c) T h KX=@iY _ P n c T h ⟨fun p=>@ze9 id p.1 p.2.1 p.2.2 KX⟩:=rfl
theorem jw2 {id:Nat}:@iY _ P n (.exit id) T h KX=KX.run (.exit id,T,h):=rfl
theorem jw3:@iY _ P n .ret T h KX=KX.run (.ret,T,h):=rfl
theorem jw4:@yD .normal T h K2 KX=K2.run (T,h):=rfl
theorem jw5 {id:Nat}:@yD (.exit id) T h K2 KX=KX.run (.exit id,T,h):=rfl
theorem jw6:@yD .ret T h K2 KX=KX.run (.ret,T,h):=rfl
theorem jw7 {id:Nat}:@ze9 id .normal T h KX=KX.run (.normal,T,h):=rfl
theorem jw8 {id:Nat}:@ze9 id .ret T h KX=KX.run (.ret,T,h):=rfl
theorem jw9 {id id':Nat}:@ze9 id (.exit id') T h KX=@kY (id' == id) ⟨fun _=>KX.run (.normal,T,h)⟩ ⟨fun _=>KX.run (.exit id',T,h)⟩:=by
 show(if id'=id then _ else _)=_;by_cases e:id'=id
 ·simp[e,kY]
 ·have:(id' == id)=false:=by simpa using e
  rw[this,if_neg e];rfl
theorem jx0:@ze8 _ P [] T h K2=K2.run (T,h):=rfl
theorem jx1 {o:VOp} {R:List VOp}:@ze8 _ P (o::R) T h K2=@nE _ P o T h ⟨fun p=>@ze8 _ P R p.1 p.2 K2⟩:=rfl
theorem jx2 {d:Option Tmp} {op:Op}:@nE _ P (VOp.mk d op none) T h K2=@cV _ P T h op ⟨fun r=>K2.run (bI T d r.1,r.2)⟩:=rfl
theorem jx3 {d:Option Tmp} {op:Op} {g:Tmp} {w:Bool}:@nE _ P (VOp.mk d op (some (some g,w))) T h K2=@obI _ (rF (T.lookup g)) ⟨fun b=>@kY (b == some w) ⟨fun _=>@cV _ P T h op ⟨fun r=>K2.run (bI T d r.1,r.2)⟩⟩ ⟨fun _=>K2.run (bI T d sV,h)⟩⟩:=by
 unfold nE iJ obI;simp only;rcases rF (T.lookup g)with _|b<;>first|rfl|skip
 by_cases e:b=some w
 ·subst e;simp[kY,cV]
 ·have:(b == some w)=false:=by simpa using e
  simp[this,e,kY]
theorem jx4 {b:Bool}:rF (some (.one (.d (.bool b))))=some (some b):=rfl
theorem jx5:rF (some (.tup []))=some none:=rfl
theorem jx6:((some true:Option Bool) == some true)=true:=rfl
theorem jx7:((some false:Option Bool) == some false)=true:=rfl
theorem jx8:((some true:Option Bool) == some false)=false:=rfl
theorem jx9:((some false:Option Bool) == some true)=false:=rfl
theorem jy0:((none:Option Bool) == some true)=false:=rfl
theorem jy1:((none:Option Bool) == some false)=false:=rfl
theorem jy2:@yB (some (.one (.d (.bool true)))) X Y=X.run ():=by simp[yB,iX]
theorem jy3:@yB (some (.one (.d (.bool false)))) X Y=Y.run ():=by simp[yB,iX]
theorem jy4 {d:Tmp} {v:V}:bI T (some d) v=(d,v)::T:=rfl
theorem jy5 {v:V}:bI T none v=T:=rfl
theorem jy6 {t:Tmp}:opd T (.tmp t)=T.lookup t:=rfl
theorem jy7 {k:IntKind} {n:Int}:opd T (.const (.int k n))=some (.one (.d (.int k n))):=rfl
theorem jy8 {b:Bool}:opd T (.const (.bool b))=some (.one (.d (.bool b))):=rfl
theorem jy9 {s:ByteArray}:opd T (.const (.string s))=some (.one (.d (.str s))):=rfl
theorem zX2:opd T (.const (.slice none 0 0))=some (.one .nils):=rfl
theorem jz0:opd T (.const (.pointer none))=some (.one (.d .nilp)):=rfl
theorem jz1:opd T (.const .nilFunc)=some (.one .nilf):=rfl
theorem jz2 {f:FuncId}:opd T (.func f)=some (.one (.fn f [])):=rfl
theorem iC {α:Type} {i k:Nat} {v:α} {r:List (Nat×α)}:kt8 i ((k,v)::r)=cond (i == k) (some v) (kt8 i r):=by
 rw[List.lookup_cons];cases i == k<;>rfl
theorem jz3:(true == true)=true:=rfl
theorem jz4:(false == false)=true:=rfl
theorem jz5:(true == false)=false:=rfl
theorem jz6:(false == true)=false:=rfl
def yE (ob:List (Nat×List Nat)) (i:Nat) (o:VOp) (T T':Sl) (W:List (Nat×VOp×Sl×Sl)):List (Nat×VOp×Sl×Sl):=cond (ob.any fun x=>x.2.contains i) ((i,o,T,T')::W) W
theorem jz7 {ob:List (Nat×List Nat)} {W:List (Nat×VOp×Sl×Sl)}:@pR _ P ob .leaf W T h K2=K2.run (T,h):=rfl
theorem jz8 {ob:List (Nat×List Nat)} {W:List (Nat×VOp×Sl×Sl)}:@pR _ P ob .no W T h K2=True:=rfl
theorem jz9 {ob:List (Nat×List Nat)} {i:Nat} {o:VOp} {t:VBT} {W:List (Nat×VOp×Sl×Sl)}:@pR _ P ob (.ro i o t) W T h K2=@nE _ P o T h ⟨fun p=>@pR _ P ob t (yE ob i o T p.1 W) p.1 p.2 K2⟩:=by
 unfold pR;rw[jO];simp only[nE,yE];cases (ob.any fun x=>x.2.contains i)<;>rfl
theorem jA0 {ob:List (Nat×List Nat)} {j:Nat} {o:VOp} {t r:VBT} {W:List (Nat×VOp×Sl×Sl)}:@pR _ P ob (.alt j o t r) W T h K2=(@nE _ P o T h ⟨fun p=>mZ P (iB ob j) p.2 W∧@pR _ P ob t W p.1 p.2 K2⟩∧@pR _ P ob r W T h K2):=rfl
theorem jA1 {ob:List (Nat×List Nat)} {W:List (Nat×VOp×Sl×Sl)}:@vO _ P ob [] W T h K2=K2.run (T,h):=rfl
theorem jA2 {ob:List (Nat×List Nat)} {i:Nat} {o:VOp} {R:List (Nat×VOp)} {W:List (Nat×VOp×Sl×Sl)}:@vO _ P ob ((i,o)::R) W T h K2 =
  @kY (ro o.op) ⟨fun _=>@nE _ P o T h ⟨fun p=>@vO _ P ob R (yE ob i o T p.1 W) p.1 p.2 K2⟩⟩ ⟨fun _=>@nE _ P o T h ⟨fun p=>mZ P (iB ob i) p.2 W∧@vO _ P ob R W p.1 p.2 K2⟩⟩:=by
 unfold vO;rw[nA];cases ro o.op
 ·rfl
 ·simp only[if_true,kY,nE,yE];cases (ob.any fun x=>x.2.contains i)<;>rfl
theorem jA3 {is:List Nat}:mZ P is h []=True:=rfl
theorem jA4 {is:List Nat} {i:Nat} {o:VOp} {T T':Sl} {W:List (Nat×VOp×Sl×Sl)}:mZ P is h ((i,o,T,T')::W)=(@kY (is.contains i) ⟨fun _=>@nE _ P o T h ⟨fun p=>p.1=T'⟩⟩ ⟨fun _=>True⟩∧mZ P is h W):=by
 show((i∈is→_)∧_)=_;cases hc:is.contains i
 ·have:i∉is:=by simpa using hc
  simp[this,kY]
 ·have:i∈is:=by simpa using hc
  simp[this,kY,nE]
theorem jA5 {i:Nat}:iB [] i=[]:=rfl
theorem jA6 {i k:Nat} {l:List Nat} {r:List (Nat×List Nat)}:iB ((k,l)::r) i=cond (i == k) l (iB r i):=by
 unfold iB;rw[iC];cases i == k<;>rfl
abbrev mkO (op:Op):Oper:={ dst:=none,op,type:=0,pos:="",after:=#[],guard:=none }
theorem gI {op:Op} {e:Option (V×aB)} (hv:vop P T h (mkO op)=e) (hm:dW P T h (mkO op)=none) (ho:∀K,¬cH P T h (mkO op) K):@cV _ P T h op K=@obI _ e K:=by
 unfold cV lO eW;rw[hv,hm];cases e with
 |some r=>rfl
 |none=>exact eq_false (ho _)
theorem yF {op:Op} {e:Option (V×aB)} (hv:vop P T h (mkO op)=none) (hm:dW P T h (mkO op)=e) (ho:∀K,¬cH P T h (mkO op) K):@cV _ P T h op K=@obI _ e K:=by
 unfold cV lO eW;rw[hv,hm];cases e with
 |some r=>rfl
 |none=>exact eq_false (ho _)
theorem jA7 {x:Operand}:@cV _ P T h (.move x) K=@obI _ ((opd T x).map fun v=>(v,h)) K:=
 gI (by
  simp only[vop];cases opd T x<;>rfl) rfl (by simp[cH])
theorem jA8 {x:Operand}:@cV _ P T h (.assign x) K=@obI _ ((opd T x).map fun v=>(v,h)) K:=
 gI (by
  simp only[vop];cases opd T x<;>rfl) rfl (by simp[cH])
theorem jA9 {c x y:Operand}:@cV _ P T h (.pick c x y) K=@obI _ ((opd T c).bind fun b=>(pK b (opd T x) (opd T y)).map fun v=>(v,h)) K:=
 gI (by
  simp only[vop];cases opd T c with
  |none=>rfl
  |some b=>simp only[ku8];cases pK b (opd T x) (opd T y)<;>rfl) rfl (by simp[cH])
theorem nF {e:TypeId} {i:TI} (ht:ti P e=some i):@cV _ P T h (.alloc e) K=@obI _ (i.zero.bind fun z=>(iG z).map fun ls=>(.one (.ptr h.length 0),h++[kC P e ls])) K:=
 gI (by
  simp only[vop,ht];cases i.zero with
  |none=>rfl
  |some z=>simp only[ku8];cases iG z<;>rfl) rfl (by simp[cH])
theorem jB0 {e:TypeId} {x:Operand}:@cV _ P T h (.box e x) K=@obI _ ((opd T x).bind fun v=>if jR v=true then (iG v).map fun ls=>(.one (.ptr h.length 0),h++[kC P e ls])else none) K:=
 gI (by
  simp only[vop];cases opd T x with
  |none=>rfl
  |some v=>simp only[ku8];split<;>first|rfl|(cases iG v<;>rfl)) rfl (by simp[cH])
theorem jH {t:TypeId} {ps:Array (Nat×Operand)} {i:TI} (ht:ti P t=some i):@cV _ P T h (.build t ps) K=@obI _ ((lI T ps.toList).bind fun vs=>(uP i vs).map fun v=>(v,h)) K:=
 gI (by
  simp only[vop,ht];cases lI T ps.toList with
  |none=>rfl
  |some vs=>simp only[ku8];cases uP i vs<;>rfl) rfl (by simp[cH])
theorem cQ {t:TypeId} {x:Operand} {i:TI} (ht:ti P t=some i):@cV _ P T h (.load t x) K=@obI _ ((asL (opd T x)).bind fun l=>(cN h i l).map fun v=>(v,h)) K:=
 gI (by
  simp only[vop,ht];rcases opd T x with _|⟨l|_|_⟩<;>first|rfl|skip
  simp only[asL,ku8];cases cN h i l<;>rfl) rfl (by simp[cH])
theorem dR {t:TypeId} {p x:Operand} {i:TI} (ht:ti P t=some i):@cV _ P T h (.store t p x) K=@obI _ ((asL (opd T p)).bind fun l=>(opd T x).bind fun v=>if jR v=true then (sO h i l v).map fun h2=>(.one .any,h2)else none) K:=
 gI (by
  simp only[vop,ht];rcases opd T p with _|⟨l|_|_⟩<;>first|rfl|skip
  cases opd T x with
  |none=>rfl
  |some v=>simp only[asL,ku8];split<;>first|rfl|(cases sO h i l v<;>rfl)) rfl (by simp[cH])
theorem jB1 {x:Operand}:@cV _ P T h (.nilCheck x) K=@obI _ ((asL (opd T x)).bind fun l=>(jE h l).bind fun b=>cond b none (some (.one l,h))) K:=
 gI (by
  simp only[vop];rcases opd T x with _|⟨l|_|_⟩<;>first|rfl|skip
  simp only[asL,ku8];rcases jE h l with _|b<;>first|rfl|(cases b<;>rfl)) rfl (by simp[cH])
theorem jB2 {t:TypeId} {x:Operand}:@cV _ P T h (.unOp .not t x) K=@obI _ ((asB (opd T x)).map fun b=>(.one (.d (.bool (!b))),h)) K:=
 gI (by
  simp only[vop];rcases opd T x with _|⟨l|_|_⟩<;>first|rfl|skip
  rcases l with⟨_|_|_|_|_⟩|_|_|_|_|_|_|_|_<;>rfl) rfl (by simp[cH])
theorem jB3 {t:TypeId} {x:Operand}:@cV _ P T h (.unOp .neg t x) K=@obI _ ((asI (opd T x)).map fun q=>(.one (.d (.int q.1 (q.1.wrap (0-q.2)))),h)) K:=
 gI (by
  simp only[vop];rcases opd T x with _|⟨l|_|_⟩<;>first|rfl|skip
  rcases l with⟨_|_|_|_|_⟩|_|_|_|_|_|_|_|_<;>rfl) rfl (by simp[cH])
theorem jB4 {f:FuncId} {caps:Array Operand}:@cV _ P T h (.makeFunc (.func f) #[] caps) K=@obI _ ((eO T caps.toList).bind fun vs=>(mV vs).map fun ls=>(.one (.fn f ls),h)) K:=
 gI (by
  simp only[vop];rw[if_pos (show(#[]:Array Operand).size=0 from rfl)];cases eO T caps.toList with
  |none=>rfl
  |some vs=>simp only[ku8];cases mV vs<;>rfl) rfl (by simp[cH])
theorem zs1 {t:TypeId} {x:Operand} {lo hi:Option Operand} {i:TI} (ht:ti P t=some i):@cV _ P T h (.slice t x lo hi none) K=@obI _ ((opd T x).bind fun v=>(kT T lo).bind fun l=>(kT T hi).bind fun k=>(dL h i.kd i.el v l k).map fun v=>(v,h)) K:=
 gI (by
  simp only[vop,ht];cases opd T x with
  |none=>rfl
  |some v=>cases kT T lo with
   |none=>rfl
   |some l=>cases kT T hi with
    |none=>rfl
    |some k=>simp only[ku8];cases dL h i.kd i.el v l k<;>rfl) rfl (by simp[cH])
theorem iZ {t:TypeId} {x:Operand} {f:Nat} {i:TI} (ht:ti P t=some i) (hk:i.kd = .struct):@cV _ P T h (.fieldAddr t x f) K=@obI _ ((asL (opd T x)).bind fun l=>(i.flds[f]?).bind fun F=>if F.2.1=0 then none else (mT h F.1 l).map fun q=>(.one q,h)) K:=
 gI (by
  simp only[vop,ht];rcases opd T x with _|⟨l|_|_⟩<;>first|rfl|skip
  simp only[hk,asL,ku8];rcases i.flds[f]? with _|F<;>first|rfl|skip
  simp only[ku8];split<;>first|rfl|(cases mT h F.1 l<;>rfl)) rfl (by simp[cH])
theorem jB5 {t:TypeId} {x:Operand} {f:Nat} {i:TI} (ht:ti P t=some i):@cV _ P T h (.field t x f) K=@obI _ ((opd T x).bind fun v=>(sQ i f v).map fun v=>(v,h)) K:=
 gI (by
  simp only[vop,ht];cases opd T x with
  |none=>rfl
  |some v=>simp only[ku8];cases sQ i f v<;>rfl) rfl (by simp[cH])
theorem iL {t:TypeId} {x ix:Operand} {i:TI} {e:EI} (ht:ti P t=some i) (he:i.el=some e):@cV _ P T h (.indexAddr t x ix) K=@obI _ ((asL (opd T x)).bind fun l=>(asI (opd T ix)).bind fun q=>(kR h e.size q.2 l).map fun q=>(.one q,h)) K:=
 gI (by
  simp only[vop,ht];rcases opd T x with _|⟨l|_|_⟩<;>first|rfl|skip
  rcases opd T ix with _|⟨m|_|_⟩<;>first|rfl|skip
  rcases m with⟨_|⟨k,n⟩|_|_|_⟩|_|_|_|_|_|_|_|_<;>first|rfl|skip
  simp only[he,asL,asI,ku8];cases kR h e.size n l<;>rfl) rfl (by simp[cH])
theorem jB6 {x:Operand} {k:Nat}:@cV _ P T h (.extract x k) K=@obI _ ((opd T x).bind fun v=>match v with|.tup vs=>(vs[k]?).map fun v=>(v,h)|_=>none) K:=
 gI (by
  simp only[vop];rcases opd T x with _|⟨_|_|vs⟩<;>first|rfl|skip
  simp only[ku8];cases vs[k]?<;>rfl) rfl (by simp[cH])
theorem zs2 {s t:TypeId} {x:Operand} {i j:TI} {k:IntKind} (hs:ti P s=some i) (ht:ti P t=some j) (hk:j.kd = .int k):@cV _ P T h (.convert s t x) K=@obI _ ((asI (opd T x)).map fun q=>(.one (.d (.int k (k.wrap q.2))),h)) K:=
 gI (by
  simp only[vop,hs,ht];rcases opd T x with _|⟨m|_|_⟩<;>first|rfl|skip
  rcases m with⟨_|⟨k,n⟩|_|_|_⟩|_|_|_|_|_|_|_|_<;>first|rfl|(simp[hk];rfl)|simp[hk,asI]) rfl (by simp[cH])
theorem jU {x:Operand} {t:TypeId} {i:TI} (ht:ti P t=some i):@cV _ P T h (.call (Call.mk (.builtin .len) #[x] #[t])) K=@obI _ ((opd T x).bind fun v=>(iO h i.kd v).map fun n=>(.one (.d (.int .i64 n)),h)) K:=
 gI (by
  simp only[vop,ht];cases opd T x with
  |none=>rfl
  |some v=>simp only[ku8];cases iO h i.kd v<;>rfl) rfl (by simp[cH])
theorem jB7 {x y:Operand} {ts:Array TypeId}:@cV _ P T h (.call (Call.mk (.builtin .max) #[x,y] ts)) K=@obI _ ((asI (opd T x)).bind fun p=>(asI (opd T y)).map fun q=>(.one (.d (.int p.1 (if q.2>p.2 then q.2 else p.2))),h)) K:=
 gI (by
  simp only[vop];rcases opd T x with _|⟨m|_|_⟩<;>first|rfl|skip
  rcases m with⟨_|⟨k,n⟩|_|_|_⟩|_|_|_|_|_|_|_|_<;>first|rfl|skip
  rcases opd T y with _|⟨m|_|_⟩<;>first|rfl|skip
  rcases m with⟨_|⟨k,n⟩|_|_|_⟩|_|_|_|_|_|_|_|_<;>rfl) rfl (by simp[cH])
theorem jB8 {x y:Operand} {ts:Array TypeId}:@cV _ P T h (.call (Call.mk (.builtin .min) #[x,y] ts)) K=@obI _ ((asI (opd T x)).bind fun p=>(asI (opd T y)).map fun q=>(.one (.d (.int p.1 (if q.2<p.2 then q.2 else p.2))),h)) K:=
 gI (by
  simp only[vop];rcases opd T x with _|⟨m|_|_⟩<;>first|rfl|skip
  rcases m with⟨_|⟨k,n⟩|_|_|_⟩|_|_|_|_|_|_|_|_<;>first|rfl|skip
  rcases opd T y with _|⟨m|_|_⟩<;>first|rfl|skip
  rcases m with⟨_|⟨k,n⟩|_|_|_⟩|_|_|_|_|_|_|_|_<;>rfl) rfl (by simp[cH])
theorem lQ {t:TypeId} {n:Nat} {ps:Array (Nat×Operand)} {i:TI} {e:EI} (ht:ti P t=some i) (he:i.el=some e):@cV _ P T h (.buildSlice t n ps) K=@obI _ ((lI T ps.toList).bind fun vs=>if vs.length=n∧n*e.size≤16777216∧e.zero.isSome=true∧(vs.all fun p=>jR p.2)=true then vbr h n e.size vs (vrw h e.size vs)else none) K:=
 yF (by rfl) (by
  simp only[dW,ht];cases lI T ps.toList with
  |none=>rfl
  |some vs=>simp only[he,ku8];split<;>first|rfl|(cases vrw h e.size vs<;>rfl)) (by simp[cH])
theorem mH {s x:Operand} {t:TypeId} {i:TI} {e:EI} (ht:ti P t=some i) (he:i.el=some e):@cV _ P T h (.call (Call.mk (.builtin .append) #[s,x] #[t,t])) K=@obI _ ((asL (opd T s)).bind fun ls=>(asL (opd T x)).bind fun lx=>(xJ h e ls lx).map fun r=>(.one r.1,r.2)) K:=
 yF (by rfl) (by
  simp only[dW,if_true,ht];rcases opd T s with _|⟨ls|_|_⟩<;>first|rfl|skip
  rcases opd T x with _|⟨lx|_|_⟩<;>first|rfl|skip
  simp only[he,asL,ku8];cases xJ h e ls lx<;>rfl) (by simp[cH])
def zX3 (h:aB) (e:EI) (d:L) (ys:List (List D)):Option (V×aB):=match d with
 |.own id ver len=>match h[id]? with
  |some (.arr false sz ver' xs)=>if ver'=ver∧sz=e.size∧mC e.size ys=true∧e.size≠0 then
    some (.one (.d (.int .i64 ((min ys.length len:Nat):Int))),h.set id (.arr false sz ver (ys.take (min ys.length len)++xs.drop (min ys.length len))))else none
  |_=>none
 |_=>none
def zf0 (P:Program):Operand→Bool
 |.func f=>mX P f
 |_=>false
theorem jB9 {t:Tmp}:zf0 P (.tmp t)=false:=rfl
theorem jC0 {f:FuncId}:zf0 P (.func f)=mX P f:=rfl
theorem jC1 {f:Operand} {args:Array Operand} {ts:Array TypeId} (hn:zf0 P f=false):@cV _ P T h (.call (Call.mk (.value f) args ts)) K=@obI _ (vN (opd T f)) ⟨fun q=>@obI _ (eO T args.toList) ⟨fun vs=>@kY (q.2.1.all (dX h)&&q.2.2.all (dX h)) ⟨fun _=>@kE _ P q.1 (q.2.1.map .one++(vs++q.2.2.map .one)) h K⟩ ⟨fun _=>False⟩⟩⟩:=by
 have hm:dW P T h (mkO (.call (Call.mk (.value f) args ts)))=none:=by
  cases f<;>first|rfl|(simp only[dW];simp only[zf0]at hn;rw[hn];rfl)
 unfold cV lO eW;simp only[vop,hm,cH];rcases opd T f with _|⟨l|_|_⟩<;>first|rfl|skip
 cases l<;>first|rfl|skip
 all_goals rename_i f' caps
 ·simp only[vN,tD];rcases eO T args.toList with _|vs<;>first|rfl|skip
  simp only[tD,kK5,Bool.true_and,kq5,List.nil_append];cases caps.all (dX h)<;>simp[kY,kE]
 ·simp only[vN,tD];rcases eO T args.toList with _|vs<;>first|rfl|skip
  simp only[tD,kK5,Bool.and_true,kq5];cases caps.all (dX h)<;>simp[kY,kE]
def vP:Operand→Bool
 |.const (.slice none 0 0)=>true
 |_=>false
theorem jC2 {t:Tmp}:vP (.tmp t)=false:=rfl
theorem jC3 {k:IntKind} {n:Int}:vP (.const (.int k n))=false:=rfl
theorem jC4 {b:Bool}:vP (.const (.bool b))=false:=rfl
theorem jC5 {b:ByteArray}:vP (.const (.string b))=false:=rfl
theorem jC6 {p:Option Addr}:vP (.const (.pointer p))=false:=rfl
theorem vQ {op:BinOp} {t yt:TypeId} {x y:Operand} {i:TI} (ht:ti P t=some i) (hy:vP y=false):@cV _ P T h (.binOp op t x y yt) K=@obI _ ((opd T x).bind fun u=>(opd T y).bind fun v=>gZ P h t i.kd op u v) ⟨fun d=>@vDI h d K⟩:=by
 have ho:∀K,¬cH P T h (mkO (.binOp op t x y yt)) K:=by
  intro K;unfold cH;split
  ·rename_i e;cases e
  ·rename_i e;cases e;cases hy
  ·exact id
 have ho':=fun K=>eq_false (ho K);unfold cV lO eW;simp only[vop,dW,ht];cases opd T x with
 |none=>exact ho' _
 |some u=>cases opd T y with
  |none=>exact ho' _
  |some v=>
   simp only[ku8];cases gZ P h t i.kd op u v with
   |none=>exact ho' _
   |some d=>simp only[tD];exact jv3.symm
theorem zs3 {t yt:TypeId} {x:Operand} {i:TI} (ht:ti P t=some i) (hk:i.kd = .slice):@cV _ P T h (.binOp .eql t x (.const (.slice none 0 0)) yt) K=@obI _ (asL (opd T x)) ⟨fun l=>@yC h l ⟨fun b=>K.run (.one (.d (.bool b)),h)⟩⟩:=by
 obtain⟨sz,by',ag,z,kd,fl,el⟩:=i;simp only at hk;subst hk;unfold cV lO eW;have hb:∀u,gZ P h t .slice .eql u (.one .nils)=none:=by
  intro u;rcases u with⟨⟨_|_|_|_|_⟩|_|_|_|_|_|_|_|_⟩|_|_<;>rfl
 simp only[vop,dW,cH,ht,zX2];cases opd T x with
 |none=>rfl
 |some u=>
  simp only[hb];cases u<;>rfl
def zs4 (h:aB) (id:Nat):Option Nat:=match h[id]? with
 |some (.ar _ _ _ v _)=>some v
 |_=>none
theorem jC7 {X:Kn Bool}:@yC h .nils X=X.run true:=rfl
theorem jC8 {xs:List (List D)} {X:Kn Bool}:@yC h (.d (.sl xs)) X=((xs=[]→X.run true)∧X.run false):=by
 apply propext;constructor
 ·intro hv;exact⟨fun e=>hv true fun _=>e,hv false fun e=>by cases e⟩
 ·intro hv b hb;cases b with
  |true=>exact hv.1 (hb rfl)
  |false=>exact hv.2
theorem jC9 {id ver len:Nat} {X:Kn Bool}:@yC h (.own id ver len) X=@obI _ (zs4 h id) ⟨fun v=>v=ver∧(len=0→X.run true)∧X.run false⟩:=by
 unfold yC kV zs4;simp only;cases hg:h[id]? with
 |none=>rfl
 |some o=>cases o with
  |bx ty _=>rfl
  |dead=>rfl
  |ar ty fz sz v xs=>
 simp only[tD];apply propext;constructor
 ·rintro⟨e,hv⟩;exact⟨e,fun e=>hv true fun _=>e,hv false fun e=>by cases e⟩
 ·rintro⟨e,hv⟩;refine⟨e,fun b hb=>?_⟩;cases b with
  |true=>exact hv.1 (hb rfl)
  |false=>exact hv.2
theorem jD0 {f:FuncId} {avs:List V} (avs1:List V) (h1:aB) (ids:List Nat) {avs':List V} {hs:aB} {Post:V→aB→Prop} (k1:WkV.all avs avs1) (k2:WkH h h1) (hc:VC P f avs' hs Post) (hn:bO ids=true) (hl:cE h1 ids avs1=some avs') (hh:bA h1 (idx ids) ids=some hs)
  (hk:∀r hs',Post r hs'→∃r' h',mE h1 ids (dM ids avs1) r hs'=some (r',h')∧K.run (r',h')):@kE _ P f avs h K:=⟨[],h,avs1,h1,rfl,k1,k2,ids,avs',hs,Post,hn,hl,hh,hc,hk⟩
theorem nZ {f:FuncId} {avs:List V} (bs:List (Nat×Nat×Nat)) {hb:aB} (avs1:List V) (h1:aB) (ids:List Nat) {avs':List V} {hs:aB} {Post:V→aB→Prop} (k0:eP h bs=some hb) (k1:WkV.all avs avs1) (k2:WkH hb h1) (hc:VC P f avs' hs Post) (hn:bO ids=true) (hl:cE h1 ids avs1=some avs') (hh:bA h1 (idx ids) ids=some hs)
  (hk:∀r hs',Post r hs'→∃r' h',mE h1 ids (dM ids avs1) r hs'=some (r',h')∧K.run (r',h')):@kE _ P f avs h K:=⟨bs,hb,avs1,h1,k0,k1,k2,ids,avs',hs,Post,hn,hl,hh,hc,hk⟩
theorem bJ {f:FuncId} {avs:List V} (ids:List Nat) {avs':List V} {hs:aB} {Post:V→aB→Prop} (hc:VC P f avs' hs Post) (hn:bO ids=true) (hl:cE h ids avs=some avs') (hh:bA h (idx ids) ids=some hs)
  (hk:∀r hs',Post r hs'→∃r' h',mE h ids (dM ids avs) r hs'=some (r',h')∧K.run (r',h')):@kE _ P f avs h K:=jD0 avs h ids (ko6 _) (ko1 _) hc hn hl hh hk
theorem bE {c:aC} {α:Type} (Ti:α→Sl) (Hi:α→aB) (Inv:α→Prop) (m:α→Nat) (x0:α) (h1:fG n T h (Ti x0) (Hi x0)) (h3:Inv x0)
  (hr:∀x,Inv x→@iY _ P n c (Ti x) (Hi x) ⟨fun p=>@yD p.1 p.2.1 p.2.2 ⟨fun q=>∃y,Inv y∧m y<m x∧fG n q.1 q.2 (Ti y) (Hi y)⟩ KX⟩):@iY _ P n (.loop c) T h KX:=by
 refine⟨fun k T h=>∃x,Inv x∧k=m x∧T=Ti x∧h=Hi x,⟨m x0,Ti x0,Hi x0,h1,x0,h3,rfl,rfl,rfl⟩,?_⟩;rintro k T h ⟨x,hx,rfl,rfl,rfl⟩;have:=hr x hx;have mono:∀{c:aC} {Q Q':VX→Sl→aB→Prop} {T:Sl} {h:aB},(∀e T h,Q e T h→Q' e T h)→vwp P n c Q T h→vwp P n c Q' T h:=fun hq hv=>nD hq hv;refine mono ?_ this;intro e T' h' hv;cases e with
 |normal=>
  obtain⟨y,a1,a2,a3⟩:=hv;exact⟨m y,Ti y,Hi y,a2,a3,y,a1,rfl,rfl,rfl⟩
 |exit id=>exact hv
 |ret=>exact hv
theorem gJ {T0:Sl} {h0:aB} (ids:List Nat) (h1:aB) (k1:WkH h h1) (k2:bO ids=true) (k3:ids.take n=kt4 n) (k4:bA h1 (idx ids) ids=some h0) (k5:Sub h1 ids T0 T):fG n T h T0 h0:=⟨[],[],T,h,h,h1,ids,rfl,rfl,k1,k2,k3,k4,k5⟩
theorem oA {T0 T1:Sl} {h0 hp hh:aB} (gs:List (Nat×Nat)) (bs:List (Nat×Nat×Nat)) (ids:List Nat) (h1:aB) (k0:tC T h gs=some (T1,hp)) (k0':eP hp bs=some hh) (k1:WkH hh h1) (k2:bO ids=true) (k3:ids.take n=kt4 n) (k4:bA h1 (idx ids) ids=some h0) (k5:Sub h1 ids T0 T1):fG n T h T0 h0:=⟨gs,bs,T1,hp,hh,h1,ids,k0,k0',k1,k2,k3,k4,k5⟩
end
end Go.Vt
