import Derived.Test.YtdabfkmhkoppcaaGreatDoorVtSeat
set_option linter.all false
open List renaming all_nil→kx9,lookup→ki4,map_nil→ke8,range→kh4
open Option renaming bind_some→ki9
namespace Go.Vt
theorem mB {P:Program}:∀{c:aC} {n:Nat} {Q Q':VX→Sl→aB→Prop} {T:Sl} {h:aB},(∀e T h,Q e T h→Q' e T h)→vwp P n c Q T h→vwp P n c Q' T h
 |.skip,_,_,_,_,_,hq,hv=>hq _ _ _ hv
 |.ops _,_,_,_,_,_,hq,hv=>wL (fun _ _=>hq _ _ _) hv
 |.opsW _ _,_,_,_,_,_,hq,hv=>tU (fun _ _=>hq _ _ _) hv
 |.both a b,_,_,_,_,_,hq,hv=>⟨mB (c:=a) hq hv.1,mB (c:=b) hq hv.2⟩
 |.opsB t _,_,_,_,_,_,hq,hv=>qE (t:=t) (fun _ _=>hq _ _ _) hv
 |.opsK t _,_,_,_,_,_,hq,hv=>qE (t:=t) (fun _ _ ⟨T0,h0,k,hv⟩=>⟨T0,h0,k,hq _ _ _ hv⟩) hv
 |.seq a b,_,Q,Q',_,_,hq,hv=>mB (c:=a) (fun e T h hv=>by
   cases e with
   |normal=>exact mB (c:=b) hq hv
   |exit id=>exact hq _ _ _ hv
   |ret=>exact hq _ _ _ hv) hv
 |.cond c x y,n,Q,Q',T,h,hq,hv=>by
  have hv:iB (opd T c) (vwp P n x Q T h) (vwp P n y Q T h):=hv;show iB (opd T c) (vwp P n x Q' T h) (vwp P n y Q' T h);unfold iB at hv ⊢;split at hv
  ·exact⟨fun e=>mB hq (hv.1 e),fun e=>mB hq (hv.2 e)⟩
  ·exact hv
 |.block id c,_,Q,Q',_,_,hq,hv=>mB (c:=c) (fun e T h hv=>by
   cases e with
   |normal=>exact hq _ _ _ hv
   |exit id'=>
    have hv:if id'=id then Q .normal T h else Q (.exit id') T h:=hv
    show if id'=id then Q' .normal T h else Q' (.exit id') T h
    split at hv
    ·rename_i e;rw[if_pos e];exact hq _ _ _ hv
    ·rename_i e;rw[if_neg e];exact hq _ _ _ hv
   |ret=>exact hq _ _ _ hv) hv
 |.loop c,_,Q,Q',_,_,hq,hv=>by
  obtain⟨I,h0,hr⟩:=hv;refine⟨I,h0,fun k T h hi=>mB (c:=c) (fun e T h hv=>?_) (hr k T h hi)⟩;cases e with
  |normal=>exact hv
  |exit id=>exact hq _ _ _ hv
  |ret=>exact hq _ _ _ hv
 |.exit _,_,_,_,_,_,hq,hv=>hq _ _ _ hv
 |.ret,_,_,_,_,_,hq,hv=>hq _ _ _ hv
 |.bad,_,_,_,_,_,_,hv=>hv
 |.rangeF g ps x y,_,Q,Q',T,_,hq,hv=>by
  obtain⟨f,caps,N,it,h1,h2,h3,h4,hv⟩:=hv;refine⟨f,caps,N,it,h1,h2,h3,h4,jl3 (fun vs h K K' hk hv=>⟨hv.1,mB (c:=x) (fun e T h hv=>?_) hv.2⟩) (fun e T ys h pd hv=>?_) hv⟩
  ·cases e with
   |exit id=>exact hv
   |normal=>cases pd<;>exact hq _ _ _ hv
   |ret=>cases pd<;>exact hq _ _ _ hv
  ·cases e with
   |normal=>
    refine mB (c:=y) (fun e T h hv=>?_) hv;cases e with
    |normal=>exact hk _ _ hv
    |exit id=>exact hk _ _ hv
    |ret=>exact hk _ _ hv
   |exit id=>exact hv
   |ret=>exact hv
class Kn (α:Type) where
 run:α→Prop
theorem jm6 {α:Type} {f:α→Prop} {a:α}:@Kn.run α ⟨f⟩ a=f a:=rfl
def obI {α:Type} (x:Option α) [K:Kn α]:Prop:=match x with
 |some a=>K.run a
 |none=>False
def zb0 (c:Bool) [X:Kn Unit] [Y:Kn Unit]:Prop:=(c=true→X.run ())∧(c=false→Y.run ())
def kF (c:Bool) [X:Kn Unit] [Y:Kn Unit]:Prop:=match c with
 |true=>X.run ()
 |false=>Y.run ()
def vDI (h:aB) (d:D) [K:Kn (V×aB)]:Prop:=match d with
 |.bool c=>@zb0 c ⟨fun _=>K.run (.one (.d (.bool true)),h)⟩ ⟨fun _=>K.run (.one (.d (.bool false)),h)⟩
 |d=>K.run (.one (.d d),h)
def asB:Option V→Option Bool
 |some (.one (.d (.bool b)))=>some b
 |_=>none
def asL:Option V→Option L
 |some (.one l)=>some l
 |_=>none
def asI:Option V→Option (IntKind×Int)
 |some (.one (.d (.int k n)))=>some (k,n)
 |_=>none
def tY:Option V→Option (Nat×List L×List L)
 |some (.one (.fn f caps))=>some (f,[],caps)
 |some (.one (.fb f fst))=>some (f,fst,[])
 |_=>none
def dI (P:Program) (T:Sl) (h:aB) (op:Op) [K:Kn (V×aB)]:Prop:=lG P T h op fun v h=>K.run (v,h)
def mC (P:Program) (o:VOp) (T:Sl) (h:aB) [K:Kn (Sl×aB)]:Prop:=gM P o T h fun T h=>K.run (T,h)
def zb1 (P:Program) (l:List VOp) (T:Sl) (h:aB) [K:Kn (Sl×aB)]:Prop:=mY P l T h fun T h=>K.run (T,h)
def tZ (P:Program) (ob:List (Nat×List Nat)) (l:List (Nat×VOp)) (W:List (Nat×VOp×Sl×Sl)) (T:Sl) (h:aB) [K:Kn (Sl×aB)]:Prop:=lV P ob l W T h fun T h=>K.run (T,h)
def pC (P:Program) (ob:List (Nat×List Nat)) (t:VBT) (W:List (Nat×VOp×Sl×Sl)) (T:Sl) (h:aB) [K:Kn (Sl×aB)]:Prop:=iV P ob t W T h fun T h=>K.run (T,h)
def iC (P:Program) (n:Nat) (c:aC) (T:Sl) (h:aB) [K:Kn (VX×Sl×aB)]:Prop:=vwp P n c (fun e T h=>K.run (e,T,h)) T h
def jN (P:Program) (f:FuncId) (avs:List V) (h:aB) [K:Kn (V×aB)]:Prop:=rN P f avs h fun v h=>K.run (v,h)
def wP (c:Option V) [X:Kn Unit] [Y:Kn Unit]:Prop:=iB c (X.run ()) (Y.run ())
def wQ (h:aB) (l:L) [X:Kn Bool]:Prop:=kC h l fun b=>X.run b
def wR (e:VX) (T:Sl) (h:aB) [N:Kn (Sl×aB)] [K:Kn (VX×Sl×aB)]:Prop:=tQ (fun T h=>N.run (T,h)) (fun e T h=>K.run (e,T,h)) e T h
def zb2 (id:Nat) (e:VX) (T:Sl) (h:aB) [K:Kn (VX×Sl×aB)]:Prop:=zP3 id (fun e T h=>K.run (e,T,h)) e T h
section
variable {P:Program} {n:Nat} {T:Sl} {h:aB} {K:Kn (V×aB)} {K2:Kn (Sl×aB)} {KX:Kn (VX×Sl×aB)} {X Y:Kn Unit}
theorem rV {α:Type} {a:α} {K:Kn α}:@obI _ (some a) K=K.run a:=rfl
theorem jm7 {α:Type} {K:Kn α}:@obI α none K=False:=rfl
theorem jm8 {c:Bool}:@zb0 c X Y=((c=true→X.run ())∧(c=false→Y.run ())):=rfl
theorem jm9:@kF true X Y=X.run ():=rfl
theorem jn0:@kF false X Y=Y.run ():=rfl
theorem jn1 {c:Bool}:@vDI h (.bool c) K=@zb0 c ⟨fun _=>K.run (.one (.d (.bool true)),h)⟩ ⟨fun _=>K.run (.one (.d (.bool false)),h)⟩:=rfl
theorem jn2 {k:IntKind} {n:Int}:@vDI h (.int k n) K=K.run (.one (.d (.int k n)),h):=rfl
theorem jn3 {s:ByteArray}:@vDI h (.str s) K=K.run (.one (.d (.str s)),h):=rfl
theorem jn4 {d:D}:@vDI h d K=K.run (.one (.d d),h):=by cases d<;>first|rfl|(rename_i b;cases b<;>simp[vDI,zb0])
theorem aO {c:aC} {Q:VX→Sl→aB→Prop}:vwp P n c Q T h=@iC P n c T h ⟨fun p=>Q p.1 p.2.1 p.2.2⟩:=rfl
theorem jn5:@iC P n .skip T h KX=KX.run (.normal,T,h):=rfl
theorem jn6 {l:List VOp}:@iC P n (.ops l) T h KX=@zb1 P l T h ⟨fun p=>KX.run (.normal,p.1,p.2)⟩:=rfl
theorem jn7 {l:List (Nat×VOp)} {ob:List (Nat×List Nat)}:@iC P n (.opsW l ob) T h KX=@tZ P ob l [] T h ⟨fun p=>KX.run (.normal,p.1,p.2)⟩:=rfl
theorem jn8 {a b:aC}:@iC P n (.both a b) T h KX=(@iC P n a T h KX∧@iC P n b T h KX):=rfl
theorem jn9 {t:VBT} {ob:List (Nat×List Nat)}:@iC P n (.opsB t ob) T h KX=@pC P ob t [] T h ⟨fun p=>KX.run (.normal,p.1,p.2)⟩:=rfl
theorem jo0 {a b:aC}:@iC P n (.seq a b) T h KX=@iC P n a T h ⟨fun p=>@wR p.1 p.2.1 p.2.2 ⟨fun q=>@iC P n b q.1 q.2 KX⟩ KX⟩:=rfl
theorem jo1 {c:Operand} {x y:aC}:@iC P n (.cond c x y) T h KX=@wP (opd T c) ⟨fun _=>@iC P n x T h KX⟩ ⟨fun _=>@iC P n y T h KX⟩:=rfl
theorem jo2 {id:Nat} {c:aC}:@iC P n (.block id c) T h KX=@iC P n c T h ⟨fun p=>@zb2 id p.1 p.2.1 p.2.2 KX⟩:=rfl
theorem jo3 {id:Nat}:@iC P n (.exit id) T h KX=KX.run (.exit id,T,h):=rfl
theorem jo4:@iC P n .ret T h KX=KX.run (.ret,T,h):=rfl
theorem jo5:@wR .normal T h K2 KX=K2.run (T,h):=rfl
theorem jo6 {id:Nat}:@wR (.exit id) T h K2 KX=KX.run (.exit id,T,h):=rfl
theorem jo7:@wR .ret T h K2 KX=KX.run (.ret,T,h):=rfl
theorem jo8 {id:Nat}:@zb2 id .normal T h KX=KX.run (.normal,T,h):=rfl
theorem jo9 {id:Nat}:@zb2 id .ret T h KX=KX.run (.ret,T,h):=rfl
theorem jp0 {id id':Nat}:@zb2 id (.exit id') T h KX=@kF (id' == id) ⟨fun _=>KX.run (.normal,T,h)⟩ ⟨fun _=>KX.run (.exit id',T,h)⟩:=by
 show(if id'=id then _ else _)=_;by_cases e:id'=id
 ·simp[e,kF]
 ·have:(id' == id)=false:=by simpa using e
  rw[this,if_neg e];rfl
theorem jp1:@zb1 P [] T h K2=K2.run (T,h):=rfl
theorem jp2 {o:VOp} {R:List VOp}:@zb1 P (o::R) T h K2=@mC P o T h ⟨fun p=>@zb1 P R p.1 p.2 K2⟩:=rfl
theorem jp3 {d:Option Tmp} {op:Op}:@mC P (VOp.mk d op none) T h K2=@dI P T h op ⟨fun r=>K2.run (bP T d r.1,r.2)⟩:=rfl
theorem jp4 {d:Option Tmp} {op:Op} {g:Tmp} {w:Bool}:@mC P (VOp.mk d op (some (some g,w))) T h K2=@obI _ (qB (T.lookup g)) ⟨fun b=>@kF (b == some w) ⟨fun _=>@dI P T h op ⟨fun r=>K2.run (bP T d r.1,r.2)⟩⟩ ⟨fun _=>K2.run (bP T d rP,h)⟩⟩:=by
 unfold mC gM obI;simp only;rcases qB (T.lookup g)with _|b<;>first|rfl|skip
 by_cases e:b=some w
 ·subst e;simp[kF,dI]
 ·have:(b == some w)=false:=by simpa using e
  simp[this,e,kF]
theorem jp5 {b:Bool}:qB (some (.one (.d (.bool b))))=some (some b):=rfl
theorem jp6:qB (some (.tup []))=some none:=rfl
theorem jp7:((some true:Option Bool) == some true)=true:=rfl
theorem jp8:((some false:Option Bool) == some false)=true:=rfl
theorem jp9:((some true:Option Bool) == some false)=false:=rfl
theorem jq0:((some false:Option Bool) == some true)=false:=rfl
theorem jq1:((none:Option Bool) == some true)=false:=rfl
theorem jq2:((none:Option Bool) == some false)=false:=rfl
theorem jq3:@wP (some (.one (.d (.bool true)))) X Y=X.run ():=by simp[wP,iB]
theorem jq4:@wP (some (.one (.d (.bool false)))) X Y=Y.run ():=by simp[wP,iB]
theorem jq5 {d:Tmp} {v:V}:bP T (some d) v=(d,v)::T:=rfl
theorem jq6 {v:V}:bP T none v=T:=rfl
theorem jq7 {t:Tmp}:opd T (.tmp t)=T.lookup t:=rfl
theorem jq8 {k:IntKind} {n:Int}:opd T (.const (.int k n))=some (.one (.d (.int k n))):=rfl
theorem jq9 {b:Bool}:opd T (.const (.bool b))=some (.one (.d (.bool b))):=rfl
theorem jr0 {s:ByteArray}:opd T (.const (.string s))=some (.one (.d (.str s))):=rfl
theorem zQ7:opd T (.const (.slice none 0 0))=some (.one .nils):=rfl
theorem jr1:opd T (.const (.pointer none))=some (.one (.d .nilp)):=rfl
theorem jr2:opd T (.const .nilFunc)=some (.one .nilf):=rfl
theorem jr3 {f:FuncId}:opd T (.func f)=some (.one (.fn f [])):=rfl
theorem eH {α:Type} {i k:Nat} {v:α} {r:List (Nat×α)}:ki4 i ((k,v)::r)=cond (i == k) (some v) (ki4 i r):=by
 rw[List.lookup_cons];cases i == k<;>rfl
theorem jr4:(true == true)=true:=rfl
theorem jr5:(false == false)=true:=rfl
theorem jr6:(true == false)=false:=rfl
theorem jr7:(false == true)=false:=rfl
def wS (ob:List (Nat×List Nat)) (i:Nat) (o:VOp) (T T':Sl) (W:List (Nat×VOp×Sl×Sl)):List (Nat×VOp×Sl×Sl):=cond (ob.any fun x=>x.2.contains i) ((i,o,T,T')::W) W
theorem jr8 {ob:List (Nat×List Nat)} {W:List (Nat×VOp×Sl×Sl)}:@pC P ob .leaf W T h K2=K2.run (T,h):=rfl
theorem jr9 {ob:List (Nat×List Nat)} {W:List (Nat×VOp×Sl×Sl)}:@pC P ob .no W T h K2=True:=rfl
theorem js0 {ob:List (Nat×List Nat)} {i:Nat} {o:VOp} {t:VBT} {W:List (Nat×VOp×Sl×Sl)}:@pC P ob (.ro i o t) W T h K2=@mC P o T h ⟨fun p=>@pC P ob t (wS ob i o T p.1 W) p.1 p.2 K2⟩:=by
 unfold pC;rw[iV];simp only[mC,wS];cases (ob.any fun x=>x.2.contains i)<;>rfl
theorem js1 {ob:List (Nat×List Nat)} {j:Nat} {o:VOp} {t r:VBT} {W:List (Nat×VOp×Sl×Sl)}:@pC P ob (.alt j o t r) W T h K2=(@mC P o T h ⟨fun p=>lU P (gA ob j) p.2 W∧@pC P ob t W p.1 p.2 K2⟩∧@pC P ob r W T h K2):=rfl
theorem js2 {ob:List (Nat×List Nat)} {W:List (Nat×VOp×Sl×Sl)}:@tZ P ob [] W T h K2=K2.run (T,h):=rfl
theorem js3 {ob:List (Nat×List Nat)} {i:Nat} {o:VOp} {R:List (Nat×VOp)} {W:List (Nat×VOp×Sl×Sl)}:@tZ P ob ((i,o)::R) W T h K2 =
  @kF (ro o.op) ⟨fun _=>@mC P o T h ⟨fun p=>@tZ P ob R (wS ob i o T p.1 W) p.1 p.2 K2⟩⟩ ⟨fun _=>@mC P o T h ⟨fun p=>lU P (gA ob i) p.2 W∧@tZ P ob R W p.1 p.2 K2⟩⟩:=by
 unfold tZ;rw[lV];cases ro o.op
 ·rfl
 ·simp only[if_true,kF,mC,wS];cases (ob.any fun x=>x.2.contains i)<;>rfl
theorem js4 {is:List Nat}:lU P is h []=True:=rfl
theorem js5 {is:List Nat} {i:Nat} {o:VOp} {T T':Sl} {W:List (Nat×VOp×Sl×Sl)}:lU P is h ((i,o,T,T')::W)=(@kF (is.contains i) ⟨fun _=>@mC P o T h ⟨fun p=>p.1=T'⟩⟩ ⟨fun _=>True⟩∧lU P is h W):=by
 show((i∈is→_)∧_)=_;cases hc:is.contains i
 ·have:i∉is:=by simpa using hc
  simp[this,kF]
 ·have:i∈is:=by simpa using hc
  simp[this,kF,mC]
theorem js6 {i:Nat}:gA [] i=[]:=rfl
theorem js7 {i k:Nat} {l:List Nat} {r:List (Nat×List Nat)}:gA ((k,l)::r) i=cond (i == k) l (gA r i):=by
 unfold gA;rw[eH];cases i == k<;>rfl
abbrev mkO (op:Op):Oper:={ dst:=none,op,type:=0,pos:="",after:=#[],guard:=none }
theorem gC {op:Op} {e:Option (V×aB)} (hv:vop P T h (mkO op)=e) (hm:eI P T h (mkO op)=none) (ho:∀K,¬cP P T h (mkO op) K):@dI P T h op K=@obI _ e K:=by
 unfold dI lG eZ;rw[hv,hm];cases e with
 |some r=>rfl
 |none=>exact eq_false (ho _)
theorem zQ8 {op:Op} {e:Option (V×aB)} (hv:vop P T h (mkO op)=none) (hm:eI P T h (mkO op)=e) (ho:∀K,¬cP P T h (mkO op) K):@dI P T h op K=@obI _ e K:=by
 unfold dI lG eZ;rw[hv,hm];cases e with
 |some r=>rfl
 |none=>exact eq_false (ho _)
theorem js8 {x:Operand}:@dI P T h (.move x) K=@obI _ ((opd T x).map fun v=>(v,h)) K:=
 gC (by
  simp only[vop];cases opd T x<;>rfl) rfl (by simp[cP])
theorem js9 {x:Operand}:@dI P T h (.assign x) K=@obI _ ((opd T x).map fun v=>(v,h)) K:=
 gC (by
  simp only[vop];cases opd T x<;>rfl) rfl (by simp[cP])
theorem jt0 {c x y:Operand}:@dI P T h (.pick c x y) K=@obI _ ((opd T c).bind fun b=>(oW b (opd T x) (opd T y)).map fun v=>(v,h)) K:=
 gC (by
  simp only[vop];cases opd T c with
  |none=>rfl
  |some b=>simp only[ki9];cases oW b (opd T x) (opd T y)<;>rfl) rfl (by simp[cP])
theorem mD {e:TypeId} {i:TI} (ht:ti P e=some i):@dI P T h (.alloc e) K=@obI _ (i.zero.bind fun z=>(gJ z).map fun ls=>(.one (.ptr h.length 0),h++[kN P e ls])) K:=
 gC (by
  simp only[vop,ht];cases i.zero with
  |none=>rfl
  |some z=>simp only[ki9];cases gJ z<;>rfl) rfl (by simp[cP])
theorem jt1 {e:TypeId} {x:Operand}:@dI P T h (.box e x) K=@obI _ ((opd T x).bind fun v=>if jD v=true then (gJ v).map fun ls=>(.one (.ptr h.length 0),h++[kN P e ls])else none) K:=
 gC (by
  simp only[vop];cases opd T x with
  |none=>rfl
  |some v=>simp only[ki9];split<;>first|rfl|(cases gJ v<;>rfl)) rfl (by simp[cP])
theorem jG {t:TypeId} {ps:Array (Nat×Operand)} {i:TI} (ht:ti P t=some i):@dI P T h (.build t ps) K=@obI _ ((kP T ps.toList).bind fun vs=>(sZ i vs).map fun v=>(v,h)) K:=
 gC (by
  simp only[vop,ht];cases kP T ps.toList with
  |none=>rfl
  |some vs=>simp only[ki9];cases sZ i vs<;>rfl) rfl (by simp[cP])
theorem cZ {t:TypeId} {x:Operand} {i:TI} (ht:ti P t=some i):@dI P T h (.load t x) K=@obI _ ((asL (opd T x)).bind fun l=>(cI h i l).map fun v=>(v,h)) K:=
 gC (by
  simp only[vop,ht];rcases opd T x with _|⟨l|_|_⟩<;>first|rfl|skip
  simp only[asL,ki9];cases cI h i l<;>rfl) rfl (by simp[cP])
theorem eJ {t:TypeId} {p x:Operand} {i:TI} (ht:ti P t=some i):@dI P T h (.store t p x) K=@obI _ ((asL (opd T p)).bind fun l=>(opd T x).bind fun v=>if jD v=true then (rI h i l v).map fun h2=>(.one .any,h2)else none) K:=
 gC (by
  simp only[vop,ht];rcases opd T p with _|⟨l|_|_⟩<;>first|rfl|skip
  cases opd T x with
  |none=>rfl
  |some v=>simp only[asL,ki9];split<;>first|rfl|(cases rI h i l v<;>rfl)) rfl (by simp[cP])
theorem jt2 {x:Operand}:@dI P T h (.nilCheck x) K=@obI _ ((asL (opd T x)).bind fun l=>(iI h l).bind fun b=>cond b none (some (.one l,h))) K:=
 gC (by
  simp only[vop];rcases opd T x with _|⟨l|_|_⟩<;>first|rfl|skip
  simp only[asL,ki9];rcases iI h l with _|b<;>first|rfl|(cases b<;>rfl)) rfl (by simp[cP])
theorem jt3 {t:TypeId} {x:Operand}:@dI P T h (.unOp .not t x) K=@obI _ ((asB (opd T x)).map fun b=>(.one (.d (.bool (!b))),h)) K:=
 gC (by
  simp only[vop];rcases opd T x with _|⟨l|_|_⟩<;>first|rfl|skip
  rcases l with⟨_|_|_|_|_⟩|_|_|_|_|_|_|_|_<;>rfl) rfl (by simp[cP])
theorem jt4 {t:TypeId} {x:Operand}:@dI P T h (.unOp .neg t x) K=@obI _ ((asI (opd T x)).map fun q=>(.one (.d (.int q.1 (q.1.wrap (0-q.2)))),h)) K:=
 gC (by
  simp only[vop];rcases opd T x with _|⟨l|_|_⟩<;>first|rfl|skip
  rcases l with⟨_|_|_|_|_⟩|_|_|_|_|_|_|_|_<;>rfl) rfl (by simp[cP])
theorem jt5 {f:FuncId} {caps:Array Operand}:@dI P T h (.makeFunc (.func f) #[] caps) K=@obI _ ((eO T caps.toList).bind fun vs=>(lS vs).map fun ls=>(.one (.fn f ls),h)) K:=
 gC (by
  simp only[vop];rw[if_pos (show(#[]:Array Operand).size=0 from rfl)];cases eO T caps.toList with
  |none=>rfl
  |some vs=>simp only[ki9];cases lS vs<;>rfl) rfl (by simp[cP])
theorem zn6 {t:TypeId} {x:Operand} {lo hi:Option Operand} {i:TI} (ht:ti P t=some i):@dI P T h (.slice t x lo hi none) K=@obI _ ((opd T x).bind fun v=>(jX T lo).bind fun l=>(jX T hi).bind fun k=>(eR h i.kd i.el v l k).map fun v=>(v,h)) K:=
 gC (by
  simp only[vop,ht];cases opd T x with
  |none=>rfl
  |some v=>cases jX T lo with
   |none=>rfl
   |some l=>cases jX T hi with
    |none=>rfl
    |some k=>simp only[ki9];cases eR h i.kd i.el v l k<;>rfl) rfl (by simp[cP])
theorem iW {t:TypeId} {x:Operand} {f:Nat} {i:TI} (ht:ti P t=some i) (hk:i.kd = .struct):@dI P T h (.fieldAddr t x f) K=@obI _ ((asL (opd T x)).bind fun l=>(i.flds[f]?).bind fun F=>if F.2.1=0 then none else (lR h F.1 l).map fun q=>(.one q,h)) K:=
 gC (by
  simp only[vop,ht];rcases opd T x with _|⟨l|_|_⟩<;>first|rfl|skip
  simp only[hk,asL,ki9];rcases i.flds[f]? with _|F<;>first|rfl|skip
  simp only[ki9];split<;>first|rfl|(cases lR h F.1 l<;>rfl)) rfl (by simp[cP])
theorem jt6 {t:TypeId} {x:Operand} {f:Nat} {i:TI} (ht:ti P t=some i):@dI P T h (.field t x f) K=@obI _ ((opd T x).bind fun v=>(rK i f v).map fun v=>(v,h)) K:=
 gC (by
  simp only[vop,ht];cases opd T x with
  |none=>rfl
  |some v=>simp only[ki9];cases rK i f v<;>rfl) rfl (by simp[cP])
theorem gO {t:TypeId} {x ix:Operand} {i:TI} {e:EI} (ht:ti P t=some i) (he:i.el=some e):@dI P T h (.indexAddr t x ix) K=@obI _ ((asL (opd T x)).bind fun l=>(asI (opd T ix)).bind fun q=>(jV h e.size q.2 l).map fun q=>(.one q,h)) K:=
 gC (by
  simp only[vop,ht];rcases opd T x with _|⟨l|_|_⟩<;>first|rfl|skip
  rcases opd T ix with _|⟨m|_|_⟩<;>first|rfl|skip
  rcases m with⟨_|⟨k,n⟩|_|_|_⟩|_|_|_|_|_|_|_|_<;>first|rfl|skip
  simp only[he,asL,asI,ki9];cases jV h e.size n l<;>rfl) rfl (by simp[cP])
theorem jt7 {x:Operand} {k:Nat}:@dI P T h (.extract x k) K=@obI _ ((opd T x).bind fun v=>match v with|.tup vs=>(vs[k]?).map fun v=>(v,h)|_=>none) K:=
 gC (by
  simp only[vop];rcases opd T x with _|⟨_|_|vs⟩<;>first|rfl|skip
  simp only[ki9];cases vs[k]?<;>rfl) rfl (by simp[cP])
theorem zQ9 {s t:TypeId} {x:Operand} {i j:TI} {k:IntKind} (hs:ti P s=some i) (ht:ti P t=some j) (hk:j.kd = .int k):@dI P T h (.convert s t x) K=@obI _ ((asI (opd T x)).map fun q=>(.one (.d (.int k (k.wrap q.2))),h)) K:=
 gC (by
  simp only[vop,hs,ht];rcases opd T x with _|⟨m|_|_⟩<;>first|rfl|skip
  rcases m with⟨_|⟨k,n⟩|_|_|_⟩|_|_|_|_|_|_|_|_<;>first|rfl|(simp[hk];rfl)|simp[hk,asI]) rfl (by simp[cP])
theorem kG {x:Operand} {t:TypeId} {i:TI} (ht:ti P t=some i):@dI P T h (.call (Call.mk (.builtin .len) #[x] #[t])) K=@obI _ ((opd T x).bind fun v=>(gR h i.kd v).map fun n=>(.one (.d (.int .i64 n)),h)) K:=
 gC (by
  simp only[vop,ht];cases opd T x with
  |none=>rfl
  |some v=>simp only[ki9];cases gR h i.kd v<;>rfl) rfl (by simp[cP])
theorem jt8 {x y:Operand} {ts:Array TypeId}:@dI P T h (.call (Call.mk (.builtin .max) #[x,y] ts)) K=@obI _ ((asI (opd T x)).bind fun p=>(asI (opd T y)).map fun q=>(.one (.d (.int p.1 (if q.2>p.2 then q.2 else p.2))),h)) K:=
 gC (by
  simp only[vop];rcases opd T x with _|⟨m|_|_⟩<;>first|rfl|skip
  rcases m with⟨_|⟨k,n⟩|_|_|_⟩|_|_|_|_|_|_|_|_<;>first|rfl|skip
  rcases opd T y with _|⟨m|_|_⟩<;>first|rfl|skip
  rcases m with⟨_|⟨k,n⟩|_|_|_⟩|_|_|_|_|_|_|_|_<;>rfl) rfl (by simp[cP])
theorem jt9 {x y:Operand} {ts:Array TypeId}:@dI P T h (.call (Call.mk (.builtin .min) #[x,y] ts)) K=@obI _ ((asI (opd T x)).bind fun p=>(asI (opd T y)).map fun q=>(.one (.d (.int p.1 (if q.2<p.2 then q.2 else p.2))),h)) K:=
 gC (by
  simp only[vop];rcases opd T x with _|⟨m|_|_⟩<;>first|rfl|skip
  rcases m with⟨_|⟨k,n⟩|_|_|_⟩|_|_|_|_|_|_|_|_<;>first|rfl|skip
  rcases opd T y with _|⟨m|_|_⟩<;>first|rfl|skip
  rcases m with⟨_|⟨k,n⟩|_|_|_⟩|_|_|_|_|_|_|_|_<;>rfl) rfl (by simp[cP])
theorem mE {t:TypeId} {n:Nat} {ps:Array (Nat×Operand)} {i:TI} {e:EI} (ht:ti P t=some i) (he:i.el=some e):@dI P T h (.buildSlice t n ps) K=@obI _ ((kP T ps.toList).bind fun vs=>if vs.length=n∧n*e.size≤16777216∧e.zero.isSome=true∧(vs.all fun p=>jD p.2)=true then vbr h n e.size vs (vrw h e.size vs)else none) K:=
 zQ8 (by rfl) (by
  simp only[eI,ht];cases kP T ps.toList with
  |none=>rfl
  |some vs=>simp only[he,ki9];split<;>first|rfl|(cases vrw h e.size vs<;>rfl)) (by simp[cP])
theorem nA {s x:Operand} {t:TypeId} {i:TI} {e:EI} (ht:ti P t=some i) (he:i.el=some e):@dI P T h (.call (Call.mk (.builtin .append) #[s,x] #[t,t])) K=@obI _ ((asL (opd T s)).bind fun ls=>(asL (opd T x)).bind fun lx=>(vW h e ls lx).map fun r=>(.one r.1,r.2)) K:=
 zQ8 (by rfl) (by
  simp only[eI,if_true,ht];rcases opd T s with _|⟨ls|_|_⟩<;>first|rfl|skip
  rcases opd T x with _|⟨lx|_|_⟩<;>first|rfl|skip
  simp only[he,asL,ki9];cases vW h e ls lx<;>rfl) (by simp[cP])
def zR0 (h:aB) (e:EI) (d:L) (ys:List (List D)):Option (V×aB):=match d with
 |.own id ver len=>match h[id]? with
  |some (.arr false sz ver' xs)=>if ver'=ver∧sz=e.size∧lC e.size ys=true∧e.size≠0 then
    some (.one (.d (.int .i64 ((min ys.length len:Nat):Int))),h.set id (.arr false sz ver (ys.take (min ys.length len)++xs.drop (min ys.length len))))else none
  |_=>none
 |_=>none
def zb3 (P:Program):Operand→Bool
 |.func f=>nV P f
 |_=>false
theorem ju0 {t:Tmp}:zb3 P (.tmp t)=false:=rfl
theorem ju1 {f:FuncId}:zb3 P (.func f)=nV P f:=rfl
theorem ju2 {f:Operand} {args:Array Operand} {ts:Array TypeId} (hn:zb3 P f=false):@dI P T h (.call (Call.mk (.value f) args ts)) K=@obI _ (tY (opd T f)) ⟨fun q=>@obI _ (eO T args.toList) ⟨fun vs=>@kF (q.2.1.all (dX h)&&q.2.2.all (dX h)) ⟨fun _=>@jN P q.1 (q.2.1.map .one++(vs++q.2.2.map .one)) h K⟩ ⟨fun _=>False⟩⟩⟩:=by
 have hm:eI P T h (mkO (.call (Call.mk (.value f) args ts)))=none:=by
  cases f<;>first|rfl|(simp only[eI];simp only[zb3]at hn;rw[hn];rfl)
 unfold dI lG eZ;simp only[vop,hm,cP];rcases opd T f with _|⟨l|_|_⟩<;>first|rfl|skip
 cases l<;>first|rfl|skip
 all_goals rename_i f' caps
 ·simp only[tY,rV];rcases eO T args.toList with _|vs<;>first|rfl|skip
  simp only[rV,kx9,Bool.true_and,ke8,List.nil_append];cases caps.all (dX h)<;>simp[kF,jN]
 ·simp only[tY,rV];rcases eO T args.toList with _|vs<;>first|rfl|skip
  simp only[rV,kx9,Bool.and_true,ke8];cases caps.all (dX h)<;>simp[kF,jN]
def uA:Operand→Bool
 |.const (.slice none 0 0)=>true
 |_=>false
theorem ju3 {t:Tmp}:uA (.tmp t)=false:=rfl
theorem ju4 {k:IntKind} {n:Int}:uA (.const (.int k n))=false:=rfl
theorem ju5 {b:Bool}:uA (.const (.bool b))=false:=rfl
theorem ju6 {b:ByteArray}:uA (.const (.string b))=false:=rfl
theorem ju7 {p:Option Addr}:uA (.const (.pointer p))=false:=rfl
theorem wT {op:BinOp} {t yt:TypeId} {x y:Operand} {i:TI} (ht:ti P t=some i) (hy:uA y=false):@dI P T h (.binOp op t x y yt) K=@obI _ ((opd T x).bind fun u=>(opd T y).bind fun v=>fX P h t i.kd op u v) ⟨fun d=>@vDI h d K⟩:=by
 have ho:∀K,¬cP P T h (mkO (.binOp op t x y yt)) K:=by
  intro K;unfold cP;split
  ·rename_i e;cases e
  ·rename_i e;cases e;cases hy
  ·exact id
 have ho':=fun K=>eq_false (ho K);unfold dI lG eZ;simp only[vop,eI,ht];cases opd T x with
 |none=>exact ho' _
 |some u=>cases opd T y with
  |none=>exact ho' _
  |some v=>
   simp only[ki9];cases fX P h t i.kd op u v with
   |none=>exact ho' _
   |some d=>simp only[rV];exact jn4.symm
theorem zn7 {t yt:TypeId} {x:Operand} {i:TI} (ht:ti P t=some i) (hk:i.kd = .slice):@dI P T h (.binOp .eql t x (.const (.slice none 0 0)) yt) K=@obI _ (asL (opd T x)) ⟨fun l=>@wQ h l ⟨fun b=>K.run (.one (.d (.bool b)),h)⟩⟩:=by
 obtain⟨sz,by',ag,z,kd,fl,el⟩:=i;simp only at hk;subst hk;unfold dI lG eZ;have hb:∀u,fX P h t .slice .eql u (.one .nils)=none:=by
  intro u;rcases u with⟨⟨_|_|_|_|_⟩|_|_|_|_|_|_|_|_⟩|_|_<;>rfl
 simp only[vop,eI,cP,ht,zQ7];cases opd T x with
 |none=>rfl
 |some u=>
  simp only[hb];cases u<;>rfl
def zn8 (h:aB) (id:Nat):Option Nat:=match h[id]? with
 |some (.ar _ _ _ v _)=>some v
 |_=>none
theorem ju8 {X:Kn Bool}:@wQ h .nils X=X.run true:=rfl
theorem ju9 {xs:List (List D)} {X:Kn Bool}:@wQ h (.d (.sl xs)) X=((xs=[]→X.run true)∧X.run false):=by
 apply propext;constructor
 ·intro hv;exact⟨fun e=>hv true fun _=>e,hv false fun e=>by cases e⟩
 ·intro hv b hb;cases b with
  |true=>exact hv.1 (hb rfl)
  |false=>exact hv.2
theorem jv0 {id ver len:Nat} {X:Kn Bool}:@wQ h (.own id ver len) X=@obI _ (zn8 h id) ⟨fun v=>v=ver∧(len=0→X.run true)∧X.run false⟩:=by
 unfold wQ kC zn8;simp only;cases hg:h[id]? with
 |none=>rfl
 |some o=>cases o with
  |bx ty _=>rfl
  |dead=>rfl
  |ar ty fz sz v xs=>
 simp only[rV];apply propext;constructor
 ·rintro⟨e,hv⟩;exact⟨e,fun e=>hv true fun _=>e,hv false fun e=>by cases e⟩
 ·rintro⟨e,hv⟩;refine⟨e,fun b hb=>?_⟩;cases b with
  |true=>exact hv.1 (hb rfl)
  |false=>exact hv.2
theorem jv1 {f:FuncId} {avs:List V} (avs1:List V) (h1:aB) (ids:List Nat) {avs':List V} {hs:aB} {Post:V→aB→Prop} (k1:WkV.all avs avs1) (k2:WkH h h1) (hc:VC P f avs' hs Post) (hn:bK ids=true) (hl:cL h1 ids avs1=some avs') (hh:bB h1 (idx ids) ids=some hs)
  (hk:∀r hs',Post r hs'→∃r' h',lE h1 ids (dK ids avs1) r hs'=some (r',h')∧K.run (r',h')):@jN P f avs h K:=⟨[],h,avs1,h1,rfl,k1,k2,ids,avs',hs,Post,hn,hl,hh,hc,hk⟩
theorem mF {f:FuncId} {avs:List V} (bs:List (Nat×Nat×Nat)) {hb:aB} (avs1:List V) (h1:aB) (ids:List Nat) {avs':List V} {hs:aB} {Post:V→aB→Prop} (k0:eP h bs=some hb) (k1:WkV.all avs avs1) (k2:WkH hb h1) (hc:VC P f avs' hs Post) (hn:bK ids=true) (hl:cL h1 ids avs1=some avs') (hh:bB h1 (idx ids) ids=some hs)
  (hk:∀r hs',Post r hs'→∃r' h',lE h1 ids (dK ids avs1) r hs'=some (r',h')∧K.run (r',h')):@jN P f avs h K:=⟨bs,hb,avs1,h1,k0,k1,k2,ids,avs',hs,Post,hn,hl,hh,hc,hk⟩
theorem bI {f:FuncId} {avs:List V} (ids:List Nat) {avs':List V} {hs:aB} {Post:V→aB→Prop} (hc:VC P f avs' hs Post) (hn:bK ids=true) (hl:cL h ids avs=some avs') (hh:bB h (idx ids) ids=some hs)
  (hk:∀r hs',Post r hs'→∃r' h',lE h ids (dK ids avs) r hs'=some (r',h')∧K.run (r',h')):@jN P f avs h K:=jv1 avs h ids (kc4 _) (kb5 _) hc hn hl hh hk
theorem bC {c:aC} {α:Type} (Ti:α→Sl) (Hi:α→aB) (Inv:α→Prop) (m:α→Nat) (x0:α) (h1:gB n T h (Ti x0) (Hi x0)) (h3:Inv x0)
  (hr:∀x,Inv x→@iC P n c (Ti x) (Hi x) ⟨fun p=>@wR p.1 p.2.1 p.2.2 ⟨fun q=>∃y,Inv y∧m y<m x∧gB n q.1 q.2 (Ti y) (Hi y)⟩ KX⟩):@iC P n (.loop c) T h KX:=by
 refine⟨fun k T h=>∃x,Inv x∧k=m x∧T=Ti x∧h=Hi x,⟨m x0,Ti x0,Hi x0,h1,x0,h3,rfl,rfl,rfl⟩,?_⟩;rintro k T h ⟨x,hx,rfl,rfl,rfl⟩;have:=hr x hx;have mono:∀{c:aC} {Q Q':VX→Sl→aB→Prop} {T:Sl} {h:aB},(∀e T h,Q e T h→Q' e T h)→vwp P n c Q T h→vwp P n c Q' T h:=fun hq hv=>mB hq hv;refine mono ?_ this;intro e T' h' hv;cases e with
 |normal=>
  obtain⟨y,a1,a2,a3⟩:=hv;exact⟨m y,Ti y,Hi y,a2,a3,y,a1,rfl,rfl,rfl⟩
 |exit id=>exact hv
 |ret=>exact hv
theorem eT {T0:Sl} {h0:aB} (ids:List Nat) (h1:aB) (k1:WkH h h1) (k2:bK ids=true) (k3:ids.take n=kh4 n) (k4:bB h1 (idx ids) ids=some h0) (k5:Sub h1 ids T0 T):gB n T h T0 h0:=⟨[],[],T,h,h,h1,ids,rfl,rfl,k1,k2,k3,k4,k5⟩
theorem nB {T0 T1:Sl} {h0 hp hh:aB} (gs:List (Nat×Nat)) (bs:List (Nat×Nat×Nat)) (ids:List Nat) (h1:aB) (k0:rU T h gs=some (T1,hp)) (k0':eP hp bs=some hh) (k1:WkH hh h1) (k2:bK ids=true) (k3:ids.take n=kh4 n) (k4:bB h1 (idx ids) ids=some h0) (k5:Sub h1 ids T0 T1):gB n T h T0 h0:=⟨gs,bs,T1,hp,hh,h1,ids,k0,k0',k1,k2,k3,k4,k5⟩
end
end Go.Vt
