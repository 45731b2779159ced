import Derived.Test.YtdabfkmhkoppcaaGreatDoorVtSimp
set_option linter.all false
open Array renaming toList_inj→kv9
open Bool renaming and_eq_true→ks2,false_eq_true→kx8
open List renaming lookup_cons→kx3,range→kt4
open Nat renaming beq_refl→kL0,beq→kx4,le_refl→ks0,lt_succ_of_le→kJ3,lt_succ_self→kC2,strongRecOn→kG0
namespace Go.Vt
set_option linter.unusedSectionVars false
set_option linter.unusedVariables false
variable [cJ]
def zs5 (a b:ByteArray):Bool:=a.data.toList == b.data.toList
theorem jD1 {a b:ByteArray} (h:zs5 a b=true):a=b:=by
 unfold zs5 at h;have:=eq_of_beq h;cases a;cases b;simp only at this
 congr
 exact kv9.1 this
mutual
def rL:D→D→Bool
 |.bool a,.bool b=>a == b
 |.int k n,.int k' n'=>decide (k=k')&&decide (n=n')
 |.str a,.str b=>zs5 a b
 |.sl xs,.sl ys=>vR xs ys
 |.nilp,.nilp=>true
 |_,_=>false
def vR:List (List D)→List (List D)→Bool
 |[],[]=>true
 |x::r,y::s=>vS x y&&vR r s
 |_,_=>false
def vS:List D→List D→Bool
 |[],[]=>true
 |x::r,y::s=>rL x y&&vS r s
 |_,_=>false
end
mutual
theorem zX4:∀{x y:D},rL x y=true→x=y
 |.bool a,y,h=>by cases y<;>simp[rL]at h;subst h;rfl
 |.int k n,y,h=>by cases y<;>simp[rL]at h;obtain⟨rfl,rfl⟩:=h;rfl
 |.str a,y,h=>by cases y<;>simp[rL]at h;rw[jD1 h]
 |.sl xs,y,h=>by cases y<;>simp[rL]at h;rw[zs6 h]
 |.nilp,y,h=>by cases y<;>simp[rL]at h;rfl
theorem zs6:∀{x y:List (List D)},vR x y=true→x=y
 |[],y,h=>by cases y<;>simp[vR]at h;rfl
 |x::r,y,h=>by cases y<;>simp[vR]at h;rw[zs7 h.1,zs6 h.2]
theorem zs7:∀{x y:List D},vS x y=true→x=y
 |[],y,h=>by cases y<;>simp[vS]at h;rfl
 |x::r,y,h=>by cases y<;>simp[vS]at h;rw[zX4 h.1,zs7 h.2]
end
mutual
def kF:L→L→Bool
 |.d x,.d y=>rL x y
 |.nils,.nils=>true
 |.own a b c,.own a' b' c'=>kx4 a a'&&kx4 b b'&&kx4 c c'
 |.ptr a b,.ptr a' b'=>kx4 a a'&&kx4 b b'
 |.ept a b c d,.ept a' b' c' d'=>kx4 a a'&&kx4 b b'&&kx4 c c'&&kx4 d d'
 |.ref x,.ref y=>vS x y
 |.fn f x,.fn g y=>kx4 f g&&rM x y
 |.nilf,.nilf=>true
 |.any,.any=>true
 |.bsl a b c,.bsl a' b' c'=>kx4 a a'&&kx4 b b'&&kx4 c c'
 |.osl a b c d,.osl a' b' c' d'=>kx4 a a'&&kx4 b b'&&kx4 c c'&&kx4 d d'
 |.nili,.nili=>true
 |.fb f x,.fb g y=>kx4 f g&&rM x y
 |_,_=>false
def rM:List L→List L→Bool
 |[],[]=>true
 |x::r,y::s=>kF x y&&rM r s
 |_,_=>false
end
theorem iD {a b:Nat} (h:kx4 a b=true):a=b:=Nat.eq_of_beq_eq_true h
mutual
theorem zX5:∀{x y:L},kF x y=true→x=y
 |.d a,y,h=>by cases y<;>simp[kF]at h;rw[zX4 h]
 |.nils,y,h=>by cases y<;>simp[kF]at h;rfl
 |.own a b c,y,h=>by
  cases y<;>simp only[kF,ks2,kx8]at h
  obtain⟨⟨h1,h2⟩,h3⟩:=h;rw[iD h1,iD h2,iD h3]
 |.ptr a b,y,h=>by
  cases y<;>simp only[kF,ks2,kx8]at h
  obtain⟨h1,h2⟩:=h;rw[iD h1,iD h2]
 |.ept a b c d,y,h=>by
  cases y<;>simp only[kF,ks2,kx8]at h
  obtain⟨⟨⟨h1,h2⟩,h3⟩,h4⟩:=h;rw[iD h1,iD h2,iD h3,iD h4]
 |.ref a,y,h=>by cases y<;>simp[kF]at h;rw[zs7 h]
 |.fn f a,y,h=>by
  cases y<;>simp only[kF,ks2,kx8]at h
  obtain⟨h1,h2⟩:=h;rw[iD h1,yG h2]
 |.nilf,y,h=>by cases y<;>simp[kF]at h;rfl
 |.any,y,h=>by cases y<;>simp[kF]at h;rfl
 |.bsl a b c,y,h=>by
  cases y<;>simp only[kF,ks2,kx8]at h
  obtain⟨⟨h1,h2⟩,h3⟩:=h;rw[iD h1,iD h2,iD h3]
 |.osl a b c d,y,h=>by
  cases y<;>simp only[kF,ks2,kx8]at h
  obtain⟨⟨⟨h1,h2⟩,h3⟩,h4⟩:=h;rw[iD h1,iD h2,iD h3,iD h4]
 |.nili,y,h=>by cases y<;>simp[kF]at h;rfl
 |.fb f a,y,h=>by
  cases y<;>simp only[kF,ks2,kx8]at h
  obtain⟨h1,h2⟩:=h;rw[iD h1,yG h2]
theorem yG:∀{x y:List L},rM x y=true→x=y
 |[],y,h=>by cases y<;>simp[rM]at h;rfl
 |x::r,y,h=>by cases y<;>simp[rM]at h;rw[zX5 h.1,yG h.2]
end
mutual
def tG:V→V→Bool
 |.one a,.one b=>kF a b
 |.agg a,.agg b=>rM a b
 |.tup a,.tup b=>yH a b
 |_,_=>false
def yH:List V→List V→Bool
 |[],[]=>true
 |x::r,y::s=>tG x y&&yH r s
 |_,_=>false
end
mutual
theorem zs8:∀{x y:V},tG x y=true→x=y
 |.one a,y,h=>by cases y<;>simp[tG]at h;rw[zX5 h]
 |.agg a,y,h=>by cases y<;>simp[tG]at h;rw[yG h]
 |.tup a,y,h=>by cases y<;>simp[tG]at h;rw[zX6 h]
theorem zX6:∀{x y:List V},yH x y=true→x=y
 |[],y,h=>by cases y<;>simp[yH]at h;rfl
 |x::r,y,h=>by cases y<;>simp[yH]at h;rw[zs8 h.1,zX6 h.2]
end
def zs9:aI→aI→Bool
 |.bx t a,.bx t' b=>decide (t=t')&&rM a b
 |.ar t f s v x,.ar t' f' s' v' x'=>decide (t=t')&&(f == f')&&kx4 s s'&&kx4 v v'&&vR x x'
 |.dead,.dead=>true
 |_,_=>false
theorem jD2 {x y:aI} (h:zs9 x y=true):x=y:=by
 cases x<;>cases y<;>simp only[zs9,ks2,kx8]at h
 ·obtain⟨h0,h⟩:=h;rw[yG h,of_decide_eq_true h0]
 ·obtain⟨⟨⟨⟨h0,h1⟩,h2⟩,h3⟩,h4⟩:=h;rw[of_decide_eq_true h0,eq_of_beq h1,iD h2,iD h3,zs6 h4]
 ·rfl
def vT:aB→aB→Bool
 |[],[]=>true
 |x::r,y::s=>zs9 x y&&vT r s
 |_,_=>false
theorem zt0:∀{x y:aB},vT x y=true→x=y
 |[],y,h=>by cases y<;>simp[vT]at h;rfl
 |x::r,y,h=>by cases y<;>simp[vT]at h;rw[jD2 h.1,zt0 h.2]
abbrev dZ:=V×aB
def yI (x y:dZ):Bool:=tG x.1 y.1&&vT x.2 y.2
theorem zt1 {x y:dZ} (h:yI x y=true):x=y:=by
 simp only[yI,ks2]at h;exact Prod.ext (zs8 h.1) (zt0 h.2)
mutual
def zX7:L→List Nat
 |.own id _ _=>[id]
 |.ptr id _=>[id]
 |.ept id _ _ _=>[id]
 |.fn _ caps=>yJ caps
 |.fb _ caps=>yJ caps
 |.bsl id _ _=>[id]
 |.osl id _ _ _=>[id]
 |_=>[]
def yJ:List L→List Nat
 |[]=>[]
 |l::r=>zX7 l++yJ r
end
mutual
def zf1:V→List Nat
 |.one l=>zX7 l
 |.agg ls=>yJ ls
 |.tup vs=>zf2 vs
def zf2:List V→List Nat
 |[]=>[]
 |v::r=>zf1 v++zf2 r
end
def jD3:aI→List Nat
 |.bx _ ls=>yJ ls
 |_=>[]
def memN (x:Nat):List Nat→Bool
 |[]=>false
 |y::r=>kx4 x y||memN x r
def zf3 (h:aB):Nat→List Nat→List Nat→List Nat
 |0,acc,_=>acc.reverse
 |_,acc,[]=>acc.reverse
 |f+1,acc,x::r=>if memN x acc then zf3 h f acc r else match h[x]? with
  |some o=>zf3 h f (x::acc) (r++jD3 o)
  |none=>zf3 h f acc r
def tH (h:aB) (n:Nat) (roots:List Nat):List Nat:=zf3 h 100000 [] (kt4 n++roots)
abbrev eL:=FuncId→List V→aB→Option dZ
def zf4 (call:eL) (f:FuncId) (avs:List V) (h:aB):Option dZ:=
 let ids:=tH h 0 (zf2 avs)
 match bO ids,cE h ids avs,bA h (idx ids) ids with
 |true,some avs',some hs=>match call f avs' hs with
  |some (r,hs')=>mE h ids (dM ids avs) r hs'
  |none=>none
 |_,_,_=>none
def zt2 (P:Program) (call:eL) (T:Sl) (h:aB) (op:Op):Option dZ:=
 match op with
 |.call { callee:=.value f,args,.. }=>match opd T f,eO T args.toList with
  |some (.one (.fn f caps)),some vs=>if caps.all (dX h)=true then zf4 call f (vs++caps.map .one) h else none
  |some (.one (.fb f fst)),some vs=>if fst.all (dX h)=true then zf4 call f (fst.map .one++(vs++[])) h else none
  |_,_=>none
 |.binOp op t x (.const (.slice none 0 0)) _=>match ti P t,opd T x with
  |some i,some (.one l)=>match i.kd,op,l with
   |.slice,.eql,.nils=>some (.one (.d (.bool true)),h)
   |.slice,.neq,.nils=>some (.one (.d (.bool false)),h)
   |.slice,.eql,.d (.sl (_::_))=>some (.one (.d (.bool false)),h)
   |.slice,.neq,.d (.sl (_::_))=>some (.one (.d (.bool true)),h)
   |.slice,op,.own id ver (_+1)=>match h[id]? with
    |some (.ar ty _ _ ver' _)=>if ver'=ver then (match op with
     |.eql=>some (.one (.d (.bool false)),h)
     |.neq=>some (.one (.d (.bool true)),h)
     |_=>none)else none
    |_=>none
   |_,_,_=>none
  |_,_=>none
 |_=>none
def zf5 (P:Program) (call:eL) (T:Sl) (h:aB) (op:Op):Option dZ:=
 match vop P T h { dst:=none,op,type:=0,pos:="",after:=#[],guard:=none } with
 |some x=>some x
 |none=>match dW P T h { dst:=none,op,type:=0,pos:="",after:=#[],guard:=none } with
  |some x=>some x
  |none=>zt2 P call T h op
def oB (P:Program) (call:eL) (o:VOp) (T:Sl) (h:aB):Option (Sl×aB):=match o.g with
 |none=>match zf5 P call T h o.op with
  |some (v,h')=>some (bI T o.dst v,h')
  |none=>none
 |some (some d,want)=>match rF (T.lookup d)with
  |some b=>if b=some want then (match zf5 P call T h o.op with
   |some (v,h')=>some (bI T o.dst v,h')
   |none=>none)else some (bI T o.dst sV,h)
  |none=>none
 |some (none,_)=>none
def zf6 (P:Program) (call:eL):List VOp→Sl→aB→Option (Sl×aB)
 |[],T,h=>some (T,h)
 |o::R,T,h=>match oB P call o T h with
  |some (T',h')=>zf6 P call R T' h'
  |none=>none
def zt3 (P:Program) (T:Sl) (h:aB) (o:VOp):Bool:=match o.g,o.op with
 |none,.binOp op t x (.const (.slice none 0 0)) _=>match ti P t,opd T x with
  |some i,some (.one (.d (.sl [])))=>match i.kd,op with
   |.slice,.eql=>true
   |.slice,.neq=>true
   |_,_=>false
  |some i,some (.one (.own id ver 0))=>match i.kd,h[id]? with
   |.slice,some (.ar _ _ _ ver' _)=>if ver'=ver then (match op with
    |.eql=>true
    |.neq=>true
    |_=>false)else false
   |_,_=>false
  |_,_=>false
 |_,_=>false
def vU (P:Program) (call:eL):List VOp→Sl→aB→(Sl→aB→Option dZ)→Option dZ
 |[],T,h,K=>K T h
 |o::R,T,h,K=>match zt3 P T h o with
  |true=>match vU P call R (bI T o.dst (.one (.d (.bool true)))) h K,vU P call R (bI T o.dst (.one (.d (.bool false)))) h K with
   |some x,some y=>if yI x y=true then some x else none
   |_,_=>none
  |false=>match oB P call o T h with
   |some (T',h')=>vU P call R T' h' K
   |none=>none
def tI:Sl→Sl→Bool
 |[],[]=>true
 |(i,x)::r,(j,y)::s=>kx4 i j&&tG x y&&tI r s
 |_,_=>false
theorem zt4:∀{x y:Sl},tI x y=true→x=y
 |[],y,h=>by cases y<;>simp[tI]at h;rfl
 |(i,x)::r,y,h=>by
  cases y with
  |nil=>simp[tI]at h
  |cons y s=>
   obtain⟨j,y⟩:=y;simp only[tI,ks2]at h;rw[iD h.1.1,zs8 h.1.2,zt4 h.2]
def vV (P:Program) (call:eL) (is:List Nat) (h:aB):List (Nat×VOp×Sl×Sl)→Bool
 |[]=>true
 |(i,o,T,T')::W=>(if i∈is then (match oB P call o T h with
  |some (T2,_)=>tI T2 T'
  |none=>false)else true)&&vV P call is h W
def yK (P:Program) (call:eL) (ob:List (Nat×List Nat)):List (Nat×VOp)→List (Nat×VOp×Sl×Sl)→Sl→aB→Option (Sl×aB)
 |[],_,T,h=>some (T,h)
 |(i,o)::R,W,T,h=>match oB P call o T h with
  |some (T',h')=>if ro o.op=true then yK P call ob R (if ob.any (fun x=>x.2.contains i)then (i,o,T,T')::W else W) T' h'
   else if vV P call (iB ob i) h' W=true then yK P call ob R W T' h' else none
  |none=>none
def rN (P:Program) (call:eL) (ob:List (Nat×List Nat)):VBT→List (Nat×VOp×Sl×Sl)→Sl→aB→(Sl→aB→Option dZ)→Option dZ
 |.leaf,_,T,h,K=>K T h
 |.no,_,_,_,_=>none
 |.ro i o t,W,T,h,K=>match oB P call o T h with
  |some (T',h')=>rN P call ob t (if ob.any (fun x=>x.2.contains i)then (i,o,T,T')::W else W) T' h' K
  |none=>none
 |.alt j o t r,W,T,h,K=>match oB P call o T h with
  |some (T',h')=>if vV P call (iB ob j) h' W=true then (match r with
   |.no=>rN P call ob t W T' h' K
   |r=>match rN P call ob t W T' h' K,rN P call ob r W T h K with
    |some x,some y=>if yI x y=true then some x else none
    |_,_=>none)else none
  |none=>none
def vW (h:aB) (ids:List Nat):List Nat→Sl→Sl
 |_,[]=>[]
 |seen,(i,v)::r=>if memN i seen then vW h ids seen r else match cF h ids v with
  |some v0=>(i,v0)::vW h ids (i::seen) r
  |none=>vW h ids (i::seen) r
def zf7:Sl→List Nat
 |[]=>[]
 |(_,v)::r=>zf1 v++zf7 r
def tJ (n:Nat) (T:Sl) (h:aB):Option (Sl×aB):=
 let ids:=tH h n (zf7 T)
 match bO ids&&decide (ids.take n=kt4 n),bA h (idx ids) ids with
 |true,some h0=>some (vW h ids [] T,h0)
 |_,_=>none
def yL (i:Nat) (v:V):Sl→Sl
 |[]=>[(i,v)]
 |(j,w)::r=>match kx4 i j with
  |true=>(i,v)::r
  |false=>match Nat.blt i j with
   |true=>(i,v)::(j,w)::r
   |false=>(j,w)::yL i v r
def vX:Sl→Sl
 |[]=>[]
 |(i,v)::r=>yL i v (vX r)
def rO (P:Program) (call:eL) (n:Nat) (ob:List (Nat×List Nat)):VBT→List (Nat×VOp×Sl×Sl)→Sl→aB→Option (Sl×aB)
 |.leaf,_,T,h=>tJ n (vX T) h
 |.no,_,_,_=>none
 |.ro i o t,W,T,h=>match oB P call o T h with
  |some (T',h')=>rO P call n ob t (if ob.any (fun x=>x.2.contains i)then (i,o,T,T')::W else W) T' h'
  |none=>none
 |.alt j o t r,W,T,h=>match oB P call o T h with
  |some (T',h')=>if vV P call (iB ob j) h' W=true then (match r with
   |.no=>rO P call n ob t W T' h'
   |r=>match rO P call n ob t W T' h',rO P call n ob r W T h with
    |some (T1,h1),some (T2,h2)=>if (tI T1 T2&&vT h1 h2)=true then some (T1,h1)else none
    |_,_=>none)else none
  |none=>none
def zt5 (P:Program) (f:FuncId):Option (Nat×aC):=match P.funcs[f]? with
 |some fn=>match fn.body with
  |some c=>if jM P f&&nB fn.ntmps c&&fn.results.toList.isEmpty then some (fn.ntmps,aN [] c)else none
  |none=>none
 |none=>none
abbrev KV:=Sl→List Tmp→aB→Option VX→Option dZ
abbrev EvR:=List V→aB→(Option VX→aB→Option dZ)→Option dZ
def zX8 (P:Program) (call:eL) (Y:EvR) (o:VOp) (T:Sl) (ys:List Tmp) (h:aB) (pd:Option VX) (K:KV):Option dZ:=
 match yop o ys with
 |.mv d=>K ((d,.one .any)::T) (d::ys) h pd
 |.yl args=>match pd,eO T args with
  |none,some vs=>Y vs h fun pd' h'=>K (bI T o.dst (.one (.d (.bool pd'.isNone)))) (jF o.dst ys) h' pd'
  |_,_=>none
 |.no=>match oB P call o T h with
  |some (T',h')=>K T' (jF o.dst ys) h' pd
  |none=>none
def zf8 (P:Program) (call:eL) (Y:EvR):List VOp→Sl→List Tmp→aB→Option VX→KV→Option dZ
 |[],T,ys,h,pd,K=>K T ys h pd
 |o::R,T,ys,h,pd,K=>zX8 P call Y o T ys h pd fun T' ys' h' pd'=>zf8 P call Y R T' ys' h' pd' K
def evY (P:Program) (call:eL) (n:Nat) (Y:EvR):Nat→aC→(VX→KV)→KV
 |0,_,_,_,_,_,_=>none
 |f+1,c,K,T,ys,h,pd=>match c with
  |.skip=>K .normal T ys h pd
  |.ops l=>zf8 P call Y l T ys h pd (K .normal)
  |.seq a b=>evY P call n Y f a (fun e T ys h pd=>match e with
   |.normal=>evY P call n Y f b K T ys h pd
   |e=>K e T ys h pd) T ys h pd
  |.cond c a b=>match opd T c with
   |some (.one (.d (.bool t)))=>match t with
    |true=>evY P call n Y f a K T ys h pd
    |false=>evY P call n Y f b K T ys h pd
   |_=>none
  |.block id c=>evY P call n Y f c (fun e T ys h pd=>match e with
   |.exit id'=>if id'=id then K .normal T ys h pd else K (.exit id') T ys h pd
   |e=>K e T ys h pd) T ys h pd
  |.loop c=>match tJ n T h with
   |some (T0,h0)=>evY P call n Y f c (fun e T ys h pd=>match e with
    |.normal=>evY P call n Y f (.loop c) K T ys h pd
    |e=>K e T ys h pd) T0 ys h0 pd
   |none=>none
  |.exit id=>K (.exit id) T ys h pd
  |.ret=>K .ret T ys h pd
  |_=>none
def ev (P:Program) (call:eL) (n:Nat):Nat→aC→(VX→Sl→aB→Option dZ)→Sl→aB→Option dZ
 |0,_,_,_,_=>none
 |f+1,c,K,T,h=>match c with
  |.skip=>K .normal T h
  |.ops l=>vU P call l T h (K .normal)
  |.opsW l ob=>match yK P call ob l [] T h with
   |some (T',h')=>K .normal T' h'
   |none=>none
  |.opsB t ob=>rN P call ob t [] T h (K .normal)
  |.opsK t ob=>match rO P call n ob t [] T h with
   |some (T',h')=>K .normal T' h'
   |none=>none
  |.both a b=>match ev P call n f a K T h,ev P call n f b K T h with
   |some x,some y=>if yI x y=true then some x else none
   |_,_=>none
  |.seq a b=>ev P call n f a (fun e T h=>match e with
   |.normal=>ev P call n f b K T h
   |e=>K e T h) T h
  |.cond c a b=>match opd T c with
   |some (.one (.d (.bool t)))=>match t with
    |true=>ev P call n f a K T h
    |false=>ev P call n f b K T h
   |_=>none
  |.block id c=>ev P call n f c (fun e T h=>match e with
   |.exit id'=>if id'=id then K .normal T h else K (.exit id') T h
   |e=>K e T h) T h
  |.loop c=>match tJ n T h with
   |some (T0,h0)=>ev P call n f c (fun e T h=>match e with
    |.normal=>ev P call n f (.loop c) K T h
    |e=>K e T h) T0 h0
   |none=>none
  |.exit id=>K (.exit id) T h
  |.ret=>K .ret T h
  |.bad=>none
  |.rangeF g ps x y=>match opd T g with
   |some (.one (.fn g' caps))=>if caps.all (dX h)=true then (match zt5 P g' with
    |some (N,it)=>if caps.length<N then evY P call h.length (fun vs h1 K'=>if vs.length=ps.length then ev P call h1.length f x (fun e T' h'=>match e with
      |.normal=>ev P call h'.length f y (fun e _ h'=>match e with
       |.normal=>K' none h'
       |e=>K' (some e) h') T' h'
      |_=>none) (mG ps vs T) h1 else none) f it (fun e _ _ h' pd=>match e with
       |.exit _=>none
       |_=>match pd with
        |none=>K .normal T h'
        |some e=>K e T h') ((0,.one .any)::vH 1 caps) [0] h none else none
    |none=>none)else none
   |_=>none
def vY (P:Program) (n:Nat) (rs:List ResultVar):VX→Sl→aB→Option dZ
 |.exit _,_,_=>none
 |_,T,h=>match dI P T h rs with
  |some vs=>fin n (tH h n (zf1 (dA vs))) h (dA vs)
  |none=>none
abbrev Tbl:=FuncId→Option (Nat×aC×List ResultVar)
def zf9:L→L
 |.nils=>.d (.sl [])
 |l=>l
def zt6:List L→List L
 |[]=>[]
 |l::r=>zf9 l::zt6 r
mutual
def pS:V→V
 |.one l=>.one (zf9 l)
 |.agg ls=>.agg (zt6 ls)
 |.tup vs=>.tup (zt7 vs)
def zt7:List V→List V
 |[]=>[]
 |v::r=>pS v::zt7 r
end
def zt8:List Nat→aB→List Nat
 |[],_=>[]
 |i::r,h=>match h[i]? with
  |some (.ar _ _ _ _ _)=>zt8 r h
  |_=>i::zt8 r h
def zg0 (P:Program) (n:Nat) (rs:List ResultVar):VX→Sl→aB→Option dZ
 |.exit _,_,_=>none
 |_,T,h=>match dI P T h rs with
  |some vs=>fin n (tH h n (zt8 (zf1 (pS (dA vs))) h)) h (pS (dA vs))
  |none=>none
variable {P:Program} {call:eL}
def jA (P:Program) (call:eL):Prop:=∀f avs h r h',call f avs h=some (r,h')→VC P f avs h fun r' h''=>r'=r∧h''=h'
theorem zX9 (hc:jA P call) {f:FuncId} {avs:List V} {h:aB} {v:V} {h':aB} (he:zf4 call f avs h=some (v,h')) {K:V→aB→Prop} (hk:K v h'):sT P f avs h K:=by
 unfold zf4 at he;simp only at he;generalize tH h 0 (zf2 avs)=ids at he;split at he
 ·rename_i avs' hs hn hl hh;split at he
  ·rename_i r hs' hcall;exact⟨[],h,avs,h,rfl,ko6 _,ko1 _,ids,avs',hs,_,hn,hl,hh,hc _ _ _ _ _ hcall,fun r' hs'' ⟨e1,e2⟩=>by subst e1;subst e2;exact⟨v,h',he,hk⟩⟩
  ·cases he
 ·cases he
theorem jD4 (hc:jA P call) {T:Sl} {h:aB} {op:Op} {v:V} {h':aB} (he:zt2 P call T h op=some (v,h')) {K:V→aB→Prop} (hk:K v h'):cH P T h { dst:=none,op,type:=0,pos:="",after:=#[],guard:=none } K:=by
 unfold zt2 at he;split at he
 ·rename_i f args _;unfold cH;simp only;split at he
  ·rename_i f' caps vs h1 h2;split at he
   ·rename_i hcap;simp only[h1,h2];exact⟨hcap,zX9 hc he hk⟩
   ·cases he
  ·rename_i f' caps vs h1 h2;split at he
   ·rename_i hcap;simp only[h1,h2];exact⟨hcap,zX9 hc he hk⟩
   ·cases he
  ·cases he
 ·rename_i bop t x _;unfold cH;simp only;split at he
  ·rename_i i l h1 h2;simp only[h1,h2];split at he
   ·rename_i hkd;cases he;rw[hkd];exact hk
   ·rename_i hkd;cases he;rw[hkd];exact hk
   ·rename_i hkd;cases he;rw[hkd];intro b hb;cases b with|true=>cases hb rfl|false=>exact hk
   ·rename_i hkd;cases he;rw[hkd];intro b hb;cases b with|true=>cases hb rfl|false=>exact hk
   ·rename_i id ver len hkd;split at he
    ·rename_i fz sz ver' xs hid;split at he
     ·rename_i hv;split at he
      ·cases he;rw[hkd];simp only[kV,hid];exact⟨hv,fun b hb=>by cases b with|true=>cases hb rfl|false=>exact hk⟩
      ·cases he;rw[hkd];simp only[kV,hid];exact⟨hv,fun b hb=>by cases b with|true=>cases hb rfl|false=>exact hk⟩
      ·cases he
     ·cases he
    ·cases he
   ·cases he
  ·cases he
 ·cases he
theorem zY0 (hc:jA P call) {T:Sl} {h:aB} {op:Op} {v:V} {h':aB} (he:zf5 P call T h op=some (v,h')) {K:V→aB→Prop} (hk:K v h'):lO P T h op K:=by
 unfold zf5 at he;unfold lO eW;split at he
 ·rename_i x hx;cases he;rw[hx];exact hk
 ·rename_i hx;rw[hx];split at he
  ·rename_i x hm;cases he;rw[hm];exact hk
  ·rename_i hm;rw[hm];exact jD4 hc he hk
theorem nG (hc:jA P call) {o:VOp} {T:Sl} {h:aB} {T':Sl} {h':aB} (he:oB P call o T h=some (T',h')) {K:Sl→aB→Prop} (hk:K T' h'):iJ P o T h K:=by
 unfold oB at he;unfold iJ;split at he
 ·rename_i hg;rw[hg];split at he
  ·rename_i v h1 hs;cases he;exact zY0 hc hs hk
  ·cases he
 ·rename_i d want hg;rw[hg];simp only;split at he
  ·rename_i b hb;rw[hb];split at he
   ·rename_i hw;split at he
    ·rename_i v h1 hs;cases he;exact⟨fun _=>zY0 hc hs hk,fun hn=>absurd hw hn⟩
    ·cases he
   ·rename_i hw;cases he;exact⟨fun hn=>absurd hn hw,fun _=>hk⟩
  ·cases he
 ·cases he
theorem zY1 (hc:jA P call):∀{l:List VOp} {T:Sl} {h:aB} {T':Sl} {h':aB},zf6 P call l T h=some (T',h')→∀{K:Sl→aB→Prop},K T' h'→nX P l T h K
 |[],_,_,_,_,he,_,hk=>by cases he;exact hk
 |o::R,T,h,T',h',he,K,hk=>by
  unfold zf6 at he;split at he
  ·rename_i T1 h1 hg;exact nG hc hg (zY1 hc he hk)
  ·cases he
theorem vZ (hc:jA P call) {is:List Nat} {h:aB}:∀{W:List (Nat×VOp×Sl×Sl)},vV P call is h W=true→mZ P is h W
 |[],_=>trivial
 |(i,o,T,T')::W,he=>by
  unfold vV at he;simp only[ks2]at he;refine⟨fun hi=>?_,vZ hc he.2⟩;have h1:=he.1;rw[if_pos hi]at h1;split at h1
  ·rename_i T2 h2 hg;exact nG hc hg (zt4 h1)
  ·cases h1
theorem jD5 {T:Sl} {h:aB} {o:VOp} (hu:zt3 P T h o=true) {K:Sl→aB→Prop} (h1:K (bI T o.dst (.one (.d (.bool true)))) h) (h2:K (bI T o.dst (.one (.d (.bool false)))) h):iJ P o T h K:=by
 have both:∀b:Bool,K (bI T o.dst (.one (.d (.bool b)))) h:=fun b=>by cases b;exact h2;exact h1
 obtain⟨dst,op,g⟩:=o;unfold zt3 at hu;split at hu
 ·rename_i op' t x yt hg hop;simp only at hg hop both;subst hg;subst hop;show lO P T h _ _;unfold lO eW;split at hu
  ·rename_i i hi hx;split at hu
   ·rename_i hkd;have hn:opd T (.const (.slice none 0 0))=some (.one .nils):=rfl;have hb:gZ P h t i.kd .eql (.one (.d (.sl []))) (.one .nils)=none:=by rw[hkd];rfl
    simp only[vop,dW,cH,hi,hx,hn,hb,hkd];exact fun b _=>both b
   ·rename_i hkd;have hn:opd T (.const (.slice none 0 0))=some (.one .nils):=rfl;have hb:gZ P h t i.kd .neq (.one (.d (.sl []))) (.one .nils)=none:=by rw[hkd];rfl
    simp only[vop,dW,cH,hi,hx,hn,hb,hkd];exact fun b _=>both (!b)
   ·cases hu
  ·rename_i i id ver hi hx;split at hu
   ·rename_i ty fz sz ver' xs hkd hid;split at hu
    ·rename_i hv;split at hu
     ·have hn:opd T (.const (.slice none 0 0))=some (.one .nils):=rfl;have hb:gZ P h t i.kd .eql (.one (.own id ver 0)) (.one .nils)=none:=by rw[hkd];rfl
      simp only[vop,dW,cH,hi,hx,hn,hb,hkd,kV,hid];exact⟨hv,fun b _=>both b⟩
     ·have hn:opd T (.const (.slice none 0 0))=some (.one .nils):=rfl;have hb:gZ P h t i.kd .neq (.one (.own id ver 0)) (.one .nils)=none:=by rw[hkd];rfl
      simp only[vop,dW,cH,hi,hx,hn,hb,hkd,kV,hid];exact⟨hv,fun b _=>both (!b)⟩
     ·cases hu
    ·cases hu
   ·cases hu
  ·cases hu
 ·cases hu
theorem zg1 (hc:jA P call) {x:dZ}:∀{l:List VOp} {T:Sl} {h:aB} {K:Sl→aB→Option dZ},vU P call l T h K=some x→∀{Q:Sl→aB→Prop},(∀T h,K T h=some x→Q T h)→nX P l T h Q
 |[],_,_,_,he,_,hq=>hq _ _ he
 |o::R,T,h,K,he,Q,hq=>by
  unfold vU at he;show iJ P o T h _;split at he
  ·rename_i hu;split at he
   ·rename_i y z e1 e2;split at he
    ·rename_i hb;cases he;have:=zt1 hb;subst this;exact jD5 hu (zg1 hc e1 hq) (zg1 hc e2 hq)
    ·cases he
   ·cases he
  ·split at he
   ·rename_i T' h' hg;exact nG hc hg (zg1 hc he hq)
   ·cases he
theorem zt9 (hc:jA P call) {ob:List (Nat×List Nat)}:∀{l:List (Nat×VOp)} {W:List (Nat×VOp×Sl×Sl)} {T:Sl} {h:aB} {T':Sl} {h':aB},yK P call ob l W T h=some (T',h')→∀{K:Sl→aB→Prop},K T' h'→nA P ob l W T h K
 |[],_,_,_,_,_,he,_,hk=>by cases he;exact hk
 |(i,o)::R,W,T,h,T',h',he,K,hk=>by
  unfold yK at he;unfold nA;split at he
  ·rename_i T1 h1 hg;split at he
   ·rename_i hr;rw[if_pos hr];exact nG hc hg (zt9 hc he hk)
   ·rename_i hr;rw[if_neg hr];split at he
    ·rename_i ha;exact nG hc hg ⟨vZ hc ha,zt9 hc he hk⟩
    ·cases he
  ·cases he
theorem yM (hc:jA P call) {ob:List (Nat×List Nat)} {x:dZ}:∀{t:VBT} {W:List (Nat×VOp×Sl×Sl)} {T:Sl} {h:aB} {K:Sl→aB→Option dZ},rN P call ob t W T h K=some x→∀{Q:Sl→aB→Prop},(∀T h,K T h=some x→Q T h)→jO P ob t W T h Q
 |.leaf,_,_,_,_,he,_,hq=>hq _ _ he
 |.no,_,_,_,_,_,_,_=>trivial
 |.ro i o t,W,T,h,K,he,Q,hq=>by
  unfold rN at he;unfold jO;split at he
  ·rename_i T1 h1 hg;exact nG hc hg (yM hc he hq)
  ·cases he
 |.alt j o t r,W,T,h,K,he,Q,hq=>by
  unfold rN at he;unfold jO;split at he
  ·rename_i T1 h1 hg;split at he
   ·rename_i ha;split at he
    ·exact⟨nG hc hg ⟨vZ hc ha,yM hc he hq⟩,trivial⟩
    ·split at he
     ·rename_i y z e1 e2;split at he
      ·rename_i hb;cases he;have:=zt1 hb;subst this;exact⟨nG hc hg ⟨vZ hc ha,yM hc e1 hq⟩,yM hc e2 hq⟩
      ·cases he
     ·cases he
   ·cases he
  ·cases he
theorem yN {h:aB} {ids:List Nat}:∀{T T0:Sl} {seen:List Nat},(∀i v,memN i seen=false→T.lookup i=some v→T0.lookup i=some v)→Sub h ids (vW h ids seen T) T0
 |[],_,_,_=>trivial
 |(i,v)::r,T0,seen,hs=>by
  have memN_cons:∀{j:Nat},memN j (i::seen)=false→memN j seen=false∧j≠i:=by
   intro j hj;simp only[memN,Bool.or_eq_false_iff]at hj;refine⟨hj.2,fun e=>?_⟩;subst e;have:=hj.1;rw[kL0]at this;cases this
  have rest:∀{seen':List Nat},(∀j,memN j seen'=false→memN j seen=false∧j≠i)→∀j u,memN j seen'=false→r.lookup j=some u→T0.lookup j=some u:=by
   intro seen' h' j u hj hu;obtain⟨a,b⟩:=h' j hj;refine hs j u a ?_;rw[kx3];have:(j == i)=false:=by simpa using b
   rw[this];exact hu
  unfold vW;split
  ·rename_i hm;refine yN fun j u hj hu=>?_;refine hs j u hj ?_;rw[kx3];have:(j == i)=false:=by
    simp only[beq_eq_false_iff_ne];rintro rfl;rw[hm]at hj;cases hj
   rw[this];exact hu
  ·rename_i hm;split
   ·rename_i v0 hl;refine⟨?_,yN (rest fun j hj=>memN_cons hj)⟩;rw[hs i v (by simpa using hm) (by simp)];exact⟨v,ko0 v,hl⟩
   ·exact yN (rest fun j hj=>memN_cons hj)
theorem zY2 {n:Nat} {T:Sl} {h:aB} {T0:Sl} {h0:aB} (he:tJ n T h=some (T0,h0)):fG n T h T0 h0:=by
 unfold tJ at he;simp only at he;generalize tH h n (zf7 T)=ids at he;split at he
 ·rename_i hn hh;cases he;simp only[ks2,decide_eq_true_eq]at hn;exact gJ ids h (ko1 h) hn.1 hn.2 hh (yN fun i v _ hi=>hi)
 ·cases he
theorem zY3 {i k:Nat} {v:V}:∀{l:Sl},(yL i v l).lookup k=if k=i then some v else l.lookup k
 |[]=>by
  simp only[yL,kx3,List.lookup_nil];by_cases e:k=i
  ·simp[e]
  ·have:(k == i)=false:=by simpa using e
   simp[this,e]
 |(j,w)::r=>by
  have ih:=@zY3 i k v r;unfold yL;split
  ·rename_i e;have:=iD e;subst this;simp only[kx3];by_cases e:k=i
   ·simp[e]
   ·have:(k == i)=false:=by simpa using e
    simp[this,e]
  ·rename_i e;have hij:i≠j:=by rintro rfl;rw[kL0]at e;cases e
   split
   ·simp only[kx3];by_cases e:k=i
    ·simp[e]
    ·have:(k == i)=false:=by simpa using e
     simp[this,e]
   ·simp only[kx3,ih];by_cases e:k=j
    ·subst e;have hne:¬k=i:=fun e=>hij e.symm;simp[hne]
    ·have:(k == j)=false:=by simpa using e
     simp[this]
theorem zY4 {k:Nat}:∀{T:Sl},(vX T).lookup k=T.lookup k
 |[]=>rfl
 |(i,v)::r=>by
  unfold vX;rw[zY3,kx3,zY4];by_cases e:k=i
  ·simp[e]
  ·have:(k == i)=false:=by simpa using e
   simp[this,e]
theorem jD6 {n:Nat} {T:Sl} {h:aB} {T0:Sl} {h0:aB} (he:tJ n (vX T) h=some (T0,h0)):fG n T h T0 h0:=by
 unfold tJ at he;simp only at he;generalize tH h n (zf7 (vX T))=ids at he;split at he
 ·rename_i hn hh;cases he;simp only[ks2,decide_eq_true_eq]at hn;exact gJ ids h (ko1 h) hn.1 hn.2 hh (yN fun i v _ hi=>by rw[←zY4];exact hi)
 ·cases he
theorem yO {P:Program} {call:eL} (hc:jA P call) {n:Nat} {ob:List (Nat×List Nat)}:∀{t:VBT} {W:List (Nat×VOp×Sl×Sl)} {T:Sl} {h:aB} {T1:Sl} {h1:aB},rO P call n ob t W T h=some (T1,h1)→jO P ob t W T h (fun T' h'=>fG n T' h' T1 h1)
 |.leaf,_,_,_,_,_,he=>jD6 he
 |.no,_,_,_,_,_,_=>trivial
 |.ro i o t,W,T,h,T1,h1,he=>by
  unfold rO at he;unfold jO;split at he
  ·rename_i T2 h2 hg;exact nG hc hg (yO hc he)
  ·cases he
 |.alt j o t r,W,T,h,T1,h1,he=>by
  unfold rO at he;unfold jO;split at he
  ·rename_i T2 h2 hg;split at he
   ·rename_i ha;split at he
    ·exact⟨nG hc hg ⟨vZ hc ha,yO hc he⟩,trivial⟩
    ·split at he
     ·rename_i Ta ha' Tb hb' e1 e2;split at he
      ·rename_i hb;cases he;simp only[ks2]at hb;have e3:=zt4 hb.1;have e4:=zt0 hb.2;subst e3;subst e4;exact⟨nG hc hg ⟨vZ hc ha,yO hc e1⟩,yO hc e2⟩
      ·cases he
     ·cases he
   ·cases he
  ·cases he
theorem jD7 {f:FuncId} {N:Nat} {it:aC} (h:zt5 P f=some (N,it)):xT P f N it:=by
 unfold zt5 at h;split at h
 ·rename_i fn hf;split at h
  ·rename_i c hb;split at h
   ·rename_i hc;cases h;simp only[ks2,List.isEmpty_iff]at hc;exact⟨fn,c,hf,hb,hc.1.1,rfl,hc.1.2,rfl,kv9.1 hc.2⟩
   ·cases h
  ·cases h
 ·cases h
section
variable {x:dZ} {Yv:EvR} {Y:kX} (hY:∀vs h Kv (K:Option VX→aB→Prop),Yv vs h Kv=some x→(∀pd h,Kv pd h=some x→K pd h)→Y vs h K)
include hY
theorem zg2 (hc:jA P call):∀{l:List VOp} {T:Sl} {ys:List Tmp} {h:aB} {pd:Option VX} {Kv:KV},zf8 P call Yv l T ys h pd Kv=some x→∀{K:KO},(∀T ys h pd,Kv T ys h pd=some x→K T ys h pd)→eH P Y l T ys h pd K
 |[],_,_,_,_,_,he,_,hk=>hk _ _ _ _ he
 |o::R,T,ys,h,pd,Kv,he,K,hk=>by
  unfold zf8 zX8 at he;show lP P Y o T ys h pd _;unfold lP;split at he
  ·rename_i d hyo;simp only[hyo];exact zg2 hc he hk
  ·rename_i args hyo;simp only[hyo];split at he
   ·rename_i vs hvs;exact⟨rfl,vs,hvs,hY _ _ _ _ he fun pd' h' he'=>zg2 hc he' hk⟩
   ·cases he
  ·rename_i hyo;simp only[hyo];split at he
   ·rename_i T' h' hg;exact nG hc hg (zg2 hc he hk)
   ·cases he
theorem jD8 (hc:jA P call) {n:Nat}:∀(f:Nat) (c:aC) (Kv:VX→KV) (T:Sl) (ys:List Tmp) (h:aB) (pd:Option VX),evY P call n Yv f c Kv T ys h pd=some x→∀{Q:KY},(∀e T ys h pd,Kv e T ys h pd=some x→Q e T ys h pd)→dY P n Y c Q T ys h pd:=by
 intro f;induction f using kG0 with
 |_ f0 ih0=>
  intro c K T ys h pd he Q hq;cases f0 with
  |zero=>cases he
  |succ f=>
  have ih:=ih0 f (kC2 f);cases c with
  |skip=>exact hq _ _ _ _ _ he
  |ops l=>
   simp only[evY]at he;exact zg2 hY hc he fun _ _ _ _ hk=>hq _ _ _ _ _ hk
  |seq a b=>
   simp only[evY]at he;refine ih a _ T ys h pd he fun e T ys h pd hk=>?_;cases e with
   |normal=>exact ih b K T ys h pd hk hq
   |exit id=>exact hq _ _ _ _ _ hk
   |ret=>exact hq _ _ _ _ _ hk
  |cond c a b=>
   simp only[evY]at he;show iX _ _ _;split at he
   ·rename_i t ho;rw[ho];cases t with
    |true=>exact⟨fun _=>ih a K T ys h pd he hq,fun e=>by cases e⟩
    |false=>exact⟨fun e=>(by cases e),fun _=>ih b K T ys h pd he hq⟩
   ·cases he
  |block id c=>
   simp only[evY]at he;refine ih c _ T ys h pd he fun e T ys h pd hk=>?_;cases e with
   |normal=>exact hq _ _ _ _ _ hk
   |exit id'=>
    show(if id'=id then Q .normal else Q (.exit id')) T ys h pd;simp only at hk;split at hk
    ·rename_i e;rw[if_pos e];exact hq _ _ _ _ _ hk
    ·rename_i e;rw[if_neg e];exact hq _ _ _ _ _ hk
   |ret=>exact hq _ _ _ _ _ hk
  |loop c=>
   let B:Nat→VX→KV:=fun g e T ys h pd=>match e with
    |.normal=>evY P call n Yv g (.loop c) K T ys h pd
    |e=>K e T ys h pd
   have start:∀(g:Nat) (T:Sl) (ys:List Tmp) (h:aB) (pd:Option VX),evY P call n Yv (g+1) (.loop c) K T ys h pd=some x→∃T0 h0,fG n T h T0 h0∧evY P call n Yv g c (B g) T0 ys h0 pd=some x:=by
    intro g T ys h pd hg;simp only[evY]at hg;split at hg
    ·rename_i T0 h0 hk;exact⟨T0,h0,zY2 hk,hg⟩
    ·cases hg
   obtain⟨T0,h0,hk,hv⟩:=start f T ys h pd he;refine⟨fun g T ys h pd=>g≤f∧evY P call n Yv g c (B g) T ys h pd=some x,⟨f,T0,h0,hk,ks0 _,hv⟩,?_⟩;rintro g T ys h pd ⟨hg,hv⟩;refine ih0 g (kJ3 hg) c (B g) T ys h pd hv fun e T ys h pd hk=>?_;cases e with
   |normal=>
    cases g with
    |zero=>cases hk
    |succ m=>
     obtain⟨T1,h1,k1,v1⟩:=start m T ys h pd hk;exact⟨m,T1,h1,kC2 m,k1,by omega,v1⟩
   |exit id=>exact hq _ _ _ _ _ hk
   |ret=>exact hq _ _ _ _ _ hk
  |exit id=>exact hq _ _ _ _ _ he
  |ret=>exact hq _ _ _ _ _ he
  |_=>cases he
end
theorem yP (hc:jA P call) {x:dZ}:∀(f:Nat) {n:Nat} (c:aC) (K:VX→Sl→aB→Option dZ) (T:Sl) (h:aB),ev P call n f c K T h=some x→∀{Q:VX→Sl→aB→Prop},(∀e T h,K e T h=some x→Q e T h)→vwp P n c Q T h:=by
 intro f;induction f using kG0 with
 |_ f0 ih0=>
  intro n c K T h he Q hq;cases f0 with
  |zero=>cases he
  |succ f=>
  have ih:=@ih0 f (kC2 f);cases c with
  |skip=>exact hq _ _ _ he
  |ops l=>
   simp only[ev]at he;exact zg1 hc he fun T h hk=>hq _ _ _ hk
  |opsW l ob=>
   simp only[ev]at he;split at he
   ·rename_i T' h' ho;exact zt9 hc ho (hq _ _ _ he)
   ·cases he
  |opsB t ob=>
   simp only[ev]at he;exact yM hc he fun T h hk=>hq _ _ _ hk
  |opsK t ob=>
   simp only[ev]at he;split at he
   ·rename_i T' h' ho;exact rJ (fun T h hk=>⟨_,_,hk,hq _ _ _ he⟩) (yO hc ho)
   ·cases he
  |both a b=>
   simp only[ev]at he;split at he
   ·rename_i y z h1 h2;split at he
    ·rename_i hb;cases he;have:=zt1 hb;subst this;exact⟨ih a K T h h1 hq,ih b K T h h2 hq⟩
    ·cases he
   ·cases he
  |seq a b=>
   simp only[ev]at he;refine ih a _ T h he fun e T h hk=>?_;cases e with
   |normal=>exact ih b K T h hk hq
   |exit id=>exact hq _ _ _ hk
   |ret=>exact hq _ _ _ hk
  |cond c a b=>
   simp only[ev]at he;show iX _ _ _;split at he
   ·rename_i t ho;rw[ho];cases t with
    |true=>exact⟨fun _=>ih a K T h he hq,fun e=>by cases e⟩
    |false=>exact⟨fun e=>(by cases e),fun _=>ih b K T h he hq⟩
   ·cases he
  |block id c=>
   simp only[ev]at he;refine ih c _ T h he fun e T h hk=>?_;cases e with
   |normal=>exact hq _ _ _ hk
   |exit id'=>
    show if id'=id then Q .normal T h else Q (.exit id') T h
    simp only at hk;split at hk
    ·rename_i e;rw[if_pos e];exact hq _ _ _ hk
    ·rename_i e;rw[if_neg e];exact hq _ _ _ hk
   |ret=>exact hq _ _ _ hk
  |loop c=>
   let B:Nat→VX→Sl→aB→Option dZ:=fun g e T h=>match e with
    |.normal=>ev P call n g (.loop c) K T h
    |e=>K e T h
   have start:∀(g:Nat) (T:Sl) (h:aB),ev P call n (g+1) (.loop c) K T h=some x→∃T0 h0,fG n T h T0 h0∧ev P call n g c (B g) T0 h0=some x:=by
    intro g T h hg;simp only[ev]at hg;split at hg
    ·rename_i T0 h0 hk;exact⟨T0,h0,zY2 hk,hg⟩
    ·cases hg
   obtain⟨T0,h0,hk,hv⟩:=start f T h he;refine⟨fun g T h=>g≤f∧ev P call n g c (B g) T h=some x,⟨f,T0,h0,hk,ks0 _,hv⟩,?_⟩;rintro g T h ⟨hg,hv⟩;refine ih0 g (kJ3 hg) c (B g) T h hv fun e T h hk=>?_;cases e with
   |normal=>
    cases g with
    |zero=>cases hk
    |succ m=>
     obtain⟨T1,h1,k1,v1⟩:=start m T h hk;exact⟨m,T1,h1,kC2 m,k1,by omega,v1⟩
   |exit id=>exact hq _ _ _ hk
   |ret=>exact hq _ _ _ hk
  |exit id=>exact hq _ _ _ he
  |ret=>exact hq _ _ _ he
  |bad=>cases he
  |rangeF g ps a b=>
   simp only[ev]at he;split at he
   ·rename_i g' caps hg;split at he
    ·rename_i hcap;split at he
     ·rename_i N it hit;split at he
      ·rename_i hlt;refine⟨g',caps,N,it,hg,hcap,jD7 hit,hlt,jD8 (fun vs h Kv K' he' hk'=>?_) hc f it _ _ _ _ _ he fun e T' ys' h' pd' hk=>?_⟩
       ·split at he'
        ·rename_i hl;refine⟨hl,ih a _ _ _ he' fun e T h hk=>?_⟩;cases e with
         |normal=>
          refine ih b _ _ _ hk fun e T h hk=>?_;cases e with
          |normal=>exact hk' _ _ hk
          |exit id=>exact hk' _ _ hk
          |ret=>exact hk' _ _ hk
         |exit id=>cases hk
         |ret=>cases hk
        ·cases he'
       ·cases e with
        |exit id=>cases hk
        |normal=>cases pd'<;>exact hq _ _ _ hk
        |ret=>cases pd'<;>exact hq _ _ _ hk
      ·cases he
     ·cases he
    ·cases he
   ·cases he
theorem zu0 {n:Nat} {rs:List ResultVar} {r:V} {h0:aB} {Post:V→aB→Prop} (hp:Post r h0) {e:VX} {T:Sl} {h:aB} (he:vY P n rs e T h=some (r,h0)):oW P n rs Post e T h:=by
 cases e with
 |exit id=>cases he
 |normal=>
  simp only[vY]at he;split at he
  ·rename_i vs hv;exact⟨vs,[],h,dA vs,h,_,r,h0,hv,rfl,ko0 _,ko1 _,he,hp⟩
  ·cases he
 |ret=>
  simp only[vY]at he;split at he
  ·rename_i vs hv;exact⟨vs,[],h,dA vs,h,_,r,h0,hv,rfl,ko0 _,ko1 _,he,hp⟩
  ·cases he
theorem zY5 (l:L):WkL l (zf9 l):=by
 unfold zf9;split
 ·exact .inr (.inl ⟨rfl,rfl⟩)
 ·exact .inl rfl
theorem zY6:∀ls:List L,iV ls (zt6 ls)
 |[]=>trivial
 |l::r=>⟨zY5 l,zY6 r⟩
mutual
theorem zu1:∀v:V,WkV v (pS v)
 |.one l=>by unfold pS WkV;exact zY5 l
 |.agg ls=>by unfold pS WkV;exact zY6 ls
 |.tup vs=>by unfold pS WkV;exact zY7 vs
theorem zY7:∀vs:List V,WkV.all vs (zt7 vs)
 |[]=>trivial
 |v::r=>⟨zu1 v,zY7 r⟩
end
theorem jD9 {n:Nat} {rs:List ResultVar} {r:V} {h0:aB} {Post:V→aB→Prop} (hp:Post r h0) {e:VX} {T:Sl} {h:aB} (he:zg0 P n rs e T h=some (r,h0)):oW P n rs Post e T h:=by
 cases e with
 |exit id=>cases he
 |normal=>
  simp only[zg0]at he;split at he
  ·rename_i vs hv;exact⟨vs,[],h,pS (dA vs),h,_,r,h0,hv,rfl,zu1 _,ko1 _,he,hp⟩
  ·cases he
 |ret=>
  simp only[zg0]at he;split at he
  ·rename_i vs hv;exact⟨vs,[],h,pS (dA vs),h,_,r,h0,hv,rfl,zu1 _,ko1 _,he,hp⟩
  ·cases he
def zu2 (P:Program) (tbl:Tbl):Prop:=∀f N vc rs,tbl f=some (N,vc,rs)→aJ P f N vc rs
end Go.Vt
