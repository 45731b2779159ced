import Derived.Test.YtdabfkmhkoppcaaGreatDoorVtSimp
set_option linter.all false
open Array renaming toList_inj→kk0
open Bool renaming and_eq_true→kf8,false_eq_true→kl5
open List renaming lookup_cons→kl1,range→kh4
open Nat renaming beq_refl→ky4,beq→kl2,le_refl→kf2,lt_succ_of_le→kw8,lt_succ_self→kp7,strongRecOn→kt4
namespace Go.Vt
def zn9 (a b:ByteArray):Bool:=a.data.toList == b.data.toList
theorem jv2 {a b:ByteArray} (h:zn9 a b=true):a=b:=by
 unfold zn9 at h;have:=eq_of_beq h;cases a;cases b;simp only at this
 congr
 exact kk0.1 this
mutual
def qI:D→D→Bool
 |.bool a,.bool b=>a == b
 |.int k n,.int k' n'=>decide (k=k')&&decide (n=n')
 |.str a,.str b=>zn9 a b
 |.sl xs,.sl ys=>uB xs ys
 |.nilp,.nilp=>true
 |_,_=>false
def uB:List (List D)→List (List D)→Bool
 |[],[]=>true
 |x::r,y::s=>uC x y&&uB r s
 |_,_=>false
def uC:List D→List D→Bool
 |[],[]=>true
 |x::r,y::s=>qI x y&&uC r s
 |_,_=>false
end
mutual
theorem zR1:∀{x y:D},qI x y=true→x=y
 |.bool a,y,h=>by cases y<;>simp[qI]at h;subst h;rfl
 |.int k n,y,h=>by cases y<;>simp[qI]at h;obtain⟨rfl,rfl⟩:=h;rfl
 |.str a,y,h=>by cases y<;>simp[qI]at h;rw[jv2 h]
 |.sl xs,y,h=>by cases y<;>simp[qI]at h;rw[zo0 h]
 |.nilp,y,h=>by cases y<;>simp[qI]at h;rfl
theorem zo0:∀{x y:List (List D)},uB x y=true→x=y
 |[],y,h=>by cases y<;>simp[uB]at h;rfl
 |x::r,y,h=>by cases y<;>simp[uB]at h;rw[zo1 h.1,zo0 h.2]
theorem zo1:∀{x y:List D},uC x y=true→x=y
 |[],y,h=>by cases y<;>simp[uC]at h;rfl
 |x::r,y,h=>by cases y<;>simp[uC]at h;rw[zR1 h.1,zo1 h.2]
end
mutual
def jO:L→L→Bool
 |.d x,.d y=>qI x y
 |.nils,.nils=>true
 |.own a b c,.own a' b' c'=>kl2 a a'&&kl2 b b'&&kl2 c c'
 |.ptr a b,.ptr a' b'=>kl2 a a'&&kl2 b b'
 |.ept a b c d,.ept a' b' c' d'=>kl2 a a'&&kl2 b b'&&kl2 c c'&&kl2 d d'
 |.ref x,.ref y=>uC x y
 |.fn f x,.fn g y=>kl2 f g&&qJ x y
 |.nilf,.nilf=>true
 |.any,.any=>true
 |.bsl a b c,.bsl a' b' c'=>kl2 a a'&&kl2 b b'&&kl2 c c'
 |.osl a b c d,.osl a' b' c' d'=>kl2 a a'&&kl2 b b'&&kl2 c c'&&kl2 d d'
 |.nili,.nili=>true
 |.fb f x,.fb g y=>kl2 f g&&qJ x y
 |_,_=>false
def qJ:List L→List L→Bool
 |[],[]=>true
 |x::r,y::s=>jO x y&&qJ r s
 |_,_=>false
end
theorem gD {a b:Nat} (h:kl2 a b=true):a=b:=Nat.eq_of_beq_eq_true h
mutual
theorem zR2:∀{x y:L},jO x y=true→x=y
 |.d a,y,h=>by cases y<;>simp[jO]at h;rw[zR1 h]
 |.nils,y,h=>by cases y<;>simp[jO]at h;rfl
 |.own a b c,y,h=>by
  cases y<;>simp only[jO,kf8,kl5]at h
  obtain⟨⟨h1,h2⟩,h3⟩:=h;rw[gD h1,gD h2,gD h3]
 |.ptr a b,y,h=>by
  cases y<;>simp only[jO,kf8,kl5]at h
  obtain⟨h1,h2⟩:=h;rw[gD h1,gD h2]
 |.ept a b c d,y,h=>by
  cases y<;>simp only[jO,kf8,kl5]at h
  obtain⟨⟨⟨h1,h2⟩,h3⟩,h4⟩:=h;rw[gD h1,gD h2,gD h3,gD h4]
 |.ref a,y,h=>by cases y<;>simp[jO]at h;rw[zo1 h]
 |.fn f a,y,h=>by
  cases y<;>simp only[jO,kf8,kl5]at h
  obtain⟨h1,h2⟩:=h;rw[gD h1,wU h2]
 |.nilf,y,h=>by cases y<;>simp[jO]at h;rfl
 |.any,y,h=>by cases y<;>simp[jO]at h;rfl
 |.bsl a b c,y,h=>by
  cases y<;>simp only[jO,kf8,kl5]at h
  obtain⟨⟨h1,h2⟩,h3⟩:=h;rw[gD h1,gD h2,gD h3]
 |.osl a b c d,y,h=>by
  cases y<;>simp only[jO,kf8,kl5]at h
  obtain⟨⟨⟨h1,h2⟩,h3⟩,h4⟩:=h;rw[gD h1,gD h2,gD h3,gD h4]
 |.nili,y,h=>by cases y<;>simp[jO]at h;rfl
 |.fb f a,y,h=>by
  cases y<;>simp only[jO,kf8,kl5]at h
  obtain⟨h1,h2⟩:=h;rw[gD h1,wU h2]
theorem wU:∀{x y:List L},qJ x y=true→x=y
 |[],y,h=>by cases y<;>simp[qJ]at h;rfl
 |x::r,y,h=>by cases y<;>simp[qJ]at h;rw[zR2 h.1,wU h.2]
end
mutual
def rW:V→V→Bool
 |.one a,.one b=>jO a b
 |.agg a,.agg b=>qJ a b
 |.tup a,.tup b=>wV a b
 |_,_=>false
def wV:List V→List V→Bool
 |[],[]=>true
 |x::r,y::s=>rW x y&&wV r s
 |_,_=>false
end
mutual
theorem zo2:∀{x y:V},rW x y=true→x=y
 |.one a,y,h=>by cases y<;>simp[rW]at h;rw[zR2 h]
 |.agg a,y,h=>by cases y<;>simp[rW]at h;rw[wU h]
 |.tup a,y,h=>by cases y<;>simp[rW]at h;rw[zR3 h]
theorem zR3:∀{x y:List V},wV x y=true→x=y
 |[],y,h=>by cases y<;>simp[wV]at h;rfl
 |x::r,y,h=>by cases y<;>simp[wV]at h;rw[zo2 h.1,zR3 h.2]
end
def zo3:aN→aN→Bool
 |.bx t a,.bx t' b=>decide (t=t')&&qJ a b
 |.ar t f s v x,.ar t' f' s' v' x'=>decide (t=t')&&(f == f')&&kl2 s s'&&kl2 v v'&&uB x x'
 |.dead,.dead=>true
 |_,_=>false
theorem jv3 {x y:aN} (h:zo3 x y=true):x=y:=by
 cases x<;>cases y<;>simp only[zo3,kf8,kl5]at h
 ·obtain⟨h0,h⟩:=h;rw[wU h,of_decide_eq_true h0]
 ·obtain⟨⟨⟨⟨h0,h1⟩,h2⟩,h3⟩,h4⟩:=h;rw[of_decide_eq_true h0,eq_of_beq h1,gD h2,gD h3,zo0 h4]
 ·rfl
def uD:aB→aB→Bool
 |[],[]=>true
 |x::r,y::s=>zo3 x y&&uD r s
 |_,_=>false
theorem zo4:∀{x y:aB},uD x y=true→x=y
 |[],y,h=>by cases y<;>simp[uD]at h;rfl
 |x::r,y,h=>by cases y<;>simp[uD]at h;rw[jv3 h.1,zo4 h.2]
abbrev eA:=V×aB
def wW (x y:eA):Bool:=rW x.1 y.1&&uD x.2 y.2
theorem zo5 {x y:eA} (h:wW x y=true):x=y:=by
 simp only[wW,kf8]at h;exact Prod.ext (zo2 h.1) (zo4 h.2)
mutual
def zR4:L→List Nat
 |.own id _ _=>[id]
 |.ptr id _=>[id]
 |.ept id _ _ _=>[id]
 |.fn _ caps=>wX caps
 |.fb _ caps=>wX caps
 |.bsl id _ _=>[id]
 |.osl id _ _ _=>[id]
 |_=>[]
def wX:List L→List Nat
 |[]=>[]
 |l::r=>zR4 l++wX r
end
mutual
def zb4:V→List Nat
 |.one l=>zR4 l
 |.agg ls=>wX ls
 |.tup vs=>zb5 vs
def zb5:List V→List Nat
 |[]=>[]
 |v::r=>zb4 v++zb5 r
end
def jv4:aN→List Nat
 |.bx _ ls=>wX ls
 |_=>[]
def memN (x:Nat):List Nat→Bool
 |[]=>false
 |y::r=>kl2 x y||memN x r
def zb6 (h:aB):Nat→List Nat→List Nat→List Nat
 |0,acc,_=>acc.reverse
 |_,acc,[]=>acc.reverse
 |f+1,acc,x::r=>if memN x acc then zb6 h f acc r else match h[x]? with
  |some o=>zb6 h f (x::acc) (r++jv4 o)
  |none=>zb6 h f acc r
def rX (h:aB) (n:Nat) (roots:List Nat):List Nat:=zb6 h 100000 [] (kh4 n++roots)
abbrev eK:=FuncId→List V→aB→Option eA
def zb7 (call:eK) (f:FuncId) (avs:List V) (h:aB):Option eA:=
 let ids:=rX h 0 (zb5 avs)
 match bK ids,cL h ids avs,bB h (idx ids) ids with
 |true,some avs',some hs=>match call f avs' hs with
  |some (r,hs')=>lE h ids (dK ids avs) r hs'
  |none=>none
 |_,_,_=>none
def zo6 (P:Program) (call:eK) (T:Sl) (h:aB) (op:Op):Option eA:=
 match op with
 |.call { callee:=.value f,args,.. }=>match opd T f,eO T args.toList with
  |some (.one (.fn f caps)),some vs=>if caps.all (dX h)=true then zb7 call f (vs++caps.map .one) h else none
  |some (.one (.fb f fst)),some vs=>if fst.all (dX h)=true then zb7 call f (fst.map .one++(vs++[])) h else none
  |_,_=>none
 |.binOp op t x (.const (.slice none 0 0)) _=>match ti P t,opd T x with
  |some i,some (.one l)=>match i.kd,op,l with
   |.slice,.eql,.nils=>some (.one (.d (.bool true)),h)
   |.slice,.neq,.nils=>some (.one (.d (.bool false)),h)
   |.slice,.eql,.d (.sl (_::_))=>some (.one (.d (.bool false)),h)
   |.slice,.neq,.d (.sl (_::_))=>some (.one (.d (.bool true)),h)
   |.slice,op,.own id ver (_+1)=>match h[id]? with
    |some (.ar ty _ _ ver' _)=>if ver'=ver then (match op with
     |.eql=>some (.one (.d (.bool false)),h)
     |.neq=>some (.one (.d (.bool true)),h)
     |_=>none)else none
    |_=>none
   |_,_,_=>none
  |_,_=>none
 |_=>none
def zb8 (P:Program) (call:eK) (T:Sl) (h:aB) (op:Op):Option eA:=
 match vop P T h { dst:=none,op,type:=0,pos:="",after:=#[],guard:=none } with
 |some x=>some x
 |none=>match eI P T h { dst:=none,op,type:=0,pos:="",after:=#[],guard:=none } with
  |some x=>some x
  |none=>zo6 P call T h op
def nC (P:Program) (call:eK) (o:VOp) (T:Sl) (h:aB):Option (Sl×aB):=match o.g with
 |none=>match zb8 P call T h o.op with
  |some (v,h')=>some (bP T o.dst v,h')
  |none=>none
 |some (some d,want)=>match qB (T.lookup d)with
  |some b=>if b=some want then (match zb8 P call T h o.op with
   |some (v,h')=>some (bP T o.dst v,h')
   |none=>none)else some (bP T o.dst rP,h)
  |none=>none
 |some (none,_)=>none
def zb9 (P:Program) (call:eK):List VOp→Sl→aB→Option (Sl×aB)
 |[],T,h=>some (T,h)
 |o::R,T,h=>match nC P call o T h with
  |some (T',h')=>zb9 P call R T' h'
  |none=>none
def zo7 (P:Program) (T:Sl) (h:aB) (o:VOp):Bool:=match o.g,o.op with
 |none,.binOp op t x (.const (.slice none 0 0)) _=>match ti P t,opd T x with
  |some i,some (.one (.d (.sl [])))=>match i.kd,op with
   |.slice,.eql=>true
   |.slice,.neq=>true
   |_,_=>false
  |some i,some (.one (.own id ver 0))=>match i.kd,h[id]? with
   |.slice,some (.ar _ _ _ ver' _)=>if ver'=ver then (match op with
    |.eql=>true
    |.neq=>true
    |_=>false)else false
   |_,_=>false
  |_,_=>false
 |_,_=>false
def uE (P:Program) (call:eK):List VOp→Sl→aB→(Sl→aB→Option eA)→Option eA
 |[],T,h,K=>K T h
 |o::R,T,h,K=>match zo7 P T h o with
  |true=>match uE P call R (bP T o.dst (.one (.d (.bool true)))) h K,uE P call R (bP T o.dst (.one (.d (.bool false)))) h K with
   |some x,some y=>if wW x y=true then some x else none
   |_,_=>none
  |false=>match nC P call o T h with
   |some (T',h')=>uE P call R T' h' K
   |none=>none
def rY:Sl→Sl→Bool
 |[],[]=>true
 |(i,x)::r,(j,y)::s=>kl2 i j&&rW x y&&rY r s
 |_,_=>false
theorem zo8:∀{x y:Sl},rY x y=true→x=y
 |[],y,h=>by cases y<;>simp[rY]at h;rfl
 |(i,x)::r,y,h=>by
  cases y with
  |nil=>simp[rY]at h
  |cons y s=>
   obtain⟨j,y⟩:=y;simp only[rY,kf8]at h;rw[gD h.1.1,zo2 h.1.2,zo8 h.2]
def uF (P:Program) (call:eK) (is:List Nat) (h:aB):List (Nat×VOp×Sl×Sl)→Bool
 |[]=>true
 |(i,o,T,T')::W=>(if i∈is then (match nC P call o T h with
  |some (T2,_)=>rY T2 T'
  |none=>false)else true)&&uF P call is h W
def wY (P:Program) (call:eK) (ob:List (Nat×List Nat)):List (Nat×VOp)→List (Nat×VOp×Sl×Sl)→Sl→aB→Option (Sl×aB)
 |[],_,T,h=>some (T,h)
 |(i,o)::R,W,T,h=>match nC P call o T h with
  |some (T',h')=>if ro o.op=true then wY P call ob R (if ob.any (fun x=>x.2.contains i)then (i,o,T,T')::W else W) T' h'
   else if uF P call (gA ob i) h' W=true then wY P call ob R W T' h' else none
  |none=>none
def qK (P:Program) (call:eK) (ob:List (Nat×List Nat)):VBT→List (Nat×VOp×Sl×Sl)→Sl→aB→(Sl→aB→Option eA)→Option eA
 |.leaf,_,T,h,K=>K T h
 |.no,_,_,_,_=>none
 |.ro i o t,W,T,h,K=>match nC P call o T h with
  |some (T',h')=>qK P call ob t (if ob.any (fun x=>x.2.contains i)then (i,o,T,T')::W else W) T' h' K
  |none=>none
 |.alt j o t r,W,T,h,K=>match nC P call o T h with
  |some (T',h')=>if uF P call (gA ob j) h' W=true then (match r with
   |.no=>qK P call ob t W T' h' K
   |r=>match qK P call ob t W T' h' K,qK P call ob r W T h K with
    |some x,some y=>if wW x y=true then some x else none
    |_,_=>none)else none
  |none=>none
def uG (h:aB) (ids:List Nat):List Nat→Sl→Sl
 |_,[]=>[]
 |seen,(i,v)::r=>if memN i seen then uG h ids seen r else match bR h ids v with
  |some v0=>(i,v0)::uG h ids (i::seen) r
  |none=>uG h ids (i::seen) r
def zc0:Sl→List Nat
 |[]=>[]
 |(_,v)::r=>zb4 v++zc0 r
def rZ (n:Nat) (T:Sl) (h:aB):Option (Sl×aB):=
 let ids:=rX h n (zc0 T)
 match bK ids&&decide (ids.take n=kh4 n),bB h (idx ids) ids with
 |true,some h0=>some (uG h ids [] T,h0)
 |_,_=>none
def wZ (i:Nat) (v:V):Sl→Sl
 |[]=>[(i,v)]
 |(j,w)::r=>match kl2 i j with
  |true=>(i,v)::r
  |false=>match Nat.blt i j with
   |true=>(i,v)::(j,w)::r
   |false=>(j,w)::wZ i v r
def uH:Sl→Sl
 |[]=>[]
 |(i,v)::r=>wZ i v (uH r)
def qL (P:Program) (call:eK) (n:Nat) (ob:List (Nat×List Nat)):VBT→List (Nat×VOp×Sl×Sl)→Sl→aB→Option (Sl×aB)
 |.leaf,_,T,h=>rZ n (uH T) h
 |.no,_,_,_=>none
 |.ro i o t,W,T,h=>match nC P call o T h with
  |some (T',h')=>qL P call n ob t (if ob.any (fun x=>x.2.contains i)then (i,o,T,T')::W else W) T' h'
  |none=>none
 |.alt j o t r,W,T,h=>match nC P call o T h with
  |some (T',h')=>if uF P call (gA ob j) h' W=true then (match r with
   |.no=>qL P call n ob t W T' h'
   |r=>match qL P call n ob t W T' h',qL P call n ob r W T h with
    |some (T1,h1),some (T2,h2)=>if (rY T1 T2&&uD h1 h2)=true then some (T1,h1)else none
    |_,_=>none)else none
  |none=>none
def zo9 (P:Program) (f:FuncId):Option (Nat×aC):=match P.funcs[f]? with
 |some fn=>match fn.body with
  |some c=>if jY P f&&lW fn.ntmps c&&fn.results.toList.isEmpty then some (fn.ntmps,aP [] c)else none
  |none=>none
 |none=>none
abbrev KV:=Sl→List Tmp→aB→Option VX→Option eA
abbrev EvR:=List V→aB→(Option VX→aB→Option eA)→Option eA
def zR5 (P:Program) (call:eK) (Y:EvR) (o:VOp) (T:Sl) (ys:List Tmp) (h:aB) (pd:Option VX) (K:KV):Option eA:=
 match yop o ys with
 |.mv d=>K ((d,.one .any)::T) (d::ys) h pd
 |.yl args=>match pd,eO T args with
  |none,some vs=>Y vs h fun pd' h'=>K (bP T o.dst (.one (.d (.bool pd'.isNone)))) (iJ o.dst ys) h' pd'
  |_,_=>none
 |.no=>match nC P call o T h with
  |some (T',h')=>K T' (iJ o.dst ys) h' pd
  |none=>none
def zc1 (P:Program) (call:eK) (Y:EvR):List VOp→Sl→List Tmp→aB→Option VX→KV→Option eA
 |[],T,ys,h,pd,K=>K T ys h pd
 |o::R,T,ys,h,pd,K=>zR5 P call Y o T ys h pd fun T' ys' h' pd'=>zc1 P call Y R T' ys' h' pd' K
def evY (P:Program) (call:eK) (n:Nat) (Y:EvR):Nat→aC→(VX→KV)→KV
 |0,_,_,_,_,_,_=>none
 |f+1,c,K,T,ys,h,pd=>match c with
  |.skip=>K .normal T ys h pd
  |.ops l=>zc1 P call Y l T ys h pd (K .normal)
  |.seq a b=>evY P call n Y f a (fun e T ys h pd=>match e with
   |.normal=>evY P call n Y f b K T ys h pd
   |e=>K e T ys h pd) T ys h pd
  |.cond c a b=>match opd T c with
   |some (.one (.d (.bool t)))=>match t with
    |true=>evY P call n Y f a K T ys h pd
    |false=>evY P call n Y f b K T ys h pd
   |_=>none
  |.block id c=>evY P call n Y f c (fun e T ys h pd=>match e with
   |.exit id'=>if id'=id then K .normal T ys h pd else K (.exit id') T ys h pd
   |e=>K e T ys h pd) T ys h pd
  |.loop c=>match rZ n T h with
   |some (T0,h0)=>evY P call n Y f c (fun e T ys h pd=>match e with
    |.normal=>evY P call n Y f (.loop c) K T ys h pd
    |e=>K e T ys h pd) T0 ys h0 pd
   |none=>none
  |.exit id=>K (.exit id) T ys h pd
  |.ret=>K .ret T ys h pd
  |_=>none
def ev (P:Program) (call:eK) (n:Nat):Nat→aC→(VX→Sl→aB→Option eA)→Sl→aB→Option eA
 |0,_,_,_,_=>none
 |f+1,c,K,T,h=>match c with
  |.skip=>K .normal T h
  |.ops l=>uE P call l T h (K .normal)
  |.opsW l ob=>match wY P call ob l [] T h with
   |some (T',h')=>K .normal T' h'
   |none=>none
  |.opsB t ob=>qK P call ob t [] T h (K .normal)
  |.opsK t ob=>match qL P call n ob t [] T h with
   |some (T',h')=>K .normal T' h'
   |none=>none
  |.both a b=>match ev P call n f a K T h,ev P call n f b K T h with
   |some x,some y=>if wW x y=true then some x else none
   |_,_=>none
  |.seq a b=>ev P call n f a (fun e T h=>match e with
   |.normal=>ev P call n f b K T h
   |e=>K e T h) T h
  |.cond c a b=>match opd T c with
   |some (.one (.d (.bool t)))=>match t with
    |true=>ev P call n f a K T h
    |false=>ev P call n f b K T h
   |_=>none
  |.block id c=>ev P call n f c (fun e T h=>match e with
   |.exit id'=>if id'=id then K .normal T h else K (.exit id') T h
   |e=>K e T h) T h
  |.loop c=>match rZ n T h with
   |some (T0,h0)=>ev P call n f c (fun e T h=>match e with
    |.normal=>ev P call n f (.loop c) K T h
    |e=>K e T h) T0 h0
   |none=>none
  |.exit id=>K (.exit id) T h
  |.ret=>K .ret T h
  |.bad=>none
  |.rangeF g ps x y=>match opd T g with
   |some (.one (.fn g' caps))=>if caps.all (dX h)=true then (match zo9 P g' with
    |some (N,it)=>if caps.length<N then evY P call h.length (fun vs h1 K'=>if vs.length=ps.length then ev P call h1.length f x (fun e T' h'=>match e with
      |.normal=>ev P call h'.length f y (fun e _ h'=>match e with
       |.normal=>K' none h'
       |e=>K' (some e) h') T' h'
      |_=>none) (lZ ps vs T) h1 else none) f it (fun e _ _ h' pd=>match e with
       |.exit _=>none
       |_=>match pd with
        |none=>K .normal T h'
        |some e=>K e T h') ((0,.one .any)::tR 1 caps) [0] h none else none
    |none=>none)else none
   |_=>none
def uI (P:Program) (n:Nat) (rs:List ResultVar):VX→Sl→aB→Option eA
 |.exit _,_,_=>none
 |_,T,h=>match cX P T h rs with
  |some vs=>fin n (rX h n (zb4 (cM vs))) h (cM vs)
  |none=>none
abbrev Tbl:=FuncId→Option (Nat×aC×List ResultVar)
def zc2:L→L
 |.nils=>.d (.sl [])
 |l=>l
def zp0:List L→List L
 |[]=>[]
 |l::r=>zc2 l::zp0 r
mutual
def pD:V→V
 |.one l=>.one (zc2 l)
 |.agg ls=>.agg (zp0 ls)
 |.tup vs=>.tup (zp1 vs)
def zp1:List V→List V
 |[]=>[]
 |v::r=>pD v::zp1 r
end
def zp2:List Nat→aB→List Nat
 |[],_=>[]
 |i::r,h=>match h[i]? with
  |some (.ar _ _ _ _ _)=>zp2 r h
  |_=>i::zp2 r h
def zc3 (P:Program) (n:Nat) (rs:List ResultVar):VX→Sl→aB→Option eA
 |.exit _,_,_=>none
 |_,T,h=>match cX P T h rs with
  |some vs=>fin n (rX h n (zp2 (zb4 (pD (cM vs))) h)) h (pD (cM vs))
  |none=>none
variable {P:Program} {call:eK}
def iD (P:Program) (call:eK):Prop:=∀f avs h r h',call f avs h=some (r,h')→VC P f avs h fun r' h''=>r'=r∧h''=h'
theorem zR6 (hc:iD P call) {f:FuncId} {avs:List V} {h:aB} {v:V} {h':aB} (he:zb7 call f avs h=some (v,h')) {K:V→aB→Prop} (hk:K v h'):rN P f avs h K:=by
 unfold zb7 at he;simp only at he;generalize rX h 0 (zb5 avs)=ids at he;split at he
 ·rename_i avs' hs hn hl hh;split at he
  ·rename_i r hs' hcall;exact⟨[],h,avs,h,rfl,kc4 _,kb5 _,ids,avs',hs,_,hn,hl,hh,hc _ _ _ _ _ hcall,fun r' hs'' ⟨e1,e2⟩=>by subst e1;subst e2;exact⟨v,h',he,hk⟩⟩
  ·cases he
 ·cases he
theorem jv5 (hc:iD P call) {T:Sl} {h:aB} {op:Op} {v:V} {h':aB} (he:zo6 P call T h op=some (v,h')) {K:V→aB→Prop} (hk:K v h'):cP P T h { dst:=none,op,type:=0,pos:="",after:=#[],guard:=none } K:=by
 unfold zo6 at he;split at he
 ·rename_i f args _;unfold cP;simp only;split at he
  ·rename_i f' caps vs h1 h2;split at he
   ·rename_i hcap;simp only[h1,h2];exact⟨hcap,zR6 hc he hk⟩
   ·cases he
  ·rename_i f' caps vs h1 h2;split at he
   ·rename_i hcap;simp only[h1,h2];exact⟨hcap,zR6 hc he hk⟩
   ·cases he
  ·cases he
 ·rename_i bop t x _;unfold cP;simp only;split at he
  ·rename_i i l h1 h2;simp only[h1,h2];split at he
   ·rename_i hkd;cases he;rw[hkd];exact hk
   ·rename_i hkd;cases he;rw[hkd];exact hk
   ·rename_i hkd;cases he;rw[hkd];intro b hb;cases b with|true=>cases hb rfl|false=>exact hk
   ·rename_i hkd;cases he;rw[hkd];intro b hb;cases b with|true=>cases hb rfl|false=>exact hk
   ·rename_i id ver len hkd;split at he
    ·rename_i fz sz ver' xs hid;split at he
     ·rename_i hv;split at he
      ·cases he;rw[hkd];simp only[kC,hid];exact⟨hv,fun b hb=>by cases b with|true=>cases hb rfl|false=>exact hk⟩
      ·cases he;rw[hkd];simp only[kC,hid];exact⟨hv,fun b hb=>by cases b with|true=>cases hb rfl|false=>exact hk⟩
      ·cases he
     ·cases he
    ·cases he
   ·cases he
  ·cases he
 ·cases he
theorem zR7 (hc:iD P call) {T:Sl} {h:aB} {op:Op} {v:V} {h':aB} (he:zb8 P call T h op=some (v,h')) {K:V→aB→Prop} (hk:K v h'):lG P T h op K:=by
 unfold zb8 at he;unfold lG eZ;split at he
 ·rename_i x hx;cases he;rw[hx];exact hk
 ·rename_i hx;rw[hx];split at he
  ·rename_i x hm;cases he;rw[hm];exact hk
  ·rename_i hm;rw[hm];exact jv5 hc he hk
theorem mG (hc:iD P call) {o:VOp} {T:Sl} {h:aB} {T':Sl} {h':aB} (he:nC P call o T h=some (T',h')) {K:Sl→aB→Prop} (hk:K T' h'):gM P o T h K:=by
 unfold nC at he;unfold gM;split at he
 ·rename_i hg;rw[hg];split at he
  ·rename_i v h1 hs;cases he;exact zR7 hc hs hk
  ·cases he
 ·rename_i d want hg;rw[hg];simp only;split at he
  ·rename_i b hb;rw[hb];split at he
   ·rename_i hw;split at he
    ·rename_i v h1 hs;cases he;exact⟨fun _=>zR7 hc hs hk,fun hn=>absurd hw hn⟩
    ·cases he
   ·rename_i hw;cases he;exact⟨fun hn=>absurd hn hw,fun _=>hk⟩
  ·cases he
 ·cases he
theorem zR8 (hc:iD P call):∀{l:List VOp} {T:Sl} {h:aB} {T':Sl} {h':aB},zb9 P call l T h=some (T',h')→∀{K:Sl→aB→Prop},K T' h'→mY P l T h K
 |[],_,_,_,_,he,_,hk=>by cases he;exact hk
 |o::R,T,h,T',h',he,K,hk=>by
  unfold zb9 at he;split at he
  ·rename_i T1 h1 hg;exact mG hc hg (zR8 hc he hk)
  ·cases he
theorem uJ (hc:iD P call) {is:List Nat} {h:aB}:∀{W:List (Nat×VOp×Sl×Sl)},uF P call is h W=true→lU P is h W
 |[],_=>trivial
 |(i,o,T,T')::W,he=>by
  unfold uF at he;simp only[kf8]at he;refine⟨fun hi=>?_,uJ hc he.2⟩;have h1:=he.1;rw[if_pos hi]at h1;split at h1
  ·rename_i T2 h2 hg;exact mG hc hg (zo8 h1)
  ·cases h1
theorem jv6 {T:Sl} {h:aB} {o:VOp} (hu:zo7 P T h o=true) {K:Sl→aB→Prop} (h1:K (bP T o.dst (.one (.d (.bool true)))) h) (h2:K (bP T o.dst (.one (.d (.bool false)))) h):gM P o T h K:=by
 have both:∀b:Bool,K (bP T o.dst (.one (.d (.bool b)))) h:=fun b=>by cases b;exact h2;exact h1
 obtain⟨dst,op,g⟩:=o;unfold zo7 at hu;split at hu
 ·rename_i op' t x yt hg hop;simp only at hg hop both;subst hg;subst hop;show lG P T h _ _;unfold lG eZ;split at hu
  ·rename_i i hi hx;split at hu
   ·rename_i hkd;have hn:opd T (.const (.slice none 0 0))=some (.one .nils):=rfl;have hb:fX P h t i.kd .eql (.one (.d (.sl []))) (.one .nils)=none:=by rw[hkd];rfl
    simp only[vop,eI,cP,hi,hx,hn,hb,hkd];exact fun b _=>both b
   ·rename_i hkd;have hn:opd T (.const (.slice none 0 0))=some (.one .nils):=rfl;have hb:fX P h t i.kd .neq (.one (.d (.sl []))) (.one .nils)=none:=by rw[hkd];rfl
    simp only[vop,eI,cP,hi,hx,hn,hb,hkd];exact fun b _=>both (!b)
   ·cases hu
  ·rename_i i id ver hi hx;split at hu
   ·rename_i ty fz sz ver' xs hkd hid;split at hu
    ·rename_i hv;split at hu
     ·have hn:opd T (.const (.slice none 0 0))=some (.one .nils):=rfl;have hb:fX P h t i.kd .eql (.one (.own id ver 0)) (.one .nils)=none:=by rw[hkd];rfl
      simp only[vop,eI,cP,hi,hx,hn,hb,hkd,kC,hid];exact⟨hv,fun b _=>both b⟩
     ·have hn:opd T (.const (.slice none 0 0))=some (.one .nils):=rfl;have hb:fX P h t i.kd .neq (.one (.own id ver 0)) (.one .nils)=none:=by rw[hkd];rfl
      simp only[vop,eI,cP,hi,hx,hn,hb,hkd,kC,hid];exact⟨hv,fun b _=>both (!b)⟩
     ·cases hu
    ·cases hu
   ·cases hu
  ·cases hu
 ·cases hu
theorem zc4 (hc:iD P call) {x:eA}:∀{l:List VOp} {T:Sl} {h:aB} {K:Sl→aB→Option eA},uE P call l T h K=some x→∀{Q:Sl→aB→Prop},(∀T h,K T h=some x→Q T h)→mY P l T h Q
 |[],_,_,_,he,_,hq=>hq _ _ he
 |o::R,T,h,K,he,Q,hq=>by
  unfold uE at he;show gM P o T h _;split at he
  ·rename_i hu;split at he
   ·rename_i y z e1 e2;split at he
    ·rename_i hb;cases he;have:=zo5 hb;subst this;exact jv6 hu (zc4 hc e1 hq) (zc4 hc e2 hq)
    ·cases he
   ·cases he
  ·split at he
   ·rename_i T' h' hg;exact mG hc hg (zc4 hc he hq)
   ·cases he
theorem zp3 (hc:iD P call) {ob:List (Nat×List Nat)}:∀{l:List (Nat×VOp)} {W:List (Nat×VOp×Sl×Sl)} {T:Sl} {h:aB} {T':Sl} {h':aB},wY P call ob l W T h=some (T',h')→∀{K:Sl→aB→Prop},K T' h'→lV P ob l W T h K
 |[],_,_,_,_,_,he,_,hk=>by cases he;exact hk
 |(i,o)::R,W,T,h,T',h',he,K,hk=>by
  unfold wY at he;unfold lV;split at he
  ·rename_i T1 h1 hg;split at he
   ·rename_i hr;rw[if_pos hr];exact mG hc hg (zp3 hc he hk)
   ·rename_i hr;rw[if_neg hr];split at he
    ·rename_i ha;exact mG hc hg ⟨uJ hc ha,zp3 hc he hk⟩
    ·cases he
  ·cases he
theorem xA (hc:iD P call) {ob:List (Nat×List Nat)} {x:eA}:∀{t:VBT} {W:List (Nat×VOp×Sl×Sl)} {T:Sl} {h:aB} {K:Sl→aB→Option eA},qK P call ob t W T h K=some x→∀{Q:Sl→aB→Prop},(∀T h,K T h=some x→Q T h)→iV P ob t W T h Q
 |.leaf,_,_,_,_,he,_,hq=>hq _ _ he
 |.no,_,_,_,_,_,_,_=>trivial
 |.ro i o t,W,T,h,K,he,Q,hq=>by
  unfold qK at he;unfold iV;split at he
  ·rename_i T1 h1 hg;exact mG hc hg (xA hc he hq)
  ·cases he
 |.alt j o t r,W,T,h,K,he,Q,hq=>by
  unfold qK at he;unfold iV;split at he
  ·rename_i T1 h1 hg;split at he
   ·rename_i ha;split at he
    ·exact⟨mG hc hg ⟨uJ hc ha,xA hc he hq⟩,trivial⟩
    ·split at he
     ·rename_i y z e1 e2;split at he
      ·rename_i hb;cases he;have:=zo5 hb;subst this;exact⟨mG hc hg ⟨uJ hc ha,xA hc e1 hq⟩,xA hc e2 hq⟩
      ·cases he
     ·cases he
   ·cases he
  ·cases he
theorem xB {h:aB} {ids:List Nat}:∀{T T0:Sl} {seen:List Nat},(∀i v,memN i seen=false→T.lookup i=some v→T0.lookup i=some v)→Sub h ids (uG h ids seen T) T0
 |[],_,_,_=>trivial
 |(i,v)::r,T0,seen,hs=>by
  have memN_cons:∀{j:Nat},memN j (i::seen)=false→memN j seen=false∧j≠i:=by
   intro j hj;simp only[memN,Bool.or_eq_false_iff]at hj;refine⟨hj.2,fun e=>?_⟩;subst e;have:=hj.1;rw[ky4]at this;cases this
  have rest:∀{seen':List Nat},(∀j,memN j seen'=false→memN j seen=false∧j≠i)→∀j u,memN j seen'=false→r.lookup j=some u→T0.lookup j=some u:=by
   intro seen' h' j u hj hu;obtain⟨a,b⟩:=h' j hj;refine hs j u a ?_;rw[kl1];have:(j == i)=false:=by simpa using b
   rw[this];exact hu
  unfold uG;split
  ·rename_i hm;refine xB fun j u hj hu=>?_;refine hs j u hj ?_;rw[kl1];have:(j == i)=false:=by
    simp only[beq_eq_false_iff_ne];rintro rfl;rw[hm]at hj;cases hj
   rw[this];exact hu
  ·rename_i hm;split
   ·rename_i v0 hl;refine⟨?_,xB (rest fun j hj=>memN_cons hj)⟩;rw[hs i v (by simpa using hm) (by simp)];exact⟨v,kc0 v,hl⟩
   ·exact xB (rest fun j hj=>memN_cons hj)
theorem zR9 {n:Nat} {T:Sl} {h:aB} {T0:Sl} {h0:aB} (he:rZ n T h=some (T0,h0)):gB n T h T0 h0:=by
 unfold rZ at he;simp only at he;generalize rX h n (zc0 T)=ids at he;split at he
 ·rename_i hn hh;cases he;simp only[kf8,decide_eq_true_eq]at hn;exact eT ids h (kb5 h) hn.1 hn.2 hh (xB fun i v _ hi=>hi)
 ·cases he
theorem zS0 {i k:Nat} {v:V}:∀{l:Sl},(wZ i v l).lookup k=if k=i then some v else l.lookup k
 |[]=>by
  simp only[wZ,kl1,List.lookup_nil];by_cases e:k=i
  ·simp[e]
  ·have:(k == i)=false:=by simpa using e
   simp[this,e]
 |(j,w)::r=>by
  have ih:=@zS0 i k v r;unfold wZ;split
  ·rename_i e;have:=gD e;subst this;simp only[kl1];by_cases e:k=i
   ·simp[e]
   ·have:(k == i)=false:=by simpa using e
    simp[this,e]
  ·rename_i e;have hij:i≠j:=by rintro rfl;rw[ky4]at e;cases e
   split
   ·simp only[kl1];by_cases e:k=i
    ·simp[e]
    ·have:(k == i)=false:=by simpa using e
     simp[this,e]
   ·simp only[kl1,ih];by_cases e:k=j
    ·subst e;have hne:¬k=i:=fun e=>hij e.symm;simp[hne]
    ·have:(k == j)=false:=by simpa using e
     simp[this]
theorem zS1 {k:Nat}:∀{T:Sl},(uH T).lookup k=T.lookup k
 |[]=>rfl
 |(i,v)::r=>by
  unfold uH;rw[zS0,kl1,zS1];by_cases e:k=i
  ·simp[e]
  ·have:(k == i)=false:=by simpa using e
   simp[this,e]
theorem jv7 {n:Nat} {T:Sl} {h:aB} {T0:Sl} {h0:aB} (he:rZ n (uH T) h=some (T0,h0)):gB n T h T0 h0:=by
 unfold rZ at he;simp only at he;generalize rX h n (zc0 (uH T))=ids at he;split at he
 ·rename_i hn hh;cases he;simp only[kf8,decide_eq_true_eq]at hn;exact eT ids h (kb5 h) hn.1 hn.2 hh (xB fun i v _ hi=>by rw[←zS1];exact hi)
 ·cases he
theorem xC {P:Program} {call:eK} (hc:iD P call) {n:Nat} {ob:List (Nat×List Nat)}:∀{t:VBT} {W:List (Nat×VOp×Sl×Sl)} {T:Sl} {h:aB} {T1:Sl} {h1:aB},qL P call n ob t W T h=some (T1,h1)→iV P ob t W T h (fun T' h'=>gB n T' h' T1 h1)
 |.leaf,_,_,_,_,_,he=>jv7 he
 |.no,_,_,_,_,_,_=>trivial
 |.ro i o t,W,T,h,T1,h1,he=>by
  unfold qL at he;unfold iV;split at he
  ·rename_i T2 h2 hg;exact mG hc hg (xC hc he)
  ·cases he
 |.alt j o t r,W,T,h,T1,h1,he=>by
  unfold qL at he;unfold iV;split at he
  ·rename_i T2 h2 hg;split at he
   ·rename_i ha;split at he
    ·exact⟨mG hc hg ⟨uJ hc ha,xC hc he⟩,trivial⟩
    ·split at he
     ·rename_i Ta ha' Tb hb' e1 e2;split at he
      ·rename_i hb;cases he;simp only[kf8]at hb;have e3:=zo8 hb.1;have e4:=zo4 hb.2;subst e3;subst e4;exact⟨mG hc hg ⟨uJ hc ha,xC hc e1⟩,xC hc e2⟩
      ·cases he
     ·cases he
   ·cases he
  ·cases he
theorem jv8 {f:FuncId} {N:Nat} {it:aC} (h:zo9 P f=some (N,it)):wH P f N it:=by
 unfold zo9 at h;split at h
 ·rename_i fn hf;split at h
  ·rename_i c hb;split at h
   ·rename_i hc;cases h;simp only[kf8,List.isEmpty_iff]at hc;exact⟨fn,c,hf,hb,hc.1.1,rfl,hc.1.2,rfl,kk0.1 hc.2⟩
   ·cases h
  ·cases h
 ·cases h
section
variable {x:eA} {Yv:EvR} {Y:kE} (hY:∀vs h Kv (K:Option VX→aB→Prop),Yv vs h Kv=some x→(∀pd h,Kv pd h=some x→K pd h)→Y vs h K)
include hY
theorem zc5 (hc:iD P call):∀{l:List VOp} {T:Sl} {ys:List Tmp} {h:aB} {pd:Option VX} {Kv:KV},zc1 P call Yv l T ys h pd Kv=some x→∀{K:KO},(∀T ys h pd,Kv T ys h pd=some x→K T ys h pd)→eG P Y l T ys h pd K
 |[],_,_,_,_,_,he,_,hk=>hk _ _ _ _ he
 |o::R,T,ys,h,pd,Kv,he,K,hk=>by
  unfold zc1 zR5 at he;show kU P Y o T ys h pd _;unfold kU;split at he
  ·rename_i d hyo;simp only[hyo];exact zc5 hc he hk
  ·rename_i args hyo;simp only[hyo];split at he
   ·rename_i vs hvs;exact⟨rfl,vs,hvs,hY _ _ _ _ he fun pd' h' he'=>zc5 hc he' hk⟩
   ·cases he
  ·rename_i hyo;simp only[hyo];split at he
   ·rename_i T' h' hg;exact mG hc hg (zc5 hc he hk)
   ·cases he
theorem jv9 (hc:iD P call) {n:Nat}:∀(f:Nat) (c:aC) (Kv:VX→KV) (T:Sl) (ys:List Tmp) (h:aB) (pd:Option VX),evY P call n Yv f c Kv T ys h pd=some x→∀{Q:KY},(∀e T ys h pd,Kv e T ys h pd=some x→Q e T ys h pd)→dY P n Y c Q T ys h pd:=by
 intro f;induction f using kt4 with
 |_ f0 ih0=>
  intro c K T ys h pd he Q hq;cases f0 with
  |zero=>cases he
  |succ f=>
  have ih:=ih0 f (kp7 f);cases c with
  |skip=>exact hq _ _ _ _ _ he
  |ops l=>
   simp only[evY]at he;exact zc5 hY hc he fun _ _ _ _ hk=>hq _ _ _ _ _ hk
  |seq a b=>
   simp only[evY]at he;refine ih a _ T ys h pd he fun e T ys h pd hk=>?_;cases e with
   |normal=>exact ih b K T ys h pd hk hq
   |exit id=>exact hq _ _ _ _ _ hk
   |ret=>exact hq _ _ _ _ _ hk
  |cond c a b=>
   simp only[evY]at he;show iB _ _ _;split at he
   ·rename_i t ho;rw[ho];cases t with
    |true=>exact⟨fun _=>ih a K T ys h pd he hq,fun e=>by cases e⟩
    |false=>exact⟨fun e=>(by cases e),fun _=>ih b K T ys h pd he hq⟩
   ·cases he
  |block id c=>
   simp only[evY]at he;refine ih c _ T ys h pd he fun e T ys h pd hk=>?_;cases e with
   |normal=>exact hq _ _ _ _ _ hk
   |exit id'=>
    show(if id'=id then Q .normal else Q (.exit id')) T ys h pd;simp only at hk;split at hk
    ·rename_i e;rw[if_pos e];exact hq _ _ _ _ _ hk
    ·rename_i e;rw[if_neg e];exact hq _ _ _ _ _ hk
   |ret=>exact hq _ _ _ _ _ hk
  |loop c=>
   let B:Nat→VX→KV:=fun g e T ys h pd=>match e with
    |.normal=>evY P call n Yv g (.loop c) K T ys h pd
    |e=>K e T ys h pd
   have start:∀(g:Nat) (T:Sl) (ys:List Tmp) (h:aB) (pd:Option VX),evY P call n Yv (g+1) (.loop c) K T ys h pd=some x→∃T0 h0,gB n T h T0 h0∧evY P call n Yv g c (B g) T0 ys h0 pd=some x:=by
    intro g T ys h pd hg;simp only[evY]at hg;split at hg
    ·rename_i T0 h0 hk;exact⟨T0,h0,zR9 hk,hg⟩
    ·cases hg
   obtain⟨T0,h0,hk,hv⟩:=start f T ys h pd he;refine⟨fun g T ys h pd=>g≤f∧evY P call n Yv g c (B g) T ys h pd=some x,⟨f,T0,h0,hk,kf2 _,hv⟩,?_⟩;rintro g T ys h pd ⟨hg,hv⟩;refine ih0 g (kw8 hg) c (B g) T ys h pd hv fun e T ys h pd hk=>?_;cases e with
   |normal=>
    cases g with
    |zero=>cases hk
    |succ m=>
     obtain⟨T1,h1,k1,v1⟩:=start m T ys h pd hk;exact⟨m,T1,h1,kp7 m,k1,by omega,v1⟩
   |exit id=>exact hq _ _ _ _ _ hk
   |ret=>exact hq _ _ _ _ _ hk
  |exit id=>exact hq _ _ _ _ _ he
  |ret=>exact hq _ _ _ _ _ he
  |_=>cases he
end
theorem xD (hc:iD P call) {x:eA}:∀(f:Nat) {n:Nat} (c:aC) (K:VX→Sl→aB→Option eA) (T:Sl) (h:aB),ev P call n f c K T h=some x→∀{Q:VX→Sl→aB→Prop},(∀e T h,K e T h=some x→Q e T h)→vwp P n c Q T h:=by
 intro f;induction f using kt4 with
 |_ f0 ih0=>
  intro n c K T h he Q hq;cases f0 with
  |zero=>cases he
  |succ f=>
  have ih:=@ih0 f (kp7 f);cases c with
  |skip=>exact hq _ _ _ he
  |ops l=>
   simp only[ev]at he;exact zc4 hc he fun T h hk=>hq _ _ _ hk
  |opsW l ob=>
   simp only[ev]at he;split at he
   ·rename_i T' h' ho;exact zp3 hc ho (hq _ _ _ he)
   ·cases he
  |opsB t ob=>
   simp only[ev]at he;exact xA hc he fun T h hk=>hq _ _ _ hk
  |opsK t ob=>
   simp only[ev]at he;split at he
   ·rename_i T' h' ho;exact qE (fun T h hk=>⟨_,_,hk,hq _ _ _ he⟩) (xC hc ho)
   ·cases he
  |both a b=>
   simp only[ev]at he;split at he
   ·rename_i y z h1 h2;split at he
    ·rename_i hb;cases he;have:=zo5 hb;subst this;exact⟨ih a K T h h1 hq,ih b K T h h2 hq⟩
    ·cases he
   ·cases he
  |seq a b=>
   simp only[ev]at he;refine ih a _ T h he fun e T h hk=>?_;cases e with
   |normal=>exact ih b K T h hk hq
   |exit id=>exact hq _ _ _ hk
   |ret=>exact hq _ _ _ hk
  |cond c a b=>
   simp only[ev]at he;show iB _ _ _;split at he
   ·rename_i t ho;rw[ho];cases t with
    |true=>exact⟨fun _=>ih a K T h he hq,fun e=>by cases e⟩
    |false=>exact⟨fun e=>(by cases e),fun _=>ih b K T h he hq⟩
   ·cases he
  |block id c=>
   simp only[ev]at he;refine ih c _ T h he fun e T h hk=>?_;cases e with
   |normal=>exact hq _ _ _ hk
   |exit id'=>
    show if id'=id then Q .normal T h else Q (.exit id') T h
    simp only at hk;split at hk
    ·rename_i e;rw[if_pos e];exact hq _ _ _ hk
    ·rename_i e;rw[if_neg e];exact hq _ _ _ hk
   |ret=>exact hq _ _ _ hk
  |loop c=>
   let B:Nat→VX→Sl→aB→Option eA:=fun g e T h=>match e with
    |.normal=>ev P call n g (.loop c) K T h
    |e=>K e T h
   have start:∀(g:Nat) (T:Sl) (h:aB),ev P call n (g+1) (.loop c) K T h=some x→∃T0 h0,gB n T h T0 h0∧ev P call n g c (B g) T0 h0=some x:=by
    intro g T h hg;simp only[ev]at hg;split at hg
    ·rename_i T0 h0 hk;exact⟨T0,h0,zR9 hk,hg⟩
    ·cases hg
   obtain⟨T0,h0,hk,hv⟩:=start f T h he;refine⟨fun g T h=>g≤f∧ev P call n g c (B g) T h=some x,⟨f,T0,h0,hk,kf2 _,hv⟩,?_⟩;rintro g T h ⟨hg,hv⟩;refine ih0 g (kw8 hg) c (B g) T h hv fun e T h hk=>?_;cases e with
   |normal=>
    cases g with
    |zero=>cases hk
    |succ m=>
     obtain⟨T1,h1,k1,v1⟩:=start m T h hk;exact⟨m,T1,h1,kp7 m,k1,by omega,v1⟩
   |exit id=>exact hq _ _ _ hk
   |ret=>exact hq _ _ _ hk
  |exit id=>exact hq _ _ _ he
  |ret=>exact hq _ _ _ he
  |bad=>cases he
  |rangeF g ps a b=>
   simp only[ev]at he;split at he
   ·rename_i g' caps hg;split at he
    ·rename_i hcap;split at he
     ·rename_i N it hit;split at he
      ·rename_i hlt;refine⟨g',caps,N,it,hg,hcap,jv8 hit,hlt,jv9 (fun vs h Kv K' he' hk'=>?_) hc f it _ _ _ _ _ he fun e T' ys' h' pd' hk=>?_⟩
       ·split at he'
        ·rename_i hl;refine⟨hl,ih a _ _ _ he' fun e T h hk=>?_⟩;cases e with
         |normal=>
          refine ih b _ _ _ hk fun e T h hk=>?_;cases e with
          |normal=>exact hk' _ _ hk
          |exit id=>exact hk' _ _ hk
          |ret=>exact hk' _ _ hk
         |exit id=>cases hk
         |ret=>cases hk
        ·cases he'
       ·cases e with
        |exit id=>cases hk
        |normal=>cases pd'<;>exact hq _ _ _ hk
        |ret=>cases pd'<;>exact hq _ _ _ hk
      ·cases he
     ·cases he
    ·cases he
   ·cases he
theorem zp4 {n:Nat} {rs:List ResultVar} {r:V} {h0:aB} {Post:V→aB→Prop} (hp:Post r h0) {e:VX} {T:Sl} {h:aB} (he:uI P n rs e T h=some (r,h0)):nZ P n rs Post e T h:=by
 cases e with
 |exit id=>cases he
 |normal=>
  simp only[uI]at he;split at he
  ·rename_i vs hv;exact⟨vs,[],h,cM vs,h,_,r,h0,hv,rfl,kc0 _,kb5 _,he,hp⟩
  ·cases he
 |ret=>
  simp only[uI]at he;split at he
  ·rename_i vs hv;exact⟨vs,[],h,cM vs,h,_,r,h0,hv,rfl,kc0 _,kb5 _,he,hp⟩
  ·cases he
theorem zS2 (l:L):WkL l (zc2 l):=by
 unfold zc2;split
 ·exact .inr (.inl ⟨rfl,rfl⟩)
 ·exact .inl rfl
theorem zS3:∀ls:List L,hJ ls (zp0 ls)
 |[]=>trivial
 |l::r=>⟨zS2 l,zS3 r⟩
mutual
theorem zp5:∀v:V,WkV v (pD v)
 |.one l=>by unfold pD WkV;exact zS2 l
 |.agg ls=>by unfold pD WkV;exact zS3 ls
 |.tup vs=>by unfold pD WkV;exact zS4 vs
theorem zS4:∀vs:List V,WkV.all vs (zp1 vs)
 |[]=>trivial
 |v::r=>⟨zp5 v,zS4 r⟩
end
theorem jw0 {n:Nat} {rs:List ResultVar} {r:V} {h0:aB} {Post:V→aB→Prop} (hp:Post r h0) {e:VX} {T:Sl} {h:aB} (he:zc3 P n rs e T h=some (r,h0)):nZ P n rs Post e T h:=by
 cases e with
 |exit id=>cases he
 |normal=>
  simp only[zc3]at he;split at he
  ·rename_i vs hv;exact⟨vs,[],h,pD (cM vs),h,_,r,h0,hv,rfl,zp5 _,kb5 _,he,hp⟩
  ·cases he
 |ret=>
  simp only[zc3]at he;split at he
  ·rename_i vs hv;exact⟨vs,[],h,pD (cM vs),h,_,r,h0,hv,rfl,zp5 _,kb5 _,he,hp⟩
  ·cases he
def zp6 (P:Program) (tbl:Tbl):Prop:=∀f N vc rs,tbl f=some (N,vc,rs)→aK P f N vc rs
end Go.Vt
