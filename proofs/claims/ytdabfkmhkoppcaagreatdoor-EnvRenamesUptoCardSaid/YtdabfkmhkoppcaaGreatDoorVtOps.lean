import Derived.Test.YtdabfkmhkoppcaaGreatDoorVtBase
set_option linter.all false
namespace Go.Vt
inductive TK where
 |int (k:IntKind)
 |bool
 |str
 |slice
 |struct
 |ptr
 |func
 |arr
 |other
 deriving DecidableEq
structure EI where
 size:Nat
 bytes:Nat
 zero:Option V
 agg:Bool
structure TI where
 size:Nat
 bytes:Nat
 agg:Bool
 zero:Option V
 kd:TK
 flds:List (Nat×Nat×Bool)
 el:Option EI
def nP:Value→Option L
 |.bool b=>some (.d (.bool b))
 |.int k n=>some (.d (.int k n))
 |.string s=>some (.d (.str s))
 |.slice none 0 0=>some .nils
 |.pointer none=>some (.d .nilp)
 |.nilFunc=>some .nilf
 |.nilIface=>some .nili
 |_=>none
def mT:List Value→Option (List L)
 |[]=>some []
 |v::r=>match nP v,mT r with
  |some l,some ls=>some (l::ls)
  |_,_=>none
def iT:Value→Option V
 |.agg cs=>(mT cs.toList).map .agg
 |v=>(nP v).map .one
def nQ:TypeDesc→Bool
 |.struct _|.array _ _=>true
 |_=>false
def oQ:TypeDesc→TK
 |.int k=>.int k
 |.bool=>.bool
 |.string=>.str
 |.slice _=>.slice
 |.struct _=>.struct
 |.pointer _=>.ptr
 |.func _ _ _=>.func
 |.array _ _=>.arr
 |_=>.other
def zJ (P:Program) (f:Field):Option (Nat×Nat×Bool):=
 match P.info? f.type,P.underlying f.type with
 |some i,some d=>some (f.offset,i.size,nQ d)
 |_,_=>none
def rG (P:Program):List Field→Option (List (Nat×Nat×Bool))
 |[]=>some []
 |f::r=>match zJ P f,rG P r with
  |some x,some xs=>some (x::xs)
  |_,_=>none
def zI9 (P:Program) (n:Nat) (e:TypeId):Option (List (Nat×Nat×Bool)):=
 match P.info? e,P.underlying e with
 |some i,some d=>some ((List.range n).map fun k=>(k*i.size,i.size,nQ d))
 |_,_=>none
def gW (P:Program) (e:TypeId):Option EI:=
 match P.info? e,P.underlying e with
 |some i,some d=>some { size:=i.size,bytes:=i.bytes,zero:=i.zero.bind iT,agg:=nQ d }
 |_,_=>none
def ti (P:Program) (t:TypeId):Option TI:=
 match P.info? t,P.underlying t with
 |some i,some d=>
  match (match d with|.struct fs=>rG P fs.toList|.array n e=>zI9 P n e|_=>some [])with
  |some fl=>some { size:=i.size,bytes:=i.bytes,agg:=nQ d,zero:=i.zero.bind iT,kd:=oQ d,flds:=fl,el:=match d with|.slice e=>gW P e|_=>none }
  |none=>none
 |_,_=>none
def zJ0 (P:Program) (e:TypeId):Bool:=match P.underlying e with
 |some (.struct fs)=>match fs[0]? with
  |some f=>f.offset == 0&&(match P.underlying f.type with|some (.pointer x)=>x == e|_=>false)
  |none=>false
 |_=>false
def bty (P:Program) (e:TypeId):Option TypeId:=if zJ0 P e=true then some e else match P.underlying e with
 |some (.struct fs)=>match fs[0]? with
  |some f=>if (f.offset == 0&&zJ0 P f.type)=true then some e else none
  |none=>none
 |_=>none
def kN (P:Program) (e:TypeId) (ls:List L):aN:=match bty P e with
 |none=>.box ls
 |some _=>.bx (some e) ls
theorem je4 {P:Program} {e:TypeId} {ls:List L} (h:bty P e=none):kN P e ls = .box ls:=by unfold kN;rw[h]
theorem zJ1 (P:Program) (e:TypeId) (ls:List L):∃t,kN P e ls = .bx t ls∧(t=none∨t=some e):=by
 unfold kN;split
 ·exact⟨none,rfl,.inl rfl⟩
 ·exact⟨some e,rfl,.inr rfl⟩
abbrev Sl:=List (Nat×V)
def opd (T:Sl):Operand→Option V
 |.tmp t=>T.lookup t
 |.const v=>iT v
 |.func f=>some (.one (.fn f []))
 |.global _=>none
def jD:V→Bool
 |.one .any=>false
 |_=>true
def mkV (i:TI) (ls:List L):Option V:=
 if i.agg then (if i.size≤ls.length then some (.agg (ls.take i.size))else none)
 else match ls with
  |l::_=>some (.one l)
  |[]=>none
def gJ:V→Option (List L)
 |.one l=>some [l]
 |.agg ls=>some ls
 |.tup _=>none
def cI (h:aB) (i:TI):L→Option V
 |.ptr id off=>match h[id]? with
  |some (.bx ty cells)=>mkV i (cells.drop off)
  |_=>none
 |.ept id ver k j=>match h[id]? with
  |some (.ar ty _ _ ver' xs)=>if ver'=ver then (match xs[k]? with|some e=>mkV i ((e.drop j).map .d)|none=>none)else none
  |_=>none
 |.ref cells=>mkV i (cells.map .d)
 |_=>none
def aN.freeze:aN→aN
 |.ar ty _ sz ver xs=>.ar ty true sz ver xs
 |o=>o
def fzOne (h:aB) (id:Nat):aB:=match h[id]? with
 |some o=>h.set id o.freeze
 |none=>h
def fzL (h:aB):L→aB
 |.own id _ _=>fzOne h id
 |_=>h
def kO (h:aB):List L→aB
 |[]=>h
 |l::r=>kO (fzL h l) r
def toD (h:aB):L→Option D
 |.d x=>some x
 |.nils=>some (.sl [])
 |.own id ver len=>match h[id]? with
  |some (.ar ty true _ ver' xs)=>if ver'=ver then some (.sl (xs.take len))else none
  |_=>none
 |_=>none
def jU (h:aB):List L→Option (List D)
 |[]=>some []
 |l::r=>match toD h l,jU h r with
  |some x,some xs=>some (x::xs)
  |_,_=>none
def lB {α:Type} (cs:List α) (off:Nat) (vs:List α):List α:=cs.take off++vs++cs.drop (off+vs.length)
def rI (h:aB) (i:TI) (p:L) (v:V):Option aB:=
 match gJ v with
 |none=>none
 |some vs=>
  if vs.length=i.size then
   match p with
   |.ptr id off=>match h[id]? with
    |some (.bx ty cells)=>if off+vs.length≤cells.length then some (h.set id (.bx ty (lB cells off vs)))else none
    |_=>none
   |.ept id ver k j=>
    match jU (kO h vs) vs,(kO h vs)[id]? with
    |some ds,some (.ar ty false sz ver' xs)=>
     if ver'=ver then
      (match xs[k]? with
       |some e=>if j+ds.length≤e.length then some ((kO h vs).set id (.ar ty false sz ver (xs.set k (lB e j ds))))else none
       |none=>none)
     else none
    |_,_=>none
   |_=>none
  else none
def lR (h:aB) (off:Nat):L→Option L
 |.ptr id o=>match h[id]? with
  |some (.bx ty cells)=>if o+off≤cells.length then some (.ptr id (o+off))else none
  |_=>none
 |.ept id ver k j=>match h[id]? with
  |some (.ar ty _ sz ver' _)=>if ver'=ver∧j+off≤sz then some (.ept id ver k (j+off))else none
  |_=>none
 |.ref cells=>some (.ref (cells.drop off))
 |_=>none
def jV (h:aB) (size:Nat) (n:Int):L→Option L
 |.d (.sl xs)=>if 0≤n then (match xs[n.toNat]? with|some e=>if e.length=size then some (.ref e)else none|none=>none)else none
 |.own id ver len=>match h[id]? with
  |some (.ar ty _ sz ver' _)=>if ver'=ver∧sz=size∧0≤n∧n<len then some (.ept id ver n.toNat 0)else none
  |_=>none
 |.bsl id off len=>match h[id]? with
  |some (.bx _ _)=>if size=1∧0≤n∧n<len then some (.ptr id (off+n.toNat))else none
  |_=>none
 |.osl id ver off len=>match h[id]? with
  |some (.ar ty _ sz ver' _)=>if ver'=ver∧sz=size∧0≤n∧n<len then some (.ept id ver (off+n.toNat) 0)else none
  |_=>none
 |_=>none
def oR (fs:List (Nat×Nat×Bool)):List L→List (Nat×V)→Option (List L)
 |cells,[]=>some cells
 |cells,(k,v)::rest=>
  match fs[k]?,gJ v with
  |some f,some vs=>if jD v=true∧vs.length=f.2.1∧f.1+vs.length≤cells.length then oR fs (lB cells f.1 vs) rest else none
  |_,_=>none
def sZ (i:TI) (parts:List (Nat×V)):Option V:=
 match i.kd,i.zero with
 |.struct,some (.agg z)=>(oR i.flds z parts).map .agg
 |.arr,some (.agg z)=>(oR i.flds z parts).map .agg
 |_,_=>none
def eO (T:Sl):List Operand→Option (List V)
 |[]=>some []
 |x::r=>match opd T x,eO T r with
  |some v,some vs=>some (v::vs)
  |_,_=>none
def kP (T:Sl):List (Nat×Operand)→Option (List (Nat×V))
 |[]=>some []
 |(k,x)::r=>match opd T x,kP T r with
  |some v,some vs=>some ((k,v)::vs)
  |_,_=>none
def pV (h:aB) (size:Nat):Nat→List (Nat×V)→Option (List (List D))
 |_,[]=>some []
 |n,(k,v)::rest=>
  if k=n then
   match gJ v with
   |some vs=>match jU h vs,pV h size (n+1) rest with
    |some ds,some r=>if ds.length=size then some (ds::r)else none
    |_,_=>none
   |none=>none
  else none
def iG (h:aB):List (Nat×V)→aB
 |[]=>h
 |(_,v)::rest=>match gJ v with
  |some vs=>iG (kO h vs) rest
  |none=>iG h rest
def iH (op:BinOp) (k:IntKind) (x y:Int):Option D:=
 match op with
 |.add=>some (.int k (k.wrap (x+y)))
 |.sub=>some (.int k (k.wrap (x-y)))
 |.mul=>some (.int k (k.wrap (x*y)))
 |.eql=>some (.bool (x == y))
 |.neq=>some (.bool (x != y))
 |.lss=>some (.bool (decide (x<y)))
 |.leq=>some (.bool (decide (x≤y)))
 |.gtr=>some (.bool (decide (x>y)))
 |.geq=>some (.bool (decide (x≥y)))
 |.shr=>if 0≤y∧y.toNat≤k.bits then some (.int k (x.fdiv (2 ^ y.toNat)))else none
 |_=>none
def mU (op:BinOp) (x y:ByteArray):Option D:=
 match op with
 |.eql=>some (.bool (decide (x=y)))
 |.neq=>some (.bool (!decide (x=y)))
 |.lss=>some (.bool (Op.bytesLess x.toList y.toList))
 |.leq=>some (.bool (Op.bytesLess x.toList y.toList||x.toList == y.toList))
 |.gtr=>some (.bool !(Op.bytesLess x.toList y.toList||x.toList == y.toList))
 |.geq=>some (.bool !(Op.bytesLess x.toList y.toList))
 |.add=>if x.size+y.size≤9223372036854775807 then some (.str (x++y))else none
 |_=>none
def iI (h:aB):L→Option Bool
 |.d .nilp=>some true
 |.ptr id _=>match h[id]? with
  |some (.bx _ _)=>some false
  |_=>none
 |.ept id ver _ _=>match h[id]? with
  |some (.ar ty _ _ ver' _)=>if ver'=ver then some false else none
  |_=>none
 |.ref _=>some false
 |.nilf=>some true
 |.fn _ _=>some false
 |_=>none
def tA (h:aB):L→Option Bool
 |.fn _ _=>none
 |.nilf=>none
 |l=>iI h l
def gZ (h:aB) (kd:TK) (op:BinOp):V→V→Option D
 |.one (.d (.int k x)),.one (.d (.int k' y))=>if k=k' then iH op k x y else none
 |.one (.d (.str x)),.one (.d (.str y))=>mU op x y
 |.one (.d (.bool x)),.one (.d (.bool y))=>match kd,op with
  |.bool,.eql=>some (.bool (x == y))
  |.bool,.neq=>some (.bool (x != y))
  |_,_=>none
 |.one l,.one (.d .nilp)=>match kd,op,tA h l with
  |.ptr,.eql,some b=>some (.bool b)
  |.ptr,.neq,some b=>some (.bool (!b))
  |_,_,_=>none
 |_,_=>none
end Go.Vt
