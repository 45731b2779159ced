import Derived.Test.YtdabfkmhkoppcaaGreatDoorVtBase
set_option linter.all false
namespace Go.Vt
set_option linter.unusedSectionVars false
set_option linter.unusedVariables false
variable [cJ]
inductive TK where
 |int (k:IntKind)
 |bool
 |str
 |slice
 |struct
 |ptr
 |func
 |arr
 |other
 deriving DecidableEq
structure EI where
 size:Nat
 bytes:Nat
 zero:Option V
 agg:Bool
structure TI where
 size:Nat
 bytes:Nat
 agg:Bool
 zero:Option V
 kd:TK
 flds:List (Nat×Nat×Bool)
 el:Option EI
def oN:Value→Option L
 |.bool b=>some (.d (.bool b))
 |.int k n=>some (.d (.int k n))
 |.string s=>some (.d (.str s))
 |.slice none 0 0=>some .nils
 |.pointer none=>some (.d .nilp)
 |.nilFunc=>some .nilf
 |.nilIface=>some .nili
 |_=>none
def nS:List Value→Option (List L)
 |[]=>some []
 |v::r=>match oN v,nS r with
  |some l,some ls=>some (l::ls)
  |_,_=>none
def jL:Value→Option V
 |.agg cs=>(nS cs.toList).map .agg
 |v=>(oN v).map .one
def oO:TypeDesc→Bool
 |.struct _|.array _ _=>true
 |_=>false
def pF:TypeDesc→TK
 |.int k=>.int k
 |.bool=>.bool
 |.string=>.str
 |.slice _=>.slice
 |.struct _=>.struct
 |.pointer _=>.ptr
 |.func _ _ _=>.func
 |.array _ _=>.arr
 |_=>.other
def zb9 (P:Program) (f:Field):Option (Nat×Nat×Bool):=
 match P.info? f.type,P.underlying f.type with
 |some i,some d=>some (f.offset,i.size,oO d)
 |_,_=>none
def sN (P:Program):List Field→Option (List (Nat×Nat×Bool))
 |[]=>some []
 |f::r=>match zb9 P f,sN P r with
  |some x,some xs=>some (x::xs)
  |_,_=>none
def zP9 (P:Program) (n:Nat) (e:TypeId):Option (List (Nat×Nat×Bool)):=
 match P.info? e,P.underlying e with
 |some i,some d=>some ((List.range n).map fun k=>(k*i.size,i.size,oO d))
 |_,_=>none
def iU (P:Program) (e:TypeId):Option EI:=
 match P.info? e,P.underlying e with
 |some i,some d=>some { size:=i.size,bytes:=i.bytes,zero:=i.zero.bind jL,agg:=oO d }
 |_,_=>none
def ti (P:Program) (t:TypeId):Option TI:=
 match P.info? t,P.underlying t with
 |some i,some d=>
  match (match d with|.struct fs=>sN P fs.toList|.array n e=>zP9 P n e|_=>some [])with
  |some fl=>some { size:=i.size,bytes:=i.bytes,agg:=oO d,zero:=i.zero.bind jL,kd:=pF d,flds:=fl,el:=match d with|.slice e=>iU P e|_=>none }
  |none=>none
 |_,_=>none
def zQ0 (P:Program) (e:TypeId):Bool:=match P.underlying e with
 |some (.struct fs)=>match fs[0]? with
  |some f=>f.offset == 0&&(match P.underlying f.type with|some (.pointer x)=>x == e|_=>false)
  |none=>false
 |_=>false
def bty (P:Program) (e:TypeId):Option TypeId:=if zQ0 P e=true then some e else match P.underlying e with
 |some (.struct fs)=>match fs[0]? with
  |some f=>if (f.offset == 0&&zQ0 P f.type)=true then some e else none
  |none=>none
 |_=>none
def kC (P:Program) (e:TypeId) (ls:List L):aI:=match bty P e with
 |none=>.box ls
 |some _=>.bx (some e) ls
theorem jm2 {P:Program} {e:TypeId} {ls:List L} (h:bty P e=none):kC P e ls = .box ls:=by unfold kC;rw[h]
theorem zQ1 (P:Program) (e:TypeId) (ls:List L):∃t,kC P e ls = .bx t ls∧(t=none∨t=some e):=by
 unfold kC;split
 ·exact⟨none,rfl,.inl rfl⟩
 ·exact⟨some e,rfl,.inr rfl⟩
abbrev Sl:=List (Nat×V)
def opd (T:Sl):Operand→Option V
 |.tmp t=>T.lookup t
 |.const v=>jL v
 |.func f=>some (.one (.fn f []))
 |.global _=>none
def jR:V→Bool
 |.one .any=>false
 |_=>true
def mkV (i:TI) (ls:List L):Option V:=
 if i.agg then (if i.size≤ls.length then some (.agg (ls.take i.size))else none)
 else match ls with
  |l::_=>some (.one l)
  |[]=>none
def iG:V→Option (List L)
 |.one l=>some [l]
 |.agg ls=>some ls
 |.tup _=>none
def cN (h:aB) (i:TI):L→Option V
 |.ptr id off=>match h[id]? with
  |some (.bx ty cells)=>mkV i (cells.drop off)
  |_=>none
 |.ept id ver k j=>match h[id]? with
  |some (.ar ty _ _ ver' xs)=>if ver'=ver then (match xs[k]? with|some e=>mkV i ((e.drop j).map .d)|none=>none)else none
  |_=>none
 |.ref cells=>mkV i (cells.map .d)
 |_=>none
def aI.freeze:aI→aI
 |.ar ty _ sz ver xs=>.ar ty true sz ver xs
 |o=>o
def fzOne (h:aB) (id:Nat):aB:=match h[id]? with
 |some o=>h.set id o.freeze
 |none=>h
def fzL (h:aB):L→aB
 |.own id _ _=>fzOne h id
 |_=>h
def lH (h:aB):List L→aB
 |[]=>h
 |l::r=>lH (fzL h l) r
def toD (h:aB):L→Option D
 |.d x=>some x
 |.nils=>some (.sl [])
 |.own id ver len=>match h[id]? with
  |some (.ar ty true _ ver' xs)=>if ver'=ver then some (.sl (xs.take len))else none
  |_=>none
 |_=>none
def kQ (h:aB):List L→Option (List D)
 |[]=>some []
 |l::r=>match toD h l,kQ h r with
  |some x,some xs=>some (x::xs)
  |_,_=>none
def mB {α:Type} (cs:List α) (off:Nat) (vs:List α):List α:=cs.take off++vs++cs.drop (off+vs.length)
def sO (h:aB) (i:TI) (p:L) (v:V):Option aB:=
 match iG v with
 |none=>none
 |some vs=>
  if vs.length=i.size then
   match p with
   |.ptr id off=>match h[id]? with
    |some (.bx ty cells)=>if off+vs.length≤cells.length then some (h.set id (.bx ty (mB cells off vs)))else none
    |_=>none
   |.ept id ver k j=>
    match kQ (lH h vs) vs,(lH h vs)[id]? with
    |some ds,some (.ar ty false sz ver' xs)=>
     if ver'=ver then
      (match xs[k]? with
       |some e=>if j+ds.length≤e.length then some ((lH h vs).set id (.ar ty false sz ver (xs.set k (mB e j ds))))else none
       |none=>none)
     else none
    |_,_=>none
   |_=>none
  else none
def mT (h:aB) (off:Nat):L→Option L
 |.ptr id o=>match h[id]? with
  |some (.bx ty cells)=>if o+off≤cells.length then some (.ptr id (o+off))else none
  |_=>none
 |.ept id ver k j=>match h[id]? with
  |some (.ar ty _ sz ver' _)=>if ver'=ver∧j+off≤sz then some (.ept id ver k (j+off))else none
  |_=>none
 |.ref cells=>some (.ref (cells.drop off))
 |_=>none
def kR (h:aB) (size:Nat) (n:Int):L→Option L
 |.d (.sl xs)=>if 0≤n then (match xs[n.toNat]? with|some e=>if e.length=size then some (.ref e)else none|none=>none)else none
 |.own id ver len=>match h[id]? with
  |some (.ar ty _ sz ver' _)=>if ver'=ver∧sz=size∧0≤n∧n<len then some (.ept id ver n.toNat 0)else none
  |_=>none
 |.bsl id off len=>match h[id]? with
  |some (.bx _ _)=>if size=1∧0≤n∧n<len then some (.ptr id (off+n.toNat))else none
  |_=>none
 |.osl id ver off len=>match h[id]? with
  |some (.ar ty _ sz ver' _)=>if ver'=ver∧sz=size∧0≤n∧n<len then some (.ept id ver (off+n.toNat) 0)else none
  |_=>none
 |_=>none
def pG (fs:List (Nat×Nat×Bool)):List L→List (Nat×V)→Option (List L)
 |cells,[]=>some cells
 |cells,(k,v)::rest=>
  match fs[k]?,iG v with
  |some f,some vs=>if jR v=true∧vs.length=f.2.1∧f.1+vs.length≤cells.length then pG fs (mB cells f.1 vs) rest else none
  |_,_=>none
def uP (i:TI) (parts:List (Nat×V)):Option V:=
 match i.kd,i.zero with
 |.struct,some (.agg z)=>(pG i.flds z parts).map .agg
 |.arr,some (.agg z)=>(pG i.flds z parts).map .agg
 |_,_=>none
def eO (T:Sl):List Operand→Option (List V)
 |[]=>some []
 |x::r=>match opd T x,eO T r with
  |some v,some vs=>some (v::vs)
  |_,_=>none
def lI (T:Sl):List (Nat×Operand)→Option (List (Nat×V))
 |[]=>some []
 |(k,x)::r=>match opd T x,lI T r with
  |some v,some vs=>some ((k,v)::vs)
  |_,_=>none
def qX (h:aB) (size:Nat):Nat→List (Nat×V)→Option (List (List D))
 |_,[]=>some []
 |n,(k,v)::rest=>
  if k=n then
   match iG v with
   |some vs=>match kQ h vs,qX h size (n+1) rest with
    |some ds,some r=>if ds.length=size then some (ds::r)else none
    |_,_=>none
   |none=>none
  else none
def jD (h:aB):List (Nat×V)→aB
 |[]=>h
 |(_,v)::rest=>match iG v with
  |some vs=>jD (lH h vs) rest
  |none=>jD h rest
def zc0:List D→Option UInt8
 |[.int .u8 n]=>if 0≤n∧n<256 then some n.toNat.toUInt8 else none
 |_=>none
def mU:List (List D)→Option (List UInt8)
 |[]=>some []
 |r::rs=>match zc0 r,mU rs with
  |some b,some bs=>some (b::bs)
  |_,_=>none
theorem zm7:∀{rs:List (List D)} {bs:List UInt8},mU rs=some bs→bs.length=rs.length∧∀(j:Nat) (b:UInt8),bs[j]?=some b→rs[j]?=some [.int .u8 b.toNat]
 |[],bs,hb=>by cases hb;exact⟨rfl,by simp⟩
 |r::rs,bs,hb=>by
  unfold mU at hb;split at hb
  ·rename_i b bs' h1 h2;cases hb;obtain⟨e1,e2⟩:=zm7 h2;refine⟨by simp[e1],fun j x hj=>?_⟩;cases j with
   |zero=>
    simp at hj;subst hj;unfold zc0 at h1;split at h1
    ·rename_i n;split at h1
     ·rename_i hn;cases h1;have:(n.toNat.toUInt8.toNat:Int)=n:=by
       have h1:n.toNat<256:=by omega
       simp[Nat.mod_eq_of_lt h1];omega
      simp only[List.getElem?_cons_zero,this]
     ·cases h1
    ·cases h1
   |succ j=>exact e2 j x (by simpa using hj)
  ·cases hb
def xA (P:Program) (s:TypeId):Bool:=match P.underlying s with
 |some (.slice e)=>(match P.underlying e with
  |some (.int .u8)=>true
  |_=>false)
 |_=>false
def gU (op:BinOp) (k:IntKind) (x y:Int):Option D:=
 match op with
 |.add=>some (.int k (k.wrap (x+y)))
 |.sub=>some (.int k (k.wrap (x-y)))
 |.mul=>some (.int k (k.wrap (x*y)))
 |.eql=>some (.bool (x == y))
 |.neq=>some (.bool (x != y))
 |.lss=>some (.bool (decide (x<y)))
 |.leq=>some (.bool (decide (x≤y)))
 |.gtr=>some (.bool (decide (x>y)))
 |.geq=>some (.bool (decide (x≥y)))
 |.shr=>if 0≤y∧y.toNat≤k.bits then some (.int k (x.fdiv (2 ^ y.toNat)))else none
 |.quo=>if y=0 then none else some (.int k (k.wrap (x.tdiv y)))
 |.rem=>if y=0 then none else some (.int k (x.tmod y))
 |_=>none
def nT (op:BinOp) (x y:ByteArray):Option D:=
 match op with
 |.eql=>some (.bool (decide (x=y)))
 |.neq=>some (.bool (!decide (x=y)))
 |.lss=>some (.bool (Op.bytesLess x.toList y.toList))
 |.leq=>some (.bool (Op.bytesLess x.toList y.toList||x.toList == y.toList))
 |.gtr=>some (.bool !(Op.bytesLess x.toList y.toList||x.toList == y.toList))
 |.geq=>some (.bool !(Op.bytesLess x.toList y.toList))
 |.add=>if x.size+y.size≤9223372036854775807 then some (.str (x++y))else none
 |_=>none
def jE (h:aB):L→Option Bool
 |.d .nilp=>some true
 |.ptr id _=>match h[id]? with
  |some (.bx _ _)=>some false
  |_=>none
 |.ept id ver _ _=>match h[id]? with
  |some (.ar ty _ _ ver' _)=>if ver'=ver then some false else none
  |_=>none
 |.ref _=>some false
 |.nilf=>some true
 |.fn _ _=>some false
 |_=>none
def uQ (h:aB):L→Option Bool
 |.fn _ _=>none
 |.nilf=>none
 |l=>jE h l
def gV (h:aB) (kd:TK) (op:BinOp):V→V→Option D
 |.one (.d (.int k x)),.one (.d (.int k' y))=>if k=k' then gU op k x y else none
 |.one (.d (.str x)),.one (.d (.str y))=>nT op x y
 |.one (.d (.bool x)),.one (.d (.bool y))=>match kd,op with
  |.bool,.eql=>some (.bool (x == y))
  |.bool,.neq=>some (.bool (x != y))
  |_,_=>none
 |.one l,.one (.d .nilp)=>match kd,op,uQ h l with
  |.ptr,.eql,some b=>some (.bool b)
  |.ptr,.neq,some b=>some (.bool (!b))
  |_,_,_=>none
 |_,_=>none
end Go.Vt
