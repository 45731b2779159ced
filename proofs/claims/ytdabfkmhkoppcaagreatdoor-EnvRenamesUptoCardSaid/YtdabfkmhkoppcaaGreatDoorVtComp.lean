import Derived.Test.YtdabfkmhkoppcaaGreatDoorVtDefer
import Derived.Shelf.Slices.In.CompactS
import Derived.Sort.EveryDepth
import Derived.KernelRfl
set_option linter.all false
open List renaming all_eq_true→kh6
namespace Go.Vt
open Go.Proofs Go.Shelf Go.Sort
open Go
def lkO:List (Nat×cF)→Nat→cF
 |[],_=>[]
 |(g,x)::r,f=>match Nat.beq f g with
  |true=>x
  |false=>lkO r f
def zp9 (P:Program) (sgs:List (Nat×cF)):Tbl:=fun f=>match P.funcs[f]? with
 |some fn=>match fn.body with
  |some c=>if jY P f&&jM P fn.ntmps (lkO sgs f) c then some (fn.ntmps,aP (lkO sgs f) c,fn.results.toList)else none
  |none=>none
 |none=>none
theorem jw3 {P:Program} {sgs:List (Nat×cF)}:zp6 P (zp9 P sgs):=by
 intro f N vc rs h;unfold zp9 at h;split at h
 ·rename_i fn hf;split at h
  ·rename_i c hb;split at h
   ·rename_i hc;simp only[Bool.and_eq_true]at hc;cases h;exact⟨fn,c,lkO sgs f,hf,hb,rfl,rfl,hc.1,hc.2,rfl⟩
   ·cases h
  ·cases h
 ·cases h
def hdC:Code→Code
 |.seq a _=>a
 |c=>c
def tlC:Code→Code
 |.seq _ b=>b
 |c=>c
def tlN:Nat→Code→Code
 |0,c=>c
 |k+1,c=>tlN k (tlC c)
def xE:Nat→Code→List Code
 |0,_=>[]
 |k+1,c=>hdC c::xE k (tlC c)
def sE:Code→List Oper
 |.region _ ops _=>ops.toList
 |_=>[]
def zq0:Code→Nat
 |.region id _ _=>id
 |_=>0
def aX (fn:Func):Code:=fn.body.getD .skip
noncomputable def zT2 (fn:Func) (k:Nat) (d:Tmp) (sg:cF):DF:=
 let b:=aX fn
 let ops:=sE (hdC (tlN k b))
 { N:=fn.ntmps,pre:=(xE k b).map (aP sg),ops:=ops.dropLast.map (cop ops),slot:=d,rest:=aP sg (tlC (tlN k b)),rs:=fn.results.toList }
theorem jw4 {P:Program} {l:List Nat} (h:((List.range P.funcs.size).all fun f=>nV P f == l.contains f)=true) (hl:(l.all fun f=>decide (f<P.funcs.size))=true) (f:Nat):nV P f=l.contains f:=by
 by_cases hf:f<P.funcs.size
 ·have:=kh6.1 h f (List.mem_range.2 hf);exact eq_of_beq this
 ·have h1:nV P f=false:=by
   unfold nV;rw[Array.getElem?_eq_none (by omega)]
  rw[h1];cases hc:l.contains f with
  |false=>rfl
  |true=>
   have:=kh6.1 hl f (by simpa using hc);simp at this;omega
end Go.Vt
