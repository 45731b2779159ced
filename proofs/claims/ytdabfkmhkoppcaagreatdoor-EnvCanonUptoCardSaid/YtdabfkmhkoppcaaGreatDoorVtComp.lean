import Derived.Test.YtdabfkmhkoppcaaGreatDoorVtDefer
import Derived.Shelf.Slices.In.CompactS
import Derived.Sort.EveryDepth
import Derived.KernelRfl
set_option linter.all false
open List renaming all_eq_true→ku0
namespace Go.Vt
set_option linter.unusedSectionVars false
set_option linter.unusedVariables false
variable [cJ]
open Go.Proofs Go.Shelf Go.Sort
set_option linter.unusedSectionVars false
set_option linter.unusedVariables false
variable [cJ]
open Go
def lkO:List (Nat×cO)→Nat→cO
 |[],_=>[]
 |(g,x)::r,f=>match Nat.beq f g with
  |true=>x
  |false=>lkO r f
def zu5 (P:Program) (sgs:List (Nat×cO)):Tbl:=fun f=>match P.funcs[f]? with
 |some fn=>match fn.body with
  |some c=>if jM P f&&kD P fn.ntmps (lkO sgs f) c then some (fn.ntmps,aN (lkO sgs f) c,fn.results.toList)else none
  |none=>none
 |none=>none
theorem jE2 {P:Program} {sgs:List (Nat×cO)}:zu2 P (zu5 P sgs):=by
 intro f N vc rs h;unfold zu5 at h;split at h
 ·rename_i fn hf;split at h
  ·rename_i c hb;split at h
   ·rename_i hc;simp only[Bool.and_eq_true]at hc;cases h;exact⟨fn,c,lkO sgs f,hf,hb,rfl,rfl,hc.1,hc.2,rfl⟩
   ·cases h
  ·cases h
 ·cases h
def hdC:Code→Code
 |.seq a _=>a
 |c=>c
def tlC:Code→Code
 |.seq _ b=>b
 |c=>c
def tlN:Nat→Code→Code
 |0,c=>c
 |k+1,c=>tlN k (tlC c)
def yQ:Nat→Code→List Code
 |0,_=>[]
 |k+1,c=>hdC c::yQ k (tlC c)
def tP:Code→List Oper
 |.region _ ops _=>ops.toList
 |_=>[]
def zu6:Code→Nat
 |.region id _ _=>id
 |_=>0
def aT (fn:Func):Code:=fn.body.getD .skip
noncomputable def zZ5 (fn:Func) (k:Nat) (d:Tmp) (sg:cO):DF:=
 let b:=aT fn
 let ops:=tP (hdC (tlN k b))
 { N:=fn.ntmps,pre:=(yQ k b).map (aN sg),ops:=ops.dropLast.map (cop ops),slot:=d,rest:=aN sg (tlC (tlN k b)),rs:=fn.results.toList }
theorem jE3 {P:Program} {l:List Nat} (h:((List.range P.funcs.size).all fun f=>mX P f == l.contains f)=true) (hl:(l.all fun f=>decide (f<P.funcs.size))=true) (f:Nat):mX P f=l.contains f:=by
 by_cases hf:f<P.funcs.size
 ·have:=ku0.1 h f (List.mem_range.2 hf);exact eq_of_beq this
 ·have h1:mX P f=false:=by
   unfold mX;rw[Array.getElem?_eq_none (by omega)]
  rw[h1];cases hc:l.contains f with
  |false=>rfl
  |true=>
   have:=ku0.1 hl f (by simpa using hc);simp at this;omega
end Go.Vt
