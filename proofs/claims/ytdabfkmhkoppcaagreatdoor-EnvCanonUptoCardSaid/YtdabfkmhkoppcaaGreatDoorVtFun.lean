import Derived.Test.YtdabfkmhkoppcaaGreatDoorVtCode
set_option linter.all false
open List renaming getElem?_cons_zero→kr6,mapM_cons→kI0
namespace Go.Vt
set_option linter.unusedSectionVars false
set_option linter.unusedVariables false
variable [cJ]
def dI (P:Program) (T:Sl) (h:aB):List ResultVar→Option (List V)
 |[]=>some []
 |.tmp t::r=>match T.lookup t,dI P T h r with
  |some v,some vs=>some (v::vs)
  |_,_=>none
 |.cell a t::r=>match ti P t,T.lookup a with
  |some i,some (.one l)=>match cN h i l,dI P T h r with
   |some v,some vs=>some (v::vs)
   |_,_=>none
  |_,_=>none
def dA:List V→V
 |[v]=>v
 |vs=>.tup vs
variable {P:Program} {w w0:World} {μ μ0:Pl} {h h0:aB} {T:Sl} {a:Act} {N:Nat} {df:List Deferred}
theorem jt3 {t:TypeId} {x y:Value} (hr:(Instr.loadAt t x).run P w = .ok y w):(do loadVar t (←asAddr x)).run P w = .ok y w:=by
 cases x with
 |pointer p=>
  cases p with
  |some a=>exact hr
  |none=>simp[Instr.loadAt,Instr.sureAddr,stuck]at hr
 |_=>simp[Instr.loadAt,Instr.sureAddr,stuck]at hr
def vL (tmps:Array Value):ResultVar→Sem Value
 |.tmp t=>pure (tmps.getD t undef)
 |.cell c t=>do loadVar t (←asAddr (tmps.getD c undef))
theorem jt4 (fn:Func) (tmps:Array Value):results fn tmps=(do let vs ←fn.results.mapM (vL tmps);pure (if h:vs.size=1 then vs[0]else .tuple vs)):=by
 unfold results;have:(fun x=>match x with
   |.tmp t=>pure (tmps.getD t undef)
   |.cell c t=>do loadVar t (←asAddr (tmps.getD c undef)):ResultVar→Sem Value)=vL tmps:=by
  funext x;cases x<;>rfl
 rw[←this];rfl
theorem zr4 (H:aR w μ h) (s:dP w μ h T a):∀{rs:List ResultVar} {vs:List V},dI P T h rs=some vs→∃xs:List Value,(rs.mapM (vL a.tmps)).run P w = .ok xs w∧vs.length=xs.length∧∀(j:Nat) (v:V) (x:Value),vs[j]?=some v→xs[j]?=some x→aZ w μ h v x
 |[],vs,hv=>by cases hv;exact⟨[],rfl,rfl,by simp⟩
 |.tmp t::r,vs,hv=>by
  unfold dI at hv;split at hv
  ·rename_i v vs' h1 h2;cases hv;obtain⟨xs,e1,e2,e3⟩:=zr4 H s h2;refine⟨a.tmps.getD t undef::xs,?_,by simp[e2],?_⟩
   ·simp only[kI0,vL,Sem.run_bind,Sem.run_pure,Result.andThen,e1]
   ·intro j u x hj hx;cases j with
    |zero=>simp only[kr6,Option.some.injEq]at hj hx;subst hj;subst hx;exact s _ _ h1
    |succ j=>exact e3 j u x (by simpa using hj) (by simpa using hx)
  ·cases hv
 |.cell c t::r,vs,hv=>by
  unfold dI at hv;split at hv
  ·rename_i i l hi hl;split at hv
   ·rename_i v vs' h1 h2;cases hv;obtain⟨xs,e1,e2,e3⟩:=zr4 H s h2;obtain⟨y,hy,hr⟩:∃y,(Instr.loadAt t (a.tmps.getD c undef)).run P w = .ok y w∧aZ w μ h v y:=by
     have hlv:=s _ _ hl
     revert hlv
     generalize a.tmps.getD c undef=p;intro hlv;cases hlv with
     |one _ hl'=>exact zQ4 H hi hl' h1
     |top=>simp[cN]at h1
    refine⟨y::xs,?_,by simp[e2],?_⟩
    ·have hy':=jt3 hy;have hy'':(vL a.tmps (.cell c t)).run P w = .ok y w:=hy';simp only[kI0,Sem.run_bind,hy'',Sem.run_pure,Result.andThen,e1]
    ·intro j u x hj hx;cases j with
     |zero=>simp only[kr6,Option.some.injEq]at hj hx;subst hj;subst hx;exact hr
     |succ j=>exact e3 j u x (by simpa using hj) (by simpa using hx)
   ·cases hv
  ·cases hv
theorem ze3 (H:aR w μ h) (s:dP w μ h T a) {fn:Func} {vs:List V} (hv:dI P T h fn.results.toList=some vs):∃x,(results fn a.tmps).run P w = .ok x w∧aZ w μ h (dA vs) x:=by
 obtain⟨xs,e1,e2,e3⟩:=zr4 H s hv;rw[jt4,Array.mapM_eq_mapM_toList];have e1':((List.toArray <$> List.mapM (vL a.tmps) fn.results.toList:Sem (Array Value))).run P w = .ok xs.toArray w:=by
  rw[Sem.run_map,e1];rfl
 match xs,vs,e2,e3 with
 |[x],[v],_,e3=>
  refine⟨x,?_,e3 0 v x rfl rfl⟩;rw[Sem.run_bind,e1'];rfl
 |[],[],_,e3=>
  refine⟨.tuple #[],?_,.tup rfl (by simp)⟩;rw[Sem.run_bind,e1'];rfl
 |x::y::xs,v::u::vs,e2,e3=>
  refine⟨.tuple (x::y::xs).toArray,?_,.tup (by simpa using e2) fun j l z hj hz=>e3 j l z hj (by simpa using hz)⟩;rw[Sem.run_bind,e1'];simp[Result.andThen]
 |[],_::_,e2,_=>cases e2
 |_::_,[],e2,_=>cases e2
 |[_],_::_::_,e2,_=>simp at e2
 |_::_::_,[_],e2,_=>simp at e2
def prm:Nat→List V→Sl
 |_,[]=>[]
 |k,v::r=>(k,v)::prm (k+1) r
theorem ze4:∀{vs:List V} {k i:Nat} {v:V},(prm k vs).lookup i=some v→k≤i∧vs[i-k]?=some v
 |[],_,_,_,h=>by cases h
 |u::r,k,i,v,h=>by
  unfold prm at h;rw[List.lookup_cons]at h;split at h
  ·rename_i e;have:i=k:=by simpa using e
   subst this;cases h;exact⟨Nat.le_refl _,by simp⟩
  ·rename_i e;have hne:i≠k:=by simpa using e
   obtain⟨h1,h2⟩:=ze4 h;refine⟨by omega,?_⟩;rw[show i-k=(i-(k+1))+1 by omega];simpa using h2
def oW (P:Program) (n:Nat) (rs:List ResultVar) (Post:V→aB→Prop):VX→Sl→aB→Prop
 |.exit _=>fun _ _=>False
 |_=>fun T h=>∃vs gs h1 r1 h2 ids r hs,dI P T h rs=some vs∧eP h gs=some h1∧WkV (dA vs) r1∧WkH h1 h2∧fin n ids h2 r1=some (r,hs)∧Post r hs
end Go.Vt
