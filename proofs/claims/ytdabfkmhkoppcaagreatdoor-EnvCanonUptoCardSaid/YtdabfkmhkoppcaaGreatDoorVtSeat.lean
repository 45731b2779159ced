import Derived.Test.YtdabfkmhkoppcaaGreatDoorVtRng3
import Derived.KernelRfl
set_option linter.all false
namespace Go.Vt
set_option linter.unusedSectionVars false
set_option linter.unusedVariables false
variable [cJ]
structure aJ (P:Program) (f:FuncId) (N:Nat) (vc:aC) (rs:List ResultVar):Prop where
 fn:∃(fn:Func) (c:Code) (sg:cO),P.funcs[f]?=some fn∧fn.body=some c∧fn.ntmps=N∧fn.results.toList=rs∧jM P f=true∧kD P N sg c=true∧aN sg c=vc
theorem aU {P:Program} {f:FuncId} {N:Nat} {vc:aC} {rs:List ResultVar} {avs:List V} {hs:aB} {Post:V→aB→Prop} (hm:P.follows .mixedOrders=true) (hF:aJ P f N vc rs) (hlen:avs.length≤N)
  (hv:vwp P hs.length vc (oW P hs.length rs Post) (prm 0 avs) hs):VC P f avs hs Post:=by
 obtain⟨fn,c,sg,h1,h2,h3,h4,h5,h6,h7⟩:=hF.fn;subst h3;subst h4;subst h7;exact ju0 hm h1 h2 h5 h6 hlen hv
theorem aH {P:Program} {n:Nat} {rs:List ResultVar} {Post:V→aB→Prop} {T:Sl} {h:aB} {vs:List V} {r:V} {hs:aB} (ids:List Nat) (h1:dI P T h rs=some vs) (h2:fin n ids h (dA vs)=some (r,hs)) (hp:Post r hs) :
  oW P n rs Post .ret T h:=⟨vs,[],h,dA vs,h,ids,r,hs,h1,rfl,ko0 _,ko1 _,h2,hp⟩
theorem zr8 {P:Program} {n:Nat} {rs:List ResultVar} {Post:V→aB→Prop} {T:Sl} {h h1 h2:aB} {vs:List V} {r r1:V} {hs:aB} (gs:List (Nat×Nat×Nat)) (ids:List Nat) (e1:dI P T h rs=some vs) (e2:eP h gs=some h1)
  (e3:WkV (dA vs) r1) (e4:WkH h1 h2) (e5:fin n ids h2 r1=some (r,hs)) (hp:Post r hs) :
  oW P n rs Post .ret T h:=⟨vs,gs,h1,r1,h2,ids,r,hs,e1,e2,e3,e4,e5,hp⟩
end Go.Vt
