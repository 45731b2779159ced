import Derived.Test.YtdabfkmhkoppcaaGreatDoorVtRng3
import Derived.KernelRfl
set_option linter.all false
namespace Go.Vt
structure aK (P:Program) (f:FuncId) (N:Nat) (vc:aC) (rs:List ResultVar):Prop where
 fn:∃(fn:Func) (c:Code) (sg:cF),P.funcs[f]?=some fn∧fn.body=some c∧fn.ntmps=N∧fn.results.toList=rs∧jY P f=true∧jM P N sg c=true∧aP sg c=vc
theorem aS {P:Program} {f:FuncId} {N:Nat} {vc:aC} {rs:List ResultVar} {avs:List V} {hs:aB} {Post:V→aB→Prop} (hm:P.follows .mixedOrders=true) (hF:aK P f N vc rs) (hlen:avs.length≤N)
  (hv:vwp P hs.length vc (nZ P hs.length rs Post) (prm 0 avs) hs):VC P f avs hs Post:=by
 obtain⟨fn,c,sg,h1,h2,h3,h4,h5,h6,h7⟩:=hF.fn;subst h3;subst h4;subst h7;exact jm1 hm h1 h2 h5 h6 hlen hv
theorem aI {P:Program} {n:Nat} {rs:List ResultVar} {Post:V→aB→Prop} {T:Sl} {h:aB} {vs:List V} {r:V} {hs:aB} (ids:List Nat) (h1:cX P T h rs=some vs) (h2:fin n ids h (cM vs)=some (r,hs)) (hp:Post r hs) :
  nZ P n rs Post .ret T h:=⟨vs,[],h,cM vs,h,ids,r,hs,h1,rfl,kc0 _,kb5 _,h2,hp⟩
theorem zQ2 {P:Program} {n:Nat} {rs:List ResultVar} {Post:V→aB→Prop} {T:Sl} {h h1 h2:aB} {vs:List V} {r r1:V} {hs:aB} (gs:List (Nat×Nat×Nat)) (ids:List Nat) (e1:cX P T h rs=some vs) (e2:eP h gs=some h1)
  (e3:WkV (cM vs) r1) (e4:WkH h1 h2) (e5:fin n ids h2 r1=some (r,hs)) (hp:Post r hs) :
  nZ P n rs Post .ret T h:=⟨vs,gs,h1,r1,h2,ids,r,hs,e1,e2,e3,e4,e5,hp⟩
end Go.Vt
