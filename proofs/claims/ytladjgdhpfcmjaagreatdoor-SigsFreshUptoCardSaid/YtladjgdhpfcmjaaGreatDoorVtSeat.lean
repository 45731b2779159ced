/- Own framework, part 21: what is said of a function of the program, once and for all. -/
import Derived.Test.YtladjgdhpfcmjaaGreatDoorVtRng3
import Derived.KernelRfl
namespace Go.Vt

structure FnOk (P : Program) (f : FuncId) (N : Nat) (vc : VCode) (rs : List ResultVar) : Prop where
  fn : ∃ (fn : Func) (c : Code) (sg : Orders), P.funcs[f]? = some fn ∧ fn.body = some c ∧ fn.ntmps = N ∧ fn.results.toList = rs ∧ callable P f = true ∧ codeOkR P N sg c = true ∧ compile sg c = vc

theorem VC_of_fn {P : Program} {f : FuncId} {N : Nat} {vc : VCode} {rs : List ResultVar} {avs : List V} {hs : AHeap} {Post : V → AHeap → Prop} (hm : P.follows .mixedOrders = true) (hF : FnOk P f N vc rs) (hlen : avs.length ≤ N)
    (hv : vwp P hs.length vc (vend P hs.length rs Post) (prm 0 avs) hs) : VC P f avs hs Post := by
  obtain ⟨fn, c, sg, h1, h2, h3, h4, h5, h6, h7⟩ := hF.fn
  subst h3; subst h4; subst h7
  exact VC_of_vwpR hm h1 h2 h5 h6 hlen hv

theorem vend_of {P : Program} {n : Nat} {rs : List ResultVar} {Post : V → AHeap → Prop} {T : Sl} {h : AHeap} {vs : List V} {r : V} {hs : AHeap} (ids : List Nat) (h1 : vres P T h rs = some vs) (h2 : fin n ids h (vone vs) = some (r, hs)) (hp : Post r hs) :
    vend P n rs Post .ret T h := ⟨vs, [], h, vone vs, h, ids, r, hs, h1, rfl, WkV.refl _, WkH.refl _, h2, hp⟩

theorem vend_wk {P : Program} {n : Nat} {rs : List ResultVar} {Post : V → AHeap → Prop} {T : Sl} {h h1 h2 : AHeap} {vs : List V} {r r1 : V} {hs : AHeap} (gs : List (Nat × Nat × Nat)) (ids : List Nat) (e1 : vres P T h rs = some vs) (e2 : nilOwns h gs = some h1)
    (e3 : WkV (vone vs) r1) (e4 : WkH h1 h2) (e5 : fin n ids h2 r1 = some (r, hs)) (hp : Post r hs) :
    vend P n rs Post .ret T h := ⟨vs, gs, h1, r1, h2, ids, r, hs, e1, e2, e3, e4, e5, hp⟩

end Go.Vt
