/- Own framework, part 29: functions that put one call off, run symbolically. -/
import Derived.Test.YtladjgdhpfcmjaaGreatDoorVtComp
import Derived.Test.YtladjgdhpfcmjaaGreatDoorVtSimp
namespace Go.Vt
variable {P : Program}

def vseqs : List VCode → VCode → VCode
  | [], c => c
  | a :: r, c => .seq a (vseqs r c)

def dfIn (P : Program) (n : Nat) (x : DF) (Post : V → AHeap → Prop) (T : Sl) (h : AHeap) : Prop := ∃ g caps, T.lookup x.slot = some (.one (.fn g caps)) ∧
  vwp P h.length x.rest (fun e T2 h2 => (∀ k, e ≠ .exit k) ∧ caps.all (capOk h2) = true ∧ ∃ Pd, VCD P g (caps.map .one) h2 Pd ∧ ∀ h3, Pd h3 → vend P n x.rs Post .ret T2 h3) T h

def dfMid (P : Program) (n : Nat) (x : DF) (Post : V → AHeap → Prop) : VX → Sl → AHeap → Prop
  | .normal => dfIn P n x Post
  | _ => fun _ _ => False

theorem vpre_of {n : Nat} {K : Sl → AHeap → Prop} {os : List VOp} {G : VX → Sl → AHeap → Prop} (hG : ∀ e T h, G e T h → e = .normal) (hK : ∀ T h, G .normal T h → K T h) : ∀ {cs : List VCode} {T : Sl} {h : AHeap}, vwp P n (vseqs cs (.ops os)) G T h → vpre P n cs (fun T h => vops P os T h K) T h
  | [], T, h, hv => vops_mono (fun T h => hK T h) hv
  | c :: r, T, h, hv => by
    unfold vpre
    refine vwp_mono (c := c) (fun e T h hv => ?_) hv
    cases e with
    | normal => exact vpre_of hG hK hv
    | exit id => have := hG _ _ _ hv; cases this
    | ret => have := hG _ _ _ hv; cases this

theorem VC_of_df {f : FuncId} {x : DF} {avs : List V} {hs : AHeap} {Post : V → AHeap → Prop} (hm : P.follows .mixedOrders = true) (hx : DfOk P f x) (hlen : avs.length ≤ x.N) (hv : vwp P hs.length (vseqs x.pre (.ops x.ops)) (dfMid P hs.length x Post) (prm 0 avs) hs) : VC P f avs hs Post := by
  obtain ⟨fn, As, B, id, ops0, od, sg, e1, e2, e3, e4, e5, e6, e7, e8, e9, e10, e11, e12, e13, e14⟩ := hx.fn
  refine VC_of_dfr hm e1 e2 e3 e4 e5 e6 e7 e8 e9 (by rw [e10]; exact hlen) ?_
  rw [e12, e13, e14, e11]
  refine vpre_of (G := dfMid P hs.length x Post) (fun e T h hv => ?_) (fun T h hv => hv) hv
  cases e with
  | normal => rfl
  | exit id => exact hv.elim
  | ret => exact hv.elim

theorem VCD_of_fn {f : FuncId} {N : Nat} {vc : VCode} {rs : List ResultVar} {avs : List V} {hs : AHeap} {Post : AHeap → Prop} (hm : P.follows .mixedOrders = true) (hF : FnOk P f N vc rs) (hp : plainV vc = true) (hlen : avs.length ≤ N)
    (hv : vwp P hs.length vc (vend P hs.length rs fun _ h' => Post h') (prm 0 avs) hs) : VCD P f avs hs Post := by
  obtain ⟨fn, c, sg, h1, h2, h3, h4, h5, h6, h7⟩ := hF.fn
  subst h3; subst h4; subst h7
  exact VCD_of_vwp hm h1 h2 h5 (codeOk_of_R c h6 hp) hlen hv

end Go.Vt
