/- The environment laws: what stands at a path, with zero values as data; its size. -/
import Derived.Test.YtdabfkmhkoppcaaGreatDoorVtL8
set_option maxRecDepth 100000
set_option linter.unusedSimpArgs false
namespace Go.Vt.Tryz
open Go.Proofs

theorem VC_wk {P : Program} {f : FuncId} {avs : List V} {h : AHeap} {Post Post' : V → AHeap → Prop} (hc : VC P f avs h Post) (hp : ∀ r h', Post r h' → ∃ r', WkV r r' ∧ Post' r' h') : VC P f avs h Post' :=
  ⟨hc.1, fun w μ args H hl ha => (hc.2 w μ args H hl ha).mono fun _ _ ⟨r, x, h', μ', e, p, a, b, c⟩ => by
    obtain ⟨r', hw, hp'⟩ := hp _ _ p
    exact ⟨r', x, h', μ', e, hp', a, hw.rep b, c⟩⟩

def tm0 : Tm := .mk 0 0 0 (ByteArray.mk (Array.mk [])) [] [] []
def vz : ValE := (ByteArray.mk (Array.mk []), ⟨0, .mk 0 0 []⟩, tm0)
def sz : SubE := (ByteArray.mk (Array.mk []), .mk [] [] [] [] [], tm0)
def tz : Tym := ⟨ByteArray.mk (Array.mk []), .mk 0 0 [], []⟩

def isR {α : Type} (o : Option α) : Int := if o.isSome then 0 else 21

def resD {α : Type} (enc : α → List D) (z : α) (o : Option α) : V := .tup [.agg ((enc (o.getD z)).map .d), .one (.d (.int .i64 (isR o)))]

theorem resR_wk {α : Type} {enc : α → List D} {zs : List L} {z : α} (hz : WkLs zs ((enc z).map .d)) (o : Option α) : WkV (resR enc zs o) (resD enc z o) := by
  cases o with
  | none =>
    show WkV (.tup _) (.tup _)
    unfold WkV WkV.all
    refine ⟨?_, ?_⟩
    · unfold WkV; exact hz
    · unfold WkV.all
      refine ⟨?_, trivial⟩
      unfold WkV; exact .inl rfl
  | some a => exact WkV.refl _

/-- Values, types, structures of an environment at a path. -/
def valP (vals : List ValE) (subs : List SubE) (p : List ByteArray) : Option ValE := atP (·.1) vals subs farVal p
def typP (typs : List Tym) (subs : List SubE) (p : List ByteArray) : Option Tym := atP (·.name) typs subs farTyp p

def Small (B : Nat) (subs : List SubE) : Prop := ∀ x ∈ subs, stn x.2.1 ≤ B ∧ tmn x.2.2 ≤ B

theorem subAt_tm {subs : List SubE} {B : Nat} (hB : Small B subs) : ∀ (p : List ByteArray) (x : SubE), subAt subs p = some x → tmn x.2.2 ≤ B + p.length
  | [], _, h => by cases h
  | [s], x, h => by have := (hB x (lastOf_mem h).1).2; simp; omega
  | s :: t :: r, x, h => by
    unfold subAt at h
    cases e : subAt subs (t :: r) with
    | none => rw [e] at h; cases h
    | some y =>
      rw [e] at h
      have hy := subAt_tm hB (t :: r) y e
      simp only [Option.bind_some, farSub] at h
      cases e2 : lastOf (·.1) y.2.1.subs s with
      | none => rw [e2] at h; cases h
      | some m =>
        rw [e2] at h
        cases h
        show tmn (selT s y.2.2) ≤ _
        have : tmn (selT s y.2.2) = 1 + tmn y.2.2 := by simp [selT, tmn, tmn.go, ttn.go]
        simp only [List.length_cons] at hy ⊢
        omega

theorem vc_Val (vals : List ValE) (cons : List ConE) (typs : List Tym) (subs : List SubE) (funs : List FunE) (sigs : List SigE) (h0 : vals.length < 1000000000) (h3 : subs.length < 1000000000) (hB : Small 999999990 subs) (p : List ByteArray) (hp : p.length < 1000000000) :
    VC Tryz.prog 10 [envV vals cons typs subs funs sigs, .one (.d (.sl (txts p.reverse)))] [] fun r h' => r = resD encVal vz (valP vals subs p) ∧ h' = [] := by
  refine VC_wk (vc_At kndVal lst39 kinVal vals h0 h3 (fun x hx => (hB x hx).1) rfl farVal (fun x s hx => vc_farVal x s hx) p hp) ?_
  rintro r h' ⟨rfl, rfl⟩
  refine ⟨_, resR_wk ?_ _, rfl, rfl⟩
  exact ⟨.inl rfl, .inl rfl, .inl rfl, .inl rfl, .inr (.inl ⟨rfl, rfl⟩), .inl rfl, .inl rfl, .inl rfl, .inl rfl, .inr (.inl ⟨rfl, rfl⟩), .inr (.inl ⟨rfl, rfl⟩), .inr (.inl ⟨rfl, rfl⟩), trivial⟩

theorem vc_Typ (vals : List ValE) (cons : List ConE) (typs : List Tym) (subs : List SubE) (funs : List FunE) (sigs : List SigE) (h0 : typs.length < 1000000000) (h3 : subs.length < 1000000000) (hB : Small 999999990 subs) (p : List ByteArray) (hp : p.length < 1000000000) :
    VC Tryz.prog 15 [envV vals cons typs subs funs sigs, .one (.d (.sl (txts p.reverse)))] [] fun r h' => r = resD encTym tz (typP typs subs p) ∧ h' = [] := by
  refine VC_wk (vc_At kndTym lst56 kinTyp typs h0 h3 (fun x hx => (hB x hx).1) rfl farTyp (fun x s hx => vc_farTyp x s hx) p hp) ?_
  rintro r h' ⟨rfl, rfl⟩
  refine ⟨_, resR_wk ?_ _, rfl, rfl⟩
  exact ⟨.inl rfl, .inl rfl, .inl rfl, .inr (.inl ⟨rfl, rfl⟩), .inr (.inl ⟨rfl, rfl⟩), trivial⟩

theorem vc_SubD (vals : List ValE) (cons : List ConE) (typs : List Tym) (subs : List SubE) (funs : List FunE) (sigs : List SigE) (h3 : subs.length < 1000000000) (hB : Small 999999990 subs) (p : List ByteArray) (hp : p.length < 1000000000) :
    VC Tryz.prog 14 [envV vals cons typs subs funs sigs, .one (.d (.sl (txts p.reverse)))] [] fun r h' => r = resD encSub sz (subAt subs p) ∧ h' = [] := by
  refine VC_wk (vc_Sub h3 (fun x hx => (hB x hx).1) p hp) ?_
  rintro r h' ⟨rfl, rfl⟩
  refine ⟨_, resR_wk ?_ _, rfl, rfl⟩
  exact ⟨.inl rfl, .inr (.inl ⟨rfl, rfl⟩), .inr (.inl ⟨rfl, rfl⟩), .inr (.inl ⟨rfl, rfl⟩), .inr (.inl ⟨rfl, rfl⟩), .inr (.inl ⟨rfl, rfl⟩), .inl rfl, .inl rfl, .inl rfl, .inl rfl, .inr (.inl ⟨rfl, rfl⟩), .inr (.inl ⟨rfl, rfl⟩), .inr (.inl ⟨rfl, rfl⟩), trivial⟩

/-! How great what stands there is. -/

theorem valP_small {vals : List ValE} {subs : List SubE} {B : Nat} (hv : ∀ x ∈ vals, tyn x.2.1.t ≤ B ∧ tmn x.2.2 ≤ B) (hB : Small B subs) (p : List ByteArray) : tyn ((valP vals subs p).getD vz).2.1.t ≤ B + 1 ∧ tmn ((valP vals subs p).getD vz).2.2 ≤ B + p.length + 1 := by
  cases e : valP vals subs p with
  | none => simp [vz, tm0, tyn, tyn.go, tmn, tmn.go, ttn.go]
  | some x =>
    simp only [Option.getD_some]
    rcases p with _ | ⟨s, _ | ⟨t, r⟩⟩
    · cases e
    · have := hv x (lastOf_mem e).1
      simp; omega
    · have e : (subAt subs (t :: r)).bind (farVal s) = some x := e
      cases e1 : subAt subs (t :: r) with
      | none => rw [e1] at e; cases e
      | some y =>
        rw [e1] at e
        have hy := subAt_tm hB (t :: r) y e1
        have hs := subAt_small (fun x hx => (hB x hx).1) (t :: r) y e1
        simp only [Option.bind_some, farVal] at e
        cases e2 : lastOf (·.name) y.2.1.vals s with
        | none => rw [e2] at e; cases e
        | some m =>
          rw [e2] at e
          cases e
          have hm := sumN_mem (f := vamn) (lastOf_mem e2).1
          obtain ⟨yn, ⟨a, b, c, d, f⟩, yt⟩ := y
          simp only [stn, Stx.vals, vamn] at hs hm
          refine ⟨?_, ?_⟩
          · show tyn m.s.t ≤ _
            omega
          · show tmn (selT s yt) ≤ _
            have : tmn (selT s yt) = 1 + tmn yt := by simp [selT, tmn, tmn.go, ttn.go]
            simp only [List.length_cons] at hy ⊢
            omega

end Go.Vt.Tryz
