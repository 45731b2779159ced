/- Own framework, part 20: a function's contract out of its code at the level of values. -/
import Derived.Test.YtladjgdhpfcmjaaGreatDoorVtCode
namespace Go.Vt

def vres (P : Program) (T : Sl) (h : AHeap) : List ResultVar → Option (List V)
  | [] => some []
  | .tmp t :: r => match T.lookup t, vres P T h r with
    | some v, some vs => some (v :: vs)
    | _, _ => none
  | .cell a t :: r => match ti P t, T.lookup a with
    | some i, some (.one l) => match vload h i l, vres P T h r with
      | some v, some vs => some (v :: vs)
      | _, _ => none
    | _, _ => none

def vone : List V → V
  | [v] => v
  | vs => .tup vs

variable {P : Program} {w w0 : World} {μ μ0 : Pl} {h h0 : AHeap} {T : Sl} {a : Act} {N : Nat} {df : List Deferred}

theorem loadAt_var {t : TypeId} {x y : Value} (hr : (Instr.loadAt t x).run P w = .ok y w) : (do loadVar t (← asAddr x)).run P w = .ok y w := by
  cases x with
  | pointer p =>
    cases p with
    | some a => exact hr
    | none => simp [Instr.loadAt, Instr.sureAddr, stuck] at hr
  | _ => simp [Instr.loadAt, Instr.sureAddr, stuck] at hr

def resOne (tmps : Array Value) : ResultVar → Sem Value
  | .tmp t => pure (tmps.getD t undef)
  | .cell c t => do loadVar t (← asAddr (tmps.getD c undef))

theorem results_eq (fn : Func) (tmps : Array Value) : results fn tmps = (do let vs ← fn.results.mapM (resOne tmps); pure (if h : vs.size = 1 then vs[0] else .tuple vs)) := by
  unfold results
  have : (fun x => match x with
      | .tmp t => pure (tmps.getD t undef)
      | .cell c t => do loadVar t (← asAddr (tmps.getD c undef)) : ResultVar → Sem Value) = resOne tmps := by
    funext x; cases x <;> rfl
  rw [← this]
  rfl

theorem vres_sound (H : HRep w μ h) (s : SRep w μ h T a) : ∀ {rs : List ResultVar} {vs : List V}, vres P T h rs = some vs → ∃ xs : List Value, (rs.mapM (resOne a.tmps)).run P w = .ok xs w ∧ vs.length = xs.length ∧ ∀ (j : Nat) (v : V) (x : Value), vs[j]? = some v → xs[j]? = some x → RepV w μ h v x
  | [], vs, hv => by cases hv; exact ⟨[], rfl, rfl, by simp⟩
  | .tmp t :: r, vs, hv => by
    unfold vres at hv
    split at hv
    · rename_i v vs' h1 h2
      cases hv
      obtain ⟨xs, e1, e2, e3⟩ := vres_sound H s h2
      refine ⟨a.tmps.getD t undef :: xs, ?_, by simp [e2], ?_⟩
      · simp only [List.mapM_cons, resOne, Sem.run_bind, Sem.run_pure, Result.andThen, e1]
      · intro j u x hj hx
        cases j with
        | zero => simp only [List.getElem?_cons_zero, Option.some.injEq] at hj hx; subst hj; subst hx; exact s _ _ h1
        | succ j => exact e3 j u x (by simpa using hj) (by simpa using hx)
    · cases hv
  | .cell c t :: r, vs, hv => by
    unfold vres at hv
    split at hv
    · rename_i i l hi hl
      split at hv
      · rename_i v vs' h1 h2
        cases hv
        obtain ⟨xs, e1, e2, e3⟩ := vres_sound H s h2
        obtain ⟨y, hy, hr⟩ : ∃ y, (Instr.loadAt t (a.tmps.getD c undef)).run P w = .ok y w ∧ RepV w μ h v y := by
          have hlv := s _ _ hl
          revert hlv
          generalize a.tmps.getD c undef = p
          intro hlv
          cases hlv with
          | one _ hl' => exact vload_sound H hi hl' h1
          | top => simp [vload] at h1
        refine ⟨y :: xs, ?_, by simp [e2], ?_⟩
        · have hy' := loadAt_var hy
          have hy'' : (resOne a.tmps (.cell c t)).run P w = .ok y w := hy'
          simp only [List.mapM_cons, Sem.run_bind, hy'', Sem.run_pure, Result.andThen, e1]
        · intro j u x hj hx
          cases j with
          | zero => simp only [List.getElem?_cons_zero, Option.some.injEq] at hj hx; subst hj; subst hx; exact hr
          | succ j => exact e3 j u x (by simpa using hj) (by simpa using hx)
      · cases hv
    · cases hv

theorem results_sound (H : HRep w μ h) (s : SRep w μ h T a) {fn : Func} {vs : List V} (hv : vres P T h fn.results.toList = some vs) : ∃ x, (results fn a.tmps).run P w = .ok x w ∧ RepV w μ h (vone vs) x := by
  obtain ⟨xs, e1, e2, e3⟩ := vres_sound H s hv
  rw [results_eq, Array.mapM_eq_mapM_toList]
  have e1' : ((List.toArray <$> List.mapM (resOne a.tmps) fn.results.toList : Sem (Array Value))).run P w = .ok xs.toArray w := by
    rw [Sem.run_map, e1]; rfl
  match xs, vs, e2, e3 with
  | [x], [v], _, e3 =>
    refine ⟨x, ?_, e3 0 v x rfl rfl⟩
    rw [Sem.run_bind, e1']
    rfl
  | [], [], _, e3 =>
    refine ⟨.tuple #[], ?_, .tup rfl (by simp)⟩
    rw [Sem.run_bind, e1']
    rfl
  | x :: y :: xs, v :: u :: vs, e2, e3 =>
    refine ⟨.tuple (x :: y :: xs).toArray, ?_, .tup (by simpa using e2) fun j l z hj hz => e3 j l z hj (by simpa using hz)⟩
    rw [Sem.run_bind, e1']
    simp [Result.andThen]
  | [], _ :: _, e2, _ => cases e2
  | _ :: _, [], e2, _ => cases e2
  | [_], _ :: _ :: _, e2, _ => simp at e2
  | _ :: _ :: _, [_], e2, _ => simp at e2

def prm : Nat → List V → Sl
  | _, [] => []
  | k, v :: r => (k, v) :: prm (k + 1) r

theorem prm_get : ∀ {vs : List V} {k i : Nat} {v : V}, (prm k vs).lookup i = some v → k ≤ i ∧ vs[i - k]? = some v
  | [], _, _, _, h => by cases h
  | u :: r, k, i, v, h => by
    unfold prm at h
    rw [List.lookup_cons] at h
    split at h
    · rename_i e
      have : i = k := by simpa using e
      subst this
      cases h
      exact ⟨Nat.le_refl _, by simp⟩
    · rename_i e
      have hne : i ≠ k := by simpa using e
      obtain ⟨h1, h2⟩ := prm_get h
      refine ⟨by omega, ?_⟩
      rw [show i - k = (i - (k + 1)) + 1 by omega]
      simpa using h2

def vend (P : Program) (n : Nat) (rs : List ResultVar) (Post : V → AHeap → Prop) : VX → Sl → AHeap → Prop
  | .exit _ => fun _ _ => False
  | _ => fun T h => ∃ vs gs h1 r1 h2 ids r hs, vres P T h rs = some vs ∧ nilOwns h gs = some h1 ∧ WkV (vone vs) r1 ∧ WkH h1 h2 ∧ fin n ids h2 r1 = some (r, hs) ∧ Post r hs

theorem VC_of_vwp {f : FuncId} {fn : Func} {c : Code} {sg : Orders} {avs : List V} {hs : AHeap} {Post : V → AHeap → Prop} (hm : P.follows .mixedOrders = true) (hf : P.funcs[f]? = some fn) (hb : fn.body = some c) (hcal : callable P f = true)
    (hok : codeOk P fn.ntmps sg c = true) (hlen : avs.length ≤ fn.ntmps) (hv : vwp P hs.length (compile sg c) (vend P hs.length fn.results.toList Post) (prm 0 avs) hs) : VC P f avs hs Post := by
  refine ⟨hcal, fun w μ args H hl ha => callsIn_of_wp hf hb trivial ?_⟩
  have hs0 : St w μ hs fn.ntmps [] (prm 0 avs) hs { tmps := args ++ Array.replicate (fn.ntmps - args.size) undef, defers := [] } w := by
    refine ⟨μ, H, Good.refl _ _ _, fun i v hi => ?_, by simp; omega, rfl, fun _ h => by cases h⟩
    obtain ⟨_, hi⟩ := prm_get hi
    simp only [Nat.sub_zero] at hi
    have hlt : i < args.size := by rw [← hl]; exact (List.getElem?_eq_some_iff.1 hi).1
    have : (args ++ Array.replicate (fn.ntmps - args.size) undef).getD i undef = args[i] := by
      simp [Array.getD_eq_getD_getElem?, Array.getElem?_append_left hlt, hlt]
    rw [this]
    exact ha i v _ hi (by simp [hlt])
  refine vwp_sound (r := none) hm c hok ?_ hs0 hv
  have fin : ∀ T' h' a' w', (∃ vs gs h1 r1 h2 ids r hs', vres P T' h' fn.results.toList = some vs ∧ nilOwns h' gs = some h1 ∧ WkV (vone vs) r1 ∧ WkH h1 h2 ∧ fin hs.length ids h2 r1 = some (r, hs') ∧ Post r hs') → St w μ hs fn.ntmps [] T' h' a' w' →
      a'.defers = [] ∧ ∃ v, (results fn a'.tmps).run P w' = .ok v w' ∧ ∃ r x h'' μ'', Ending.returned v = .returned x ∧ Post r h'' ∧ HRep w' μ'' h'' ∧ RepV w' μ'' h'' r x ∧ Good w μ hs w' μ'' h'' := by
    rintro T' h' a' w' ⟨vs, gs, h1, r1, h2, ids, r, hs', e1, q1, q2, q3, e2, hp⟩ ⟨μ', H', G', S', _, hdf⟩
    obtain ⟨x, hx, hr⟩ := results_sound H' S' e1
    obtain ⟨μ1, H1, g1⟩ := nilOwns_sound H' q1
    have g2 : Good w' μ1 h1 w' μ1 h2 := q3.good
    have hr1 := q2.rep ((hr.good g1).good g2)
    obtain ⟨μ'', H'', hr'', G''⟩ := fin_sound (q3.hrep H1) ((G'.trans g1).trans g2) hr1 e2
    exact ⟨hdf.1, x, hx, r, x, hs', μ'', rfl, hp, H'', hr'', G''⟩
  intro e T' h' a' w' hv' s'
  cases e with
  | normal => exact fin T' h' a' w' hv' s'
  | ret => exact fin T' h' a' w' hv' s'
  | exit id => exact hv'.elim

end Go.Vt
