/- Own framework, part 26: functions that put one call off till they leave. -/
import Derived.Test.YtladjgdhpfcmjaaGreatDoorVtEval
import Derived.DefersIn
import Derived.RecoverIn
namespace Go.Vt
variable {P : Program}

def VCD (P : Program) (f : FuncId) (avs : List V) (h : AHeap) (Post : AHeap → Prop) : Prop :=
  callable P f = true ∧ ∀ (w : World) (μ : Pl) (args : Array Value), HRep w μ h → avs.length = args.size → (∀ (j : Nat) (v : V) (x : Value), avs[j]? = some v → args[j]? = some x → RepV w μ h v x) →
    CallsDIn Fence.wide 0 P f args .returning w fun e u' w' => u' = .returning ∧ ∃ x h' μ', e = .returned x ∧ Post h' ∧ HRep w' μ' h' ∧ Good w μ h w' μ' h'

theorem VCD_of_vwp {f : FuncId} {fn : Func} {c : Code} {sg : Orders} {avs : List V} {hs : AHeap} {Post : AHeap → Prop} (hm : P.follows .mixedOrders = true) (hf : P.funcs[f]? = some fn) (hb : fn.body = some c) (hcal : callable P f = true)
    (hok : codeOk P fn.ntmps sg c = true) (hlen : avs.length ≤ fn.ntmps) (hv : vwp P hs.length (compile sg c) (vend P hs.length fn.results.toList fun _ h' => Post h') (prm 0 avs) hs) : VCD P f avs hs Post := by
  refine ⟨hcal, fun w μ args H hl ha => (callsDIn_of_wp (R := fun e w' => ∃ x h' μ', e = .returned x ∧ Post h' ∧ HRep w' μ' h' ∧ Good w μ hs w' μ' h') hf hb trivial ?_)⟩
  have hs0 : St w μ hs fn.ntmps [] (prm 0 avs) hs { tmps := args ++ Array.replicate (fn.ntmps - args.size) undef, defers := [] } w := by
    refine ⟨μ, H, Good.refl _ _ _, fun i v hi => ?_, by simp; omega, rfl, fun _ h => by cases h⟩
    obtain ⟨_, hi⟩ := prm_get hi
    simp only [Nat.sub_zero] at hi
    have hlt : i < args.size := by rw [← hl]; exact (List.getElem?_eq_some_iff.1 hi).1
    have : (args ++ Array.replicate (fn.ntmps - args.size) undef).getD i undef = args[i] := by
      simp [Array.getD_eq_getD_getElem?, Array.getElem?_append_left hlt, hlt]
    rw [this]
    exact ha i v _ hi (by simp [hlt])
  refine vwp_sound (r := none) hm c hok ?_ hs0 hv
  have fin : ∀ T' h' a' w', (∃ vs gs h1 r1 h2 ids r hs', vres P T' h' fn.results.toList = some vs ∧ nilOwns h' gs = some h1 ∧ WkV (vone vs) r1 ∧ WkH h1 h2 ∧ fin hs.length ids h2 r1 = some (r, hs') ∧ Post hs') → St w μ hs fn.ntmps [] T' h' a' w' →
      a'.defers = [] ∧ ∃ v, (results fn a'.tmps).run P w' = .ok v w' ∧ ∃ x h'' μ'', Ending.returned v = .returned x ∧ Post h'' ∧ HRep w' μ'' h'' ∧ Good w μ hs w' μ'' h'' := by
    rintro T' h' a' w' ⟨vs, gs, h1, r1, h2, ids, r, hs', e1, q1, q2, q3, e2, hp⟩ ⟨μ', H', G', S', _, hdf⟩
    obtain ⟨x, hx, hr⟩ := results_sound H' S' e1
    obtain ⟨μ1, H1, g1⟩ := nilOwns_sound H' q1
    have g2 : Good w' μ1 h1 w' μ1 h2 := q3.good
    have hr1 := q2.rep ((hr.good g1).good g2)
    obtain ⟨μ'', H'', hr'', G''⟩ := fin_sound (q3.hrep H1) ((G'.trans g1).trans g2) hr1 e2
    exact ⟨hdf.1, x, hx, x, hs', μ'', rfl, hp, H'', G''⟩
  intro e T' h' a' w' hv' s'
  cases e with
  | normal => exact fin T' h' a' w' hv' s'
  | ret => exact fin T' h' a' w' hv' s'
  | exit id => exact hv'.elim

def vpre (P : Program) (n : Nat) : List VCode → (Sl → AHeap → Prop) → Sl → AHeap → Prop
  | [], K, T, h => K T h
  | c :: r, K, T, h => vwp P n c (fun e T h => match e with
    | .normal => vpre P n r K T h
    | _ => False) T h

section
variable {w0 : World} {μ0 : Pl} {h0 : AHeap} {N : Nat} {df : List Deferred} {ops : List Oper}

theorem run_wp_app {r : Option Nat} {n : Nat} {K : Sl → AHeap → Prop} {Q : Exit → Act → World → Prop} {S : List Oper} (hk : ∀ T' h' a' w', K T' h' → St w0 μ0 h0 N df T' h' a' w' → wpListIn (FW r) n P ops.toArray Q S a' w') : ∀ (R : List Oper) {T : Sl} {h : AHeap} {a : Act} {w : World}, (∀ o ∈ R, ∀ d, o.dst = some d → d < N) →
    St w0 μ0 h0 N df T h a w → vrun P ops R T h K → wpListIn (FW r) n P ops.toArray Q (R ++ S) a w
  | [], _, _, _, _, _, s, hv => hk _ _ _ _ hv s
  | o :: R, _, _, _, _, hd, s, hv => go_wp s (hd o (by simp)) hv fun T' h' a' w' hv' s' => run_wp_app hk R (fun o ho => hd o (by simp [ho])) s' hv'

theorem vpre_sound {n : Nat} {sg : Orders} (hm : P.follows .mixedOrders = true) {K : Sl → AHeap → Prop} {Q : Exit → Act → World → Prop} {B : Code} (hB : ∀ T h a w, K T h → St w0 μ0 h0 N df T h a w → B.wpIn (FW none) n P Q a w) : ∀ (As : List Code) {T : Sl} {h : AHeap} {a : Act} {w : World}, (As.all fun c => codeOk P N sg c) = true →
    St w0 μ0 h0 N df T h a w → vpre P h0.length (As.map (compile sg)) K T h → (As.foldr Code.seq B).wpIn (FW none) n P Q a w
  | [], T, h, a, w, _, s, hv => hB T h a w hv s
  | c :: r, T, h, a, w, hok, s, hv => by
    simp only [List.all_cons, Bool.and_eq_true] at hok
    refine wpIn_seq (vwp_sound (r := none) hm c hok.1 ?_ s hv)
    intro e T' h' a' w' hv' s'
    cases e with
    | normal => exact vpre_sound hm hB r hok.2 s' hv'
    | exit id => exact hv'.elim
    | ret => exact hv'.elim
end

theorem VC_of_dfr {f : FuncId} {fn : Func} {As : List Code} {B : Code} {id : Nat} {ops0 : List Oper} {od : Oper} {d : Tmp} {sg : Orders} {avs : List V} {hs : AHeap} {Post : V → AHeap → Prop} (hm : P.follows .mixedOrders = true) (hf : P.funcs[f]? = some fn)
    (hb : fn.body = some (As.foldr Code.seq (.seq (.region id (ops0 ++ [od]).toArray false) B))) (hcal : callable P f = true) (hod : od.op = .defer { callee := .value (.tmp d), args := #[], argTypes := #[] }) (hgd : od.guard = none) (hdst : od.dst = none)
    (okA : (As.all fun c => codeOk P fn.ntmps sg c) = true) (okO : dOk fn.ntmps ops0 = true) (okB : codeOk P fn.ntmps sg B = true) (hlen : avs.length ≤ fn.ntmps)
    (hv : vpre P hs.length (As.map (compile sg)) (fun T h => vops P (ops0.map (cop (ops0 ++ [od]))) T h fun T1 h1 => ∃ g caps, T1.lookup d = some (.one (.fn g caps)) ∧
      vwp P h1.length (compile sg B) (fun e T2 h2 => (∀ k, e ≠ .exit k) ∧ caps.all (capOk h2) = true ∧ ∃ Pd, VCD P g (caps.map .one) h2 Pd ∧ ∀ h3, Pd h3 → vend P hs.length fn.results.toList Post .ret T2 h3) T1 h1) (prm 0 avs) hs) : VC P f avs hs Post := by
  refine ⟨hcal, fun w μ args H hl ha => callsIn_of_wp_defers (F := FW none) hf hb trivial ?_⟩
  have hs0 : St w μ hs fn.ntmps [] (prm 0 avs) hs { tmps := args ++ Array.replicate (fn.ntmps - args.size) undef, defers := [] } w := by
    refine ⟨μ, H, Good.refl _ _ _, fun i v hi => ?_, by simp; omega, rfl, fun _ h => by cases h⟩
    obtain ⟨_, hi⟩ := prm_get hi
    simp only [Nat.sub_zero] at hi
    have hlt : i < args.size := by rw [← hl]; exact (List.getElem?_eq_some_iff.1 hi).1
    have : (args ++ Array.replicate (fn.ntmps - args.size) undef).getD i undef = args[i] := by
      simp [Array.getD_eq_getD_getElem?, Array.getElem?_append_left hlt, hlt]
    rw [this]
    exact ha i v _ hi (by simp [hlt])
  refine vpre_sound hm ?_ As okA hs0 hv
  intro T h a w1 hv1 s1
  refine wpIn_seq (wpIn_region_list ?_)
  have e1 : (ops0 ++ [od]).toArray.toList = ops0 ++ [od] := by simp
  rw [e1]
  refine run_wp_app ?_ ops0 (fun o ho => dOk_spec okO ho) s1 (vops_eq hv1)
  intro T1 h1 a1 w1 ⟨g, caps, hd, hv2⟩ ⟨μ1, H1, G1, S1, hN1, hdf1⟩
  have hrep := S1 d _ hd
  obtain ⟨cs, hev, hcl, hcr⟩ : ∃ cs : Array Value, a1.tmps.getD d undef = .func (.func g) #[] cs ∧ caps.length = cs.size ∧ ∀ (j : Nat) (l : L) (v : Value), caps[j]? = some l → cs[j]? = some v → RepL w1 μ1 h1 l v := by
    revert hrep
    generalize a1.tmps.getD d undef = fv
    intro hrep
    cases hrep with
    | one _ hl => cases hl with | @fn _ _ cs hcl hcr => exact ⟨cs, rfl, hcl, hcr⟩
  refine wpListIn_step fun K hK => ?_
  rw [if_pos (by simp [Region.wanted, hgd])]
  refine ⟨fun _ _ => trivial, ?_⟩
  have hrun : ((od.semAt (FW none).round a1.eval).run P w1) = .ok (.defer { target := .fn (.func g) cs, args := #[] }) w1 := by
    show ((Oper.semAt none a1.eval od).run P w1) = _
    rw [Oper.semAt_none]
    unfold execOp
    rw [hod]
    simp only [resolve]
    show ((do pure (Next.defer (← Deferred.ofValue (a1.tmps.getD d undef) _)) : Sem Next)).run P w1 = _
    rw [hev]
    simp [Deferred.ofValue]
  rw [hrun, Oper.uponIn_defer]
  refine hK _ _ ?_
  rw [hdst]
  show Exit.then (B.wpIn (FW none) 0 P _) _ .normal _ w1
  show B.wpIn (FW none) 0 P _ _ w1
  have hs2 : St w1 μ1 h1 fn.ntmps [{ target := .fn (.func g) cs, args := #[] }] T1 h1 { a1 with defers := { target := .fn (.func g) cs, args := #[] } :: a1.defers } w1 := ⟨μ1, H1, Good.refl _ _ _, S1, hN1, by rw [hdf1.1], fun d hd D hD => by simp only [List.mem_singleton] at hd; subst hd; cases hD⟩
  refine vwp_sound (r := none) hm B okB ?_ hs2 hv2
  intro e T2 h2 a2 w2 ⟨hex, hcap, Pd, hVD, hend⟩ ⟨μ2, H2, G2, S2, hN2, hdf2⟩
  have leave : LeavesIn (FW none) 0 P fn a2.tmps (fun e w' => ∃ r x h' μ', e = .returned x ∧ Post r h' ∧ HRep w' μ' h' ∧ RepV w' μ' h' r x ∧ Good w μ hs w' μ' h') a2.defers .returning w2 := by
    rw [hdf2.1]
    have hargs : ∀ (j : Nat) (v : V) (x : Value), (caps.map V.one)[j]? = some v → cs[j]? = some x → RepV w2 μ2 h2 v x := by
      intro j v x hj hx
      rw [List.getElem?_map, Option.map_eq_some_iff] at hj
      obtain ⟨l, hl, rfl⟩ := hj
      have hr := (hcr j l x hl hx).good G2
      exact capOk_one hr (List.all_eq_true.1 hcap l (List.mem_of_getElem? hl))
    refine leavesIn_cons (f := g) (args := cs) (by simp) (fun h => by simp [FW, Fence.wide] at h) ?_ (fun _ _ => trivial) ?_
    · simp only [invoke]
      rw [callFunc_run hVD.1]
      simp
    · refine (hVD.2 w2 μ2 cs H2 (by simp [hcl]) hargs).mono ?_
      rintro e u' w3 ⟨rfl, x, h3, μ3, rfl, hp3, H3, G3⟩
      show LeavesIn (FW none) 0 P fn a2.tmps _ [] (settle .returning) w3
      obtain ⟨vs, gs, h4, r1, h5, ids, r, hs', e1, q1, q2, q3, e2, hp⟩ := hend h3 hp3
      obtain ⟨y, hy, hr⟩ := results_sound H3 (S2.good G3) e1
      obtain ⟨μ4, H4, g4⟩ := nilOwns_sound H3 q1
      have g5 : Good w3 μ4 h4 w3 μ4 h5 := q3.good
      have hr1 := q2.rep ((hr.good g4).good g5)
      obtain ⟨μ6, H6, hr6, G6⟩ := fin_sound (q3.hrep H4) ((((G1.trans G2).trans G3).trans g4).trans g5) hr1 e2
      exact ⟨y, hy, r, y, hs', μ6, rfl, hp, H6, hr6, G6⟩
  cases e with
  | normal => exact leave
  | ret => exact leave
  | exit k => exact absurd rfl (hex k)

structure DF where
  N : Nat
  pre : List VCode
  ops : List VOp
  slot : Tmp
  rest : VCode
  rs : List ResultVar

structure DfOk (P : Program) (f : FuncId) (x : DF) : Prop where
  fn : ∃ (fn : Func) (As : List Code) (B : Code) (id : Nat) (ops0 : List Oper) (od : Oper) (sg : Orders), P.funcs[f]? = some fn ∧ fn.body = some (As.foldr Code.seq (.seq (.region id (ops0 ++ [od]).toArray false) B)) ∧ callable P f = true ∧
    od.op = .defer { callee := .value (.tmp x.slot), args := #[], argTypes := #[] } ∧ od.guard = none ∧ od.dst = none ∧ (As.all fun c => codeOk P fn.ntmps sg c) = true ∧ dOk fn.ntmps ops0 = true ∧ codeOk P fn.ntmps sg B = true ∧
    fn.ntmps = x.N ∧ fn.results.toList = x.rs ∧ As.map (compile sg) = x.pre ∧ ops0.map (cop (ops0 ++ [od])) = x.ops ∧ compile sg B = x.rest

abbrev CallerD := FuncId → List V → AHeap → Option AHeap

def evPre (P : Program) (call : Caller) (n fuel : Nat) : List VCode → (Sl → AHeap → Option Res2) → Sl → AHeap → Option Res2
  | [], K, T, h => K T h
  | c :: r, K, T, h => ev P call n fuel c (fun e T h => match e with
    | .normal => evPre P call n fuel r K T h
    | _ => none) T h

def evDf (P : Program) (call : Caller) (calld : CallerD) (fuel : Nat) (x : DF) (avs : List V) (h : AHeap) : Option Res2 :=
  if avs.length ≤ x.N then evPre P call h.length fuel x.pre (fun T h0 => match evOps P call x.ops T h0 with
    | some (T1, h1) => match T1.lookup x.slot with
      | some (.one (.fn g caps)) => ev P call h1.length fuel x.rest (fun e T2 h2 => match e with
        | .exit _ => none
        | _ => if caps.all (capOk h2) = true then (match calld g (caps.map .one) h2 with
          | some h3 => evEnd P h.length x.rs .ret T2 h3
          | none => none) else none) T1 h1
      | _ => none
    | none => none) (prm 0 avs) h else none

def TellsD (P : Program) (calld : CallerD) : Prop := ∀ g avs h h', calld g avs h = some h' → VCD P g avs h fun h'' => h'' = h'

theorem evPre_sound {call : Caller} (hc : Tells P call) {n fuel : Nat} {x : Res2} : ∀ {cs : List VCode} {K : Sl → AHeap → Option Res2} {T : Sl} {h : AHeap}, evPre P call n fuel cs K T h = some x → ∀ {Q : Sl → AHeap → Prop}, (∀ T h, K T h = some x → Q T h) → vpre P n cs Q T h
  | [], _, _, _, he, _, hq => hq _ _ he
  | c :: r, K, T, h, he, Q, hq => by
    unfold evPre at he
    unfold vpre
    refine ev_sound hc fuel c _ T h he fun e T h hk => ?_
    cases e with
    | normal => exact evPre_sound hc hk hq
    | exit id => cases hk
    | ret => cases hk

theorem evDf_sound (hm : P.follows .mixedOrders = true) {call : Caller} (hc : Tells P call) {calld : CallerD} (hcd : TellsD P calld) {fuel : Nat} {f : FuncId} {x : DF} (hx : DfOk P f x) {avs : List V} {h : AHeap} {r : V} {h' : AHeap} (he : evDf P call calld fuel x avs h = some (r, h')) :
    VC P f avs h fun r' h'' => r' = r ∧ h'' = h' := by
  obtain ⟨fn, As, B, id, ops0, od, sg, e1, e2, e3, e4, e5, e6, e7, e8, e9, e10, e11, e12, e13, e14⟩ := hx.fn
  unfold evDf at he
  split at he
  · rename_i hlen
    refine VC_of_dfr hm e1 e2 e3 e4 e5 e6 e7 e8 e9 (by rw [e10]; exact hlen) ?_
    rw [e12, e13, e14, e11]
    refine evPre_sound hc he fun T h0 hk => ?_
    split at hk
    · rename_i T1 h1 ho
      refine evOps_sound hc ho ?_
      split at hk
      · rename_i g caps hl
        refine ⟨g, caps, hl, ev_sound hc fuel x.rest _ T1 h1 hk fun e T2 h2 hk2 => ?_⟩
        split at hk2
        · cases hk2
        · rename_i hne
          split at hk2
          · rename_i hcap
            split at hk2
            · rename_i h3 hd
              exact ⟨fun k hk => hne k hk, hcap, _, hcd _ _ _ _ hd, fun h4 e => by subst e; exact evEnd_sound ⟨rfl, rfl⟩ hk2⟩
            · cases hk2
          · cases hk2
      · cases hk
    · cases hk
  · cases he

def plainV : VCode → Bool
  | .seq a b => plainV a && plainV b
  | .cond _ a b => plainV a && plainV b
  | .block _ c => plainV c
  | .rangeF _ _ _ _ => false
  | _ => true

theorem codeOk_of_R {N : Nat} {sg : Orders} : ∀ (c : Code), codeOkR P N sg c = true → plainV (compile sg c) = true → codeOk P N sg c = true := by
  intro c
  induction c with
  | seq x y ihx ihy =>
    intro h hp
    simp only [codeOkR, compile, plainV, Bool.and_eq_true] at h hp
    simp only [codeOk, Bool.and_eq_true]
    exact ⟨ihx h.1 hp.1, ihy h.2 hp.2⟩
  | cond o x y ihx ihy =>
    intro h hp
    simp only [codeOkR, compile, plainV, Bool.and_eq_true] at h hp
    simp only [codeOk, Bool.and_eq_true]
    exact ⟨ihx h.1 hp.1, ihy h.2 hp.2⟩
  | block id c ih =>
    intro h hp
    simp only [codeOkR, compile, plainV] at h hp
    simp only [codeOk]
    exact ih h hp
  | rangeFunc => intro h hp; simp only [compile, plainV] at hp; cases hp
  | region => intro h _; exact h
  | loop => intro h _; exact h
  | skip => intro _ _; rfl
  | exit => intro _ _; rfl
  | ret => intro _ _; rfl
  | _ => intro _ _; rfl

def evPlainD (P : Program) (tbl : Tbl) (call : Caller) (fuel : Nat) : CallerD := fun f avs h => match tbl f with
  | some (N, vc, rs) => if avs.length ≤ N ∧ plainV vc = true then (match ev P call h.length fuel vc (evEnd P h.length rs) (prm 0 avs) h with
    | some (_, h') => some h'
    | none => none) else none
  | none => none

theorem evPlainD_tells (hm : P.follows .mixedOrders = true) {tbl : Tbl} (ht : TblOk P tbl) {call : Caller} (hc : Tells P call) {fuel : Nat} : TellsD P (evPlainD P tbl call fuel) := by
  intro f avs h h' he
  unfold evPlainD at he
  split at he
  · rename_i N vc rs hf
    split at he
    · rename_i hlen
      split at he
      · rename_i r h1 hv
        cases he
        obtain ⟨fn, c, sg, a1, a2, a3, a4, a5, a6, a7⟩ := (ht f N vc rs hf).fn
        subst a3; subst a4; subst a7
        exact VCD_of_vwp hm a1 a2 a5 (codeOk_of_R c a6 hlen.2) hlen.1 (ev_sound hc fuel _ _ _ _ hv fun e T h hk => evEnd_sound (r := r) (Post := fun _ h'' => h'' = h') rfl hk)
      · cases he
    · cases he
  · cases he

def evAll (P : Program) (tbl : Tbl) (dtbl : FuncId → Option DF) (own : Caller) (ownD : CallerD) (fuel : Nat) : Nat → Caller
  | 0, _, _, _ => none
  | d + 1, f, avs, h => match own f avs h with
    | some x => some x
    | none => match dtbl f with
      | some x => evDf P (evAll P tbl dtbl own ownD fuel d) (fun g avs h => match ownD g avs h with
        | some h' => some h'
        | none => evPlainD P tbl (evAll P tbl dtbl own ownD fuel d) fuel g avs h) fuel x avs h
      | none => match tbl f with
        | some (N, vc, rs) => if avs.length ≤ N then (match ev P (evAll P tbl dtbl own ownD fuel d) h.length fuel vc (evEnd P h.length rs) (prm 0 avs) h with
          | some x => some x
          | none => ev P (evAll P tbl dtbl own ownD fuel d) h.length fuel vc (evEndD P h.length rs) (prm 0 avs) h) else none
        | none => none

theorem evAll_tells (hm : P.follows .mixedOrders = true) {tbl : Tbl} (ht : TblOk P tbl) {dtbl : FuncId → Option DF} (hd : ∀ f x, dtbl f = some x → DfOk P f x) {own : Caller} (ho : Tells P own) {ownD : CallerD} (hoD : TellsD P ownD) {fuel : Nat} : ∀ d, Tells P (evAll P tbl dtbl own ownD fuel d)
  | 0 => fun f avs h r h' he => by cases he
  | d + 1 => fun f avs h r h' he => by
    have ih := evAll_tells hm ht hd ho hoD (fuel := fuel) d
    unfold evAll at he
    split at he
    · rename_i x hx; cases he; exact ho _ _ _ _ _ hx
    · split at he
      · rename_i x hx
        refine evDf_sound hm ih ?_ (hd f x hx) he
        intro g avs' h1 h2 hg
        simp only at hg
        split at hg
        · rename_i h3 h4; cases hg; exact hoD _ _ _ _ h4
        · exact evPlainD_tells hm ht ih _ _ _ _ hg
      · split at he
        · rename_i N vc rs hf
          split at he
          · rename_i hlen
            split at he
            · rename_i x hx
              cases he
              exact VC_of_fn hm (ht f N vc rs hf) hlen (ev_sound ih fuel vc _ _ _ hx fun e T h hk => evEnd_sound ⟨rfl, rfl⟩ hk)
            · exact VC_of_fn hm (ht f N vc rs hf) hlen (ev_sound ih fuel vc _ _ _ he fun e T h hk => evEndD_sound ⟨rfl, rfl⟩ hk)
          · cases he
        · cases he

end Go.Vt
