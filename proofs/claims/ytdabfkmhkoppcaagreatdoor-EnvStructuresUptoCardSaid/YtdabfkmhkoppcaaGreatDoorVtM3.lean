/- The law: what stands for a type, a structure, a functor, a signature, at any path. -/
import Derived.Test.YtdabfkmhkoppcaaGreatDoorVtLB
import Derived.Test.YtdabfkmhkoppcaaGreatDoorVtF4
import Derived.Test.YtdabfkmhkoppcaaGreatDoorVtG1
import Derived.Test.YtdabfkmhkoppcaaGreatDoorVtEnvE
set_option maxRecDepth 100000
set_option linter.unusedSimpArgs false
namespace Go.Vt.Tryz
open Go.Vt renaming ob_some → Jm, vbool_eq → Jo, vif_tt → Jp, vif_ff → Jq, vD_bool → Jr, wp_skip → Ju, wp_ops → Jv, wp_seq → Jy, wp_cond → Jz, wp_ret → JC, th_normal → JD, th_ret → JF, ops_nil → JJ, ops_cons → JK, go_none → JL, go_some → JM, cond_tt → JN, cond_ff → JO, put_some → JP, put_none → JQ, asB → JR, asL → JS, asFn → JU, opd_tmp → JV, opd_bool → JX, opd_func → J12, so_move → J13, so_assign → J14, so_pick → J15, so_box → J16, so_not → J18, so_extract → J1b, so_call → J1e, esc_func → J1g, bobj_none → J1h, lk_cons → J1i, nilC_tmp → J1j, so_load → J1o, so_alloc → J1p, so_store → J1q, so_bin → J1r, so_fieldAddr → J1s, vload → J1t, mkV → J1u, vstore → J1v, vcells → J1w, known → J1x, toDs → J1y, toD → J1z, fzLs → J1A, fzL → J1B, splice → J1D, vfieldAddr → J1E, opds → J1N, vbin2 → J1P, vbin → J1Q, vint → J1R, vstr → J1S, vpick → J1W, vundef → J2e, gb_b → J2f, sb_tf → J2j, sb_ft → J2k, putBack → J2r, fzIds → J2s, lentVs → J2t, lentV → J2u, lentLs → J2v, lentL → J2w
open List renaming contains_cons → Jg, contains_nil → Jh, lookup_nil → J2y, getElem?_cons_zero → J2z, getElem?_cons_succ → J2A, take_succ_cons → J2C, take_zero → J2D, take_nil → J2E, drop_succ_cons → J2F, drop_zero → J2G, drop_nil → J2H, length_cons → J2I, length_nil → J2J, append_nil → J2K, nil_append → J2L, cons_append → J2M, map_nil → J2O, set_cons_zero → J2P, set_cons_succ → J2Q, all_nil → J2T
open Bool renaming or_false → Jk, and_true → J2V, false_eq_true → J39, not_true → J3a
open Nat renaming reduceBEq → J2X, reduceLeDiff → J30, reduceAdd → J31, zero_add → J3c, le_refl → J3d, add_zero → J3e
open Option renaming map_some → J34, bind_some → J36
open Go.Proofs

def fnS (x : FnE) : Nat := x.1.length + stn x.2.1 + x.2.2.1.length + stn x.2.2.2

theorem subP_small {subs : List SubE} {B : Nat} (hB : Small B subs) (p : List ByteArray) : stn ((subAt subs p).getD sz).2.1 ≤ B + 1 ∧ tmn ((subAt subs p).getD sz).2.2 ≤ B + p.length + 1 := by
  cases e : subAt subs p with
  | none => simp [sz, tm0, stn, sumN, stn.goS, stn.goF, stn.goG, tmn, tmn.go, ttn.go]
  | some x =>
    have h1 := subAt_small (fun x hx => (hB x hx).1) p x e
    have h2 := subAt_tm hB p x e
    simp only [Option.getD_some]
    omega

theorem funP_small {funs : List FunE} {subs : List SubE} {B : Nat} (hv : ∀ x ∈ funs, fnS x.2.1 ≤ B ∧ tmn x.2.2 ≤ B) (hB : Small B subs) (p : List ByteArray) : fnS ((funP funs subs p).getD fz).2.1 ≤ B + 2 ∧ tmn ((funP funs subs p).getD fz).2.2 ≤ B + p.length + 1 := by
  cases e : funP funs subs p with
  | none => simp [fz, fnS, tm0, stn, sumN, stn.goS, stn.goF, stn.goG, tmn, tmn.go, ttn.go]
  | some x =>
    simp only [Option.getD_some]
    rcases p with _ | ⟨s, _ | ⟨t, r⟩⟩
    · cases e
    · have := hv x (lastOf_mem e).1
      simp; omega
    · have e : (subAt subs (t :: r)).bind (farFun s) = some x := e
      cases e1 : subAt subs (t :: r) with
      | none => rw [e1] at e; cases e
      | some y =>
        rw [e1] at e
        have hy := subAt_tm hB (t :: r) y e1
        have hs := subAt_small (fun x hx => (hB x hx).1) (t :: r) y e1
        simp only [Option.bind_some, farFun] at e
        cases e2 : lastOf (·.1) y.2.1.funs s with
        | none => rw [e2] at e; cases e
        | some m =>
          rw [e2] at e
          cases e
          have hm := stn_memF (lastOf_mem e2).1
          obtain ⟨yn, ⟨a, b, c, d, f⟩, yt⟩ := y
          simp only [stn, Stx.funs] at hs hm
          refine ⟨?_, ?_⟩
          · show fnS m.2 ≤ _
            unfold fnS
            omega
          · show tmn (selT s yt) ≤ _
            have : tmn (selT s yt) = 1 + tmn yt := by simp [selT, tmn, tmn.go, ttn.go]
            simp only [List.length_cons] at hy ⊢
            omega

theorem sigP_small {sigs : List SigE} {subs : List SubE} {B : Nat} (hv : ∀ x ∈ sigs, x.2.1.length + stn x.2.2 ≤ B) (hB : Small B subs) (p : List ByteArray) : ((sigP sigs subs p).getD gz).2.1.length + stn ((sigP sigs subs p).getD gz).2.2 ≤ B + 1 := by
  cases e : sigP sigs subs p with
  | none => simp [gz, stn, sumN, stn.goS, stn.goF, stn.goG]
  | some x =>
    simp only [Option.getD_some]
    rcases p with _ | ⟨s, _ | ⟨t, r⟩⟩
    · cases e
    · have := hv x (lastOf_mem e).1
      omega
    · have e : (subAt subs (t :: r)).bind (farSig s) = some x := e
      cases e1 : subAt subs (t :: r) with
      | none => rw [e1] at e; cases e
      | some y =>
        rw [e1] at e
        have hs := subAt_small (fun x hx => (hB x hx).1) (t :: r) y e1
        simp only [Option.bind_some, farSig] at e
        cases e2 : lastOf (·.1) y.2.1.sigs s with
        | none => rw [e2] at e; cases e
        | some m =>
          rw [e2] at e
          cases e
          have hm := stn_memG (lastOf_mem e2).1
          obtain ⟨yn, ⟨a, b, c, d, f⟩, yt⟩ := y
          simp only [stn, Stx.sigs] at hs hm
          show m.2.1.length + stn m.2.2 ≤ _
          omega

theorem resD_of {α : Type} {P : Program} {f : FuncId} {avs : List V} {enc : α → List D} {zs : List L} {z : α} {o : Option α} (h : VC P f avs [] fun r h' => r = resR enc zs o ∧ h' = []) (hz : WkLs zs ((enc z).map .d)) : VC P f avs [] fun r h' => r = resD enc z o ∧ h' = [] := by
  refine VC_wk h ?_
  rintro r h' ⟨rfl, rfl⟩
  exact ⟨_, resR_wk hz _, rfl, rfl⟩

set_option maxHeartbeats 4000000 in
theorem vc_EnvStructures (vals : List ValE) (cons : List ConE) (typs : List Tym) (subs : List SubE) (funs : List FunE) (sigs : List SigE) (p : List ByteArray)
    (h0 : vals.length < 100000000) (h1 : cons.length < 100000000) (h2 : typs.length < 100000000) (h3 : subs.length < 100000000) (h4 : funs.length < 100000000) (h5 : sigs.length < 100000000) (hp : p.length < 10000000)
    (ht : ∀ x ∈ typs, tymn x ≤ 10000000) (hB : Small 10000000 subs) (hf : ∀ x ∈ funs, fnS x.2.1 ≤ 10000000 ∧ tmn x.2.2 ≤ 10000000) (hg : ∀ x ∈ sigs, x.2.1.length + stn x.2.2 ≤ 10000000) :
    VC Tryz.prog 5 [envV vals cons typs subs funs sigs, .one (.d (.sl (txts p.reverse)))] [] fun r h' => r = .one (.d (.bool true)) ∧ h' = [] := by
  have hB' : Small 999999990 subs := fun x hx => ⟨by have := (hB x hx).1; omega, by have := (hB x hx).2; omega⟩
  have own1 := vc_Own vals cons typs subs funs sigs (by omega) (by omega) (by omega) (by omega) (by omega) (by omega)
  have typ1 := vc_Typ vals cons typs subs funs sigs (by omega) (by omega) hB' p (by omega)
  have sub1 := vc_SubD vals cons typs subs funs sigs (by omega) hB' p (by omega)
  have fun1 := vc_Fun vals cons typs subs funs sigs (by omega) (by omega) hB' p (by omega)
  have sig1 := vc_Sig vals cons typs subs funs sigs (by omega) (by omega) hB' p (by omega)
  have typ2 := resD_of (z := tz) (vc_rTyp vals cons typs subs funs sigs (by omega) (by omega) (fun x hx => (hB' x hx).1) p (by omega)) ⟨.inl rfl, .inl rfl, .inl rfl, .inr (.inl ⟨rfl, rfl⟩), .inr (.inl ⟨rfl, rfl⟩), trivial⟩
  have sub2 := resD_of (z := sz) (vc_rSub vals cons typs subs funs sigs (by omega) (fun x hx => (hB' x hx).1) p (by omega)) ⟨.inl rfl, .inr (.inl ⟨rfl, rfl⟩), .inr (.inl ⟨rfl, rfl⟩), .inr (.inl ⟨rfl, rfl⟩), .inr (.inl ⟨rfl, rfl⟩), .inr (.inl ⟨rfl, rfl⟩), .inl rfl, .inl rfl, .inl rfl, .inl rfl, .inr (.inl ⟨rfl, rfl⟩), .inr (.inl ⟨rfl, rfl⟩), .inr (.inl ⟨rfl, rfl⟩), trivial⟩
  have fun2 := resD_of (z := fz) (vc_rFun vals cons typs subs funs sigs (by omega) (by omega) (fun x hx => (hB' x hx).1) p (by omega)) ⟨.inl rfl, .inr (.inl ⟨rfl, rfl⟩), .inr (.inl ⟨rfl, rfl⟩), .inr (.inl ⟨rfl, rfl⟩), .inr (.inl ⟨rfl, rfl⟩), .inr (.inl ⟨rfl, rfl⟩), .inr (.inl ⟨rfl, rfl⟩), .inr (.inl ⟨rfl, rfl⟩), .inr (.inl ⟨rfl, rfl⟩), .inr (.inl ⟨rfl, rfl⟩), .inr (.inl ⟨rfl, rfl⟩), .inr (.inl ⟨rfl, rfl⟩), .inr (.inl ⟨rfl, rfl⟩), .inl rfl, .inl rfl, .inl rfl, .inl rfl, .inr (.inl ⟨rfl, rfl⟩), .inr (.inl ⟨rfl, rfl⟩), .inr (.inl ⟨rfl, rfl⟩), trivial⟩
  have sig2 := resD_of (z := gz) (vc_rSig vals cons typs subs funs sigs (by omega) (by omega) (fun x hx => (hB' x hx).1) p (by omega)) ⟨.inl rfl, .inr (.inl ⟨rfl, rfl⟩), .inr (.inl ⟨rfl, rfl⟩), .inr (.inl ⟨rfl, rfl⟩), .inr (.inl ⟨rfl, rfl⟩), .inr (.inl ⟨rfl, rfl⟩), .inr (.inl ⟨rfl, rfl⟩), trivial⟩
  rw [resD] at typ1 typ2 sub1 sub2 fun1 fun2 sig1 sig2
  have q1 := typP_small ht hB p
  have q2 := subP_small hB p
  have q3 := funP_small hf hB p
  have q4 := sigP_small hg hB p
  generalize (typP typs subs p).getD tz = x1 at typ1 typ2 q1
  generalize isR (typP typs subs p) = i1 at typ1 typ2
  generalize (subAt subs p).getD sz = x2 at sub1 sub2 q2
  generalize isR (subAt subs p) = i2 at sub1 sub2
  generalize (funP funs subs p).getD fz = x3 at fun1 fun2 q3
  generalize isR (funP funs subs p) = i3 at fun1 fun2
  generalize (sigP sigs subs p).getD gz = x4 at sig1 sig2 q4
  generalize isR (sigP sigs subs p) = i4 at sig1 sig2
  have w1 : tymn x1 = 1 + tyn x1.t + sumN ctn x1.cts := rfl
  have w2 : fnS x3.2.1 = x3.2.1.1.length + stn x3.2.1.2.1 + x3.2.1.2.2.1.length + stn x3.2.1.2.2.2 := rfl
  have c1 := vc_same8 x1.t (by omega)
  have c2 := vc_ctors x1.cts (by omega)
  have c3 := vc_sameStr x2.2.1 (by omega)
  have c4 := vc_one x2.2.2 (by omega)
  have c5 := vc_ints23 x3.2.1.1 (by omega)
  have c6 := vc_sameStr x3.2.1.2.1 (by omega)
  have c7 := vc_sameAb x3.2.1.2.2.1 x3.2.1.2.2.2 (by omega) (vc_sameStr x3.2.1.2.2.2 (by omega))
  have c8 := vc_one x3.2.2 (by omega)
  have c9 := vc_sameAb x4.2.1 x4.2.2 (by omega) (vc_sameStr x4.2.2 (by omega))
  unfold envV at *
  obtain ⟨a0, ⟨a1, a2, a3⟩, a4⟩ := x1
  obtain ⟨b0, ⟨b1, b2, b3, b4, b5⟩, ⟨d1, d2, d3, d4, d5, d6, d7⟩⟩ := x2
  obtain ⟨e0, ⟨l1, ⟨e1, e2, e3, e4, e5⟩, l2, ⟨f1, f2, f3, f4, f5⟩⟩, ⟨g1, g2, g3, g4, g5, g6, g7⟩⟩ := x3
  obtain ⟨k0, l3, ⟨k1, k2, k3, k4, k5⟩⟩ := x4
  simp only [stV, abV, tyV, tmV, encSub, encSt, encTm, encTym, encTy, encFun, encFn, encSig, List.map_cons, List.map_nil, List.cons_append, List.nil_append] at typ1 typ2 sub1 sub2 fun1 fun2 sig1 sig2 c1 c2 c3 c4 c5 c6 c7 c8 c9
  refine VC_of_fn mixed fn5 (by simp) ?_
  show vwp Tryz.prog 0 vc5 _ [(0, .agg [.d (.sl (vals.map encVal)), .d (.sl (cons.map encCon)), .d (.sl (typs.map encTym)), .d (.sl (subs.map encSub)), .d (.sl (funs.map encFun)), .d (.sl (sigs.map encSig))]), (1, .one (.d (.sl (txts p.reverse))))] []
  unfold vc5
  rw [vwpI_eq]
  simp -implicitDefEqProofs only [Jg, Jh, Jk, Jm, Jp, Jv, Jy, JD, JJ, JK, JL, JP, JS, JU, JV, JX, J12, J14, J16, J1e, J1g, noescs, Jg, J1h, J1i, bt29, J1o ti29, J1t, J1u, J1w, J1x, J1N, J2y, J2z, J2C, J2E, J2G, J2I, J2J, J2K, J2L, J2O, J2T, J2V, J2X, J31, ↓reduceIte, beq_self_eq_true, cond_true, cond_false, J34, J36, eq_self, J3c, J3d]
  refine callS [] (own1) rfl rfl rfl ?_
  rintro _ _ ⟨rfl, rfl⟩
  refine ⟨_, _, rfl, ?_⟩
  simp -implicitDefEqProofs only [Jg, Jh, Jk, Jm, Jp, Jv, Jy, JD, JJ, JK, JL, JP, JQ, JS, JU, JV, J12, J13, J1e, J1g, noescs, Jg, J1h, J1i, J1o ti52, bt52, J1p ti52, J1q ti52, J1t, J1u, J1v, J1w, J1x, J1y, J1z, J1A, J1B, J1D, J1N, J2r, J2s, J2t, J2u, J2v, J2w, J2y, J2z, J2A, J2C, J2D, J2E, J2F, J2G, J2H, J2I, J2J, J2K, J2L, J2M, J2O, J2P, J2Q, J2T, J2V, J2X, J31, ↓reduceIte, beq_self_eq_true, cond_true, cond_false, J34, J36, eq_self, J3c, J3d]
  refine callS [] (typ1) rfl rfl rfl ?_
  rintro _ _ ⟨rfl, rfl⟩
  refine ⟨_, _, rfl, ?_⟩
  simp -implicitDefEqProofs only [Jg, Jh, Jk, Jm, Jp, Jv, Jy, JD, JJ, JK, JL, JP, JQ, JS, JU, JV, J12, J13, J14, J1b, J1e, J1g, noescs, Jg, J1h, J1i, J1o ti29, bt72, J1p ti72, J1q ti72, J1t, J1u, J1v, J1w, J1x, J1y, J1z, J1A, J1B, J1D, J1N, J2r, J2s, J2t, J2u, J2v, J2w, J2y, J2z, J2A, J2C, J2D, J2E, J2F, J2G, J2H, J2I, J2J, J2K, J2L, J2M, J2O, J2P, J2Q, J2T, J2V, J2X, J31, ↓reduceIte, beq_self_eq_true, cond_true, cond_false, J34, J36, eq_self, J3c, J3d]
  refine callS [] (typ2) rfl rfl rfl ?_
  rintro _ _ ⟨rfl, rfl⟩
  refine ⟨_, _, rfl, ?_⟩
  simp -implicitDefEqProofs only [Jg, Jh, Jk, Jm, Jo, Jp, Jq, Jr, Jv, Jy, Jz, JC, JD, JF, JJ, JK, JL, JM, JN, JP, JQ, JS, JU, JV, JX, J12, J13, J14, J15, J1b, J1e, J1g, noescs, Jg, J1h, J1i, J1j, J1o ti9, J1o ti32, bt78, J1p ti78, J1q ti78, J1r ti9, J1r ti43, J1s ti72 rfl, J1s ti78 rfl, J1t, J1u, J1v, J1w, J1x, J1y, J1z, J1A, J1B, J1D, J1E, J1N, J1P, J1Q, J1R, J1S, J1W, J2e, J2f, J2j, J2r, J2s, J2t, J2u, J2v, J2w, J2y, J2z, J2A, J2C, J2D, J2E, J2F, J2G, J2H, J2I, J2J, J2K, J2L, J2M, J2O, J2P, J2Q, J2T, J2V, J2X, J30, J31, ↓reduceIte, reduceCtorEq, beq_self_eq_true, cond_true, cond_false, true_and, J34, J36, decide_true, bne_iff_ne, bne_eq_false_iff_eq, J39, eq_self, forall_const, not_true_eq_false, ne_eq, false_implies, J3a, J3c, J3d, J3e]
  refine callS [] (c1) rfl rfl rfl ?_
  rintro _ _ ⟨rfl, rfl⟩
  refine ⟨_, _, rfl, ?_⟩
  simp -implicitDefEqProofs only [Jg, Jh, Jk, Jm, Jp, JK, JL, JM, JP, JR, JS, JU, JV, JX, J12, J13, J15, J18, J1e, J1g, noescs, Jg, J1i, J1o ti70, J1s ti72 rfl, J1s ti78 rfl, J1t, J1u, J1E, J1N, J1W, J2f, J2y, J2z, J2A, J2F, J2G, J2I, J2J, J2K, J2L, J2O, J2T, J2V, J2X, J30, J31, ↓reduceIte, reduceCtorEq, beq_self_eq_true, cond_true, cond_false, J34, J36, J39, eq_self, J3a, J3c]
  refine callS [] (c2) rfl rfl rfl ?_
  rintro _ _ ⟨rfl, rfl⟩
  refine ⟨_, _, rfl, ?_⟩
  simp -implicitDefEqProofs only [Jg, Jh, Jk, Jm, Jp, Ju, Jv, Jy, Jz, JD, JJ, JK, JL, JM, JO, JP, JR, JS, JU, JV, JX, J12, J13, J15, J18, J1e, J1g, noescs, Jg, J1i, J1o ti52, J1t, J1u, J1N, J1W, J2f, J2y, J2z, J2A, J2C, J2E, J2G, J2I, J2J, J2K, J2L, J2O, J2T, J2V, J2X, J31, ↓reduceIte, beq_self_eq_true, cond_true, cond_false, J34, J36, eq_self, J3a, J3c, J3d]
  refine callS [] (sub1) rfl rfl rfl ?_
  rintro _ _ ⟨rfl, rfl⟩
  refine ⟨_, _, rfl, ?_⟩
  simp -implicitDefEqProofs only [Jg, Jh, Jk, Jm, Jp, Jv, Jy, JD, JJ, JK, JL, JP, JQ, JS, JU, JV, J12, J13, J14, J1b, J1e, J1g, noescs, Jg, J1h, J1i, J1o ti29, bt67, J1p ti67, J1q ti67, J1t, J1u, J1v, J1w, J1x, J1y, J1z, J1A, J1B, J1D, J1N, J2r, J2s, J2t, J2u, J2v, J2w, J2y, J2z, J2A, J2C, J2D, J2E, J2F, J2G, J2H, J2I, J2J, J2K, J2L, J2M, J2O, J2P, J2Q, J2T, J2V, J2X, J31, ↓reduceIte, beq_self_eq_true, cond_true, cond_false, J34, J36, eq_self, J3c, J3d]
  refine callS [] (sub2) rfl rfl rfl ?_
  rintro _ _ ⟨rfl, rfl⟩
  refine ⟨_, _, rfl, ?_⟩
  simp -implicitDefEqProofs only [Jg, Jh, Jk, Jm, Jo, Jp, Jq, Jr, Jv, Jy, Jz, JC, JD, JF, JJ, JK, JL, JM, JN, JP, JQ, JS, JU, JV, JX, J12, J13, J14, J15, J1b, J1e, J1g, noescs, Jg, J1h, J1i, J1j, J1o ti9, J1o ti65, bt81, J1p ti81, J1q ti81, J1r ti9, J1r ti43, J1s ti67 rfl, J1s ti81 rfl, J1t, J1u, J1v, J1w, J1x, J1y, J1z, J1A, J1B, J1D, J1E, J1N, J1P, J1Q, J1R, J1S, J1W, J2e, J2f, J2j, J2r, J2s, J2t, J2u, J2v, J2w, J2y, J2z, J2A, J2C, J2D, J2E, J2F, J2G, J2H, J2I, J2J, J2K, J2L, J2M, J2O, J2P, J2Q, J2T, J2V, J2X, J30, J31, ↓reduceIte, reduceCtorEq, beq_self_eq_true, cond_true, cond_false, true_and, J34, J36, decide_true, bne_iff_ne, bne_eq_false_iff_eq, J39, eq_self, forall_const, not_true_eq_false, ne_eq, false_implies, J3a, J3c, J3d, J3e]
  refine callS [] (c3) rfl rfl rfl ?_
  rintro _ _ ⟨rfl, rfl⟩
  refine ⟨_, _, rfl, ?_⟩
  simp -implicitDefEqProofs only [Jg, Jh, Jk, Jm, Jp, JK, JL, JM, JP, JR, JS, JU, JV, JX, J12, J13, J15, J18, J1e, J1g, noescs, Jg, J1i, J1o ti39, J1s ti67 rfl, J1s ti81 rfl, J1t, J1u, J1E, J1N, J1W, J2f, J2y, J2z, J2A, J2C, J2E, J2F, J2G, J2I, J2J, J2K, J2L, J2O, J2T, J2V, J2X, J30, J31, ↓reduceIte, reduceCtorEq, beq_self_eq_true, cond_true, cond_false, J34, J36, eq_self, J3a, J3c, J3d]
  refine callS [] (c4) rfl rfl rfl ?_
  rintro _ _ ⟨rfl, rfl⟩
  refine ⟨_, _, rfl, ?_⟩
  simp -implicitDefEqProofs only [Jg, Jh, Jk, Jm, Jp, Ju, Jv, Jy, Jz, JD, JJ, JK, JL, JM, JO, JP, JR, JS, JU, JV, JX, J12, J13, J15, J18, J1e, J1g, noescs, Jg, J1i, J1o ti52, J1t, J1u, J1N, J1W, J2f, J2y, J2z, J2A, J2C, J2E, J2G, J2I, J2J, J2K, J2L, J2O, J2T, J2V, J2X, J31, ↓reduceIte, beq_self_eq_true, cond_true, cond_false, J34, J36, eq_self, J3a, J3c, J3d]
  refine callS [] (fun1) rfl rfl rfl ?_
  rintro _ _ ⟨rfl, rfl⟩
  refine ⟨_, _, rfl, ?_⟩
  simp -implicitDefEqProofs only [Jg, Jh, Jk, Jm, Jp, Jv, Jy, JD, JJ, JK, JL, JP, JQ, JS, JU, JV, J12, J13, J14, J1b, J1e, J1g, noescs, Jg, J1h, J1i, J1o ti29, bt91, J1p ti91, J1q ti91, J1t, J1u, J1v, J1w, J1x, J1y, J1z, J1A, J1B, J1D, J1N, J2r, J2s, J2t, J2u, J2v, J2w, J2y, J2z, J2A, J2C, J2D, J2E, J2F, J2G, J2H, J2I, J2J, J2K, J2L, J2M, J2O, J2P, J2Q, J2T, J2V, J2X, J31, ↓reduceIte, beq_self_eq_true, cond_true, cond_false, J34, J36, eq_self, J3c, J3d]
  refine callS [] (fun2) rfl rfl rfl ?_
  rintro _ _ ⟨rfl, rfl⟩
  refine ⟨_, _, rfl, ?_⟩
  simp -implicitDefEqProofs only [Jg, Jh, Jk, Jm, Jo, Jp, Jq, Jr, Jv, Jy, Jz, JC, JD, JF, JJ, JK, JL, JM, JN, JP, JQ, JS, JU, JV, JX, J12, J13, J14, J15, J1b, J1e, J1g, noescs, Jg, J1h, J1i, J1j, J1o ti9, J1o ti85, bt94, J1p ti94, J1q ti94, J1r ti9, J1r ti43, J1s ti89 rfl, J1s ti91 rfl, J1s ti94 rfl, J1t, J1u, J1v, J1w, J1x, J1y, J1z, J1A, J1B, J1D, J1E, J1N, J1P, J1Q, J1R, J1S, J1W, J2e, J2f, J2j, J2r, J2s, J2t, J2u, J2v, J2w, J2y, J2z, J2A, J2D, J2E, J2F, J2G, J2H, J2I, J2J, J2K, J2L, J2M, J2O, J2P, J2Q, J2T, J2V, J2X, J30, J31, ↓reduceIte, reduceCtorEq, beq_self_eq_true, cond_true, cond_false, true_and, J34, J36, decide_true, bne_iff_ne, bne_eq_false_iff_eq, J39, eq_self, forall_const, not_true_eq_false, ne_eq, false_implies, J3a, J3c, J3d, J3e]
  refine callS [] (c5) rfl rfl rfl ?_
  rintro _ _ ⟨rfl, rfl⟩
  refine ⟨_, _, rfl, ?_⟩
  simp -implicitDefEqProofs only [Jg, Jh, Jk, Jm, Jp, JK, JL, JM, JP, JR, JS, JU, JV, JX, J12, J13, J15, J18, J1e, J1g, noescs, Jg, J1i, J1o ti65, J1s ti89 rfl, J1s ti91 rfl, J1s ti94 rfl, J1t, J1u, J1E, J1N, J1W, J2f, J2y, J2z, J2A, J2C, J2D, J2F, J2G, J2I, J2J, J2K, J2L, J2O, J2T, J2V, J2X, J30, J31, ↓reduceIte, reduceCtorEq, beq_self_eq_true, cond_true, cond_false, J34, J36, eq_self, J3a, J3c]
  refine callS [] (c6) rfl rfl rfl ?_
  rintro _ _ ⟨rfl, rfl⟩
  refine ⟨_, _, rfl, ?_⟩
  simp -implicitDefEqProofs only [Jg, Jh, Jk, Jm, Jp, JK, JL, JM, JP, JR, JS, JU, JV, JX, J12, J13, J15, J18, J1e, J1g, noescs, Jg, J1i, J1o ti87, J1s ti89 rfl, J1s ti91 rfl, J1s ti94 rfl, J1t, J1u, J1E, J1N, J1W, J2f, J2y, J2z, J2A, J2C, J2D, J2F, J2G, J2I, J2J, J2K, J2L, J2O, J2T, J2V, J2X, J30, J31, ↓reduceIte, reduceCtorEq, beq_self_eq_true, cond_true, cond_false, J34, J36, eq_self, J3a, J3c]
  refine callS [] (c7) rfl rfl rfl ?_
  rintro _ _ ⟨rfl, rfl⟩
  refine ⟨_, _, rfl, ?_⟩
  simp -implicitDefEqProofs only [Jg, Jh, Jk, Jm, Jp, JK, JL, JM, JP, JR, JS, JU, JV, JX, J12, J13, J15, J18, J1e, J1g, noescs, Jg, J1i, J1o ti39, J1s ti91 rfl, J1s ti94 rfl, J1t, J1u, J1E, J1N, J1W, J2f, J2y, J2z, J2A, J2C, J2E, J2F, J2G, J2I, J2J, J2K, J2L, J2O, J2T, J2V, J2X, J30, J31, ↓reduceIte, reduceCtorEq, beq_self_eq_true, cond_true, cond_false, J34, J36, eq_self, J3a, J3c, J3d]
  refine callS [] (c8) rfl rfl rfl ?_
  rintro _ _ ⟨rfl, rfl⟩
  refine ⟨_, _, rfl, ?_⟩
  simp -implicitDefEqProofs only [Jg, Jh, Jk, Jm, Jp, Ju, Jv, Jy, Jz, JD, JJ, JK, JL, JM, JO, JP, JR, JS, JU, JV, JX, J12, J13, J15, J18, J1e, J1g, noescs, Jg, J1i, J1o ti52, J1t, J1u, J1N, J1W, J2f, J2y, J2z, J2A, J2C, J2E, J2G, J2I, J2J, J2K, J2L, J2O, J2T, J2V, J2X, J31, ↓reduceIte, beq_self_eq_true, cond_true, cond_false, J34, J36, eq_self, J3a, J3c, J3d]
  refine callS [] (sig1) rfl rfl rfl ?_
  rintro _ _ ⟨rfl, rfl⟩
  refine ⟨_, _, rfl, ?_⟩
  simp -implicitDefEqProofs only [Jg, Jh, Jk, Jm, Jp, Jv, Jy, JD, JJ, JK, JL, JP, JQ, JS, JU, JV, J12, J13, J14, J1b, J1e, J1g, noescs, Jg, J1h, J1i, J1o ti29, bt100, J1p ti100, J1q ti100, J1t, J1u, J1v, J1w, J1x, J1y, J1z, J1A, J1B, J1D, J1N, J2r, J2s, J2t, J2u, J2v, J2w, J2y, J2z, J2A, J2C, J2D, J2E, J2F, J2G, J2H, J2I, J2J, J2K, J2L, J2M, J2O, J2P, J2Q, J2T, J2V, J2X, J31, ↓reduceIte, beq_self_eq_true, cond_true, cond_false, J34, J36, eq_self, J3c, J3d]
  refine callS [] (sig2) rfl rfl rfl ?_
  rintro _ _ ⟨rfl, rfl⟩
  refine ⟨_, _, rfl, ?_⟩
  simp -implicitDefEqProofs only [Jg, Jh, Jk, Jm, Jo, Jp, Jq, Jr, Jv, Jy, JC, JD, JJ, JK, JL, JM, JP, JQ, JS, JU, JV, JX, J12, J13, J14, J15, J1b, J1e, J1g, noescs, Jg, J1h, J1i, J1j, J1o ti9, J1o ti87, bt103, J1p ti103, J1q ti103, J1r ti9, J1r ti43, J1s ti100 rfl, J1s ti103 rfl, J1t, J1u, J1v, J1w, J1x, J1y, J1z, J1A, J1B, J1D, J1E, J1N, J1P, J1Q, J1R, J1S, J1W, J2e, J2f, J2k, J2r, J2s, J2t, J2u, J2v, J2w, J2y, J2z, J2A, J2C, J2D, J2E, J2F, J2G, J2H, J2I, J2J, J2K, J2L, J2M, J2O, J2P, J2Q, J2T, J2V, J2X, J30, J31, ↓reduceIte, reduceCtorEq, beq_self_eq_true, cond_true, cond_false, and_true, J34, J36, decide_true, J39, eq_self, forall_const, false_implies, J3c, J3d, J3e]
  refine callS [] (c9) rfl rfl rfl ?_
  rintro _ _ ⟨rfl, rfl⟩
  refine ⟨_, _, rfl, ?_⟩
  simp -implicitDefEqProofs only [Jg, Jh, Jk, Jm, Jp, JK, JL, JM, JP, JU, JV, JX, J12, J13, J15, J1e, J1g, noescs, Jg, J1i, J1N, J1W, J2f, J2y, J2K, J2O, J2T, J2V, J2X, beq_self_eq_true, cond_true, cond_false, J34, J36, eq_self]
  refine callS [] (vc_alive) rfl rfl rfl ?_
  rintro _ _ ⟨rfl, rfl⟩
  refine ⟨_, _, rfl, ?_⟩
  simp -implicitDefEqProofs only [Jm, JC, JD, JJ, JK, JL, JP, JV, JX, J14, J15, J1i, J1W, J2y, J2J, J2X, beq_self_eq_true, cond_true, cond_false, J34, J36]
  apply vend_of []; rfl; rfl
  exact ⟨rfl, rfl⟩

end Go.Vt.Tryz
