/- The document's answers: Fun at a path. -/
import Derived.Test.YtdabfkmhkoppcaaGreatDoorVtF3
set_option maxRecDepth 100000
set_option linter.unusedSimpArgs false
namespace Go.Vt.Tryz
open Go.Vt renaming opsW_nil → J6, opsW_cons → J7, again_nil → J8, again_cons → J9, obOf_nil → Ja, obOf_cons → Jb, wadd → Jc, ro → Jd, ob_some → Jm, vbool_eq → Jo, vif_tt → Jp, vif_ff → Jq, vD_bool → Jr, vD_int → Js, wp_skip → Ju, wp_ops → Jv, wp_opsW → Jw, wp_seq → Jy, wp_cond → Jz, wp_block → JA, wp_exit → JB, wp_ret → JC, th_normal → JD, th_exit → JE, th_ret → JF, bl_normal → JG, bl_ret → JH, bl_exit → JI, ops_nil → JJ, ops_cons → JK, go_none → JL, go_some → JM, cond_tt → JN, cond_ff → JO, put_some → JP, put_none → JQ, asL → JS, asI → JT, asFn → JU, opd_tmp → JV, opd_int → JW, opd_bool → JX, opd_func → J12, so_move → J13, so_assign → J14, so_pick → J15, so_box → J16, so_extract → J1b, so_call → J1e, esc_func → J1g, bobj_none → J1h, lk_cons → J1i, nilC_tmp → J1j, nilC_int → J1k, so_alloc → J1o, so_len → J1p, so_bin → J1q, so_fieldAddr → J1r, so_load → J1s, so_indexAddr → J1t, so_store → J1u, so_build → J1v, vload → J1w, mkV → J1x, vstore → J1y, vcells → J1z, known → J1A, toDs → J1B, toD → J1C, fzLs → J1D, fzL → J1E, splice → J1G, vfieldAddr → J1H, vindexAddr → J1I, vbuild → J1J, vfill → J1K, vlen → J1M, opds → J1Q, opdPairs → J1R, vbin2 → J1S, vbin → J1T, vint → J1U, vstr → J1V, vpick → J1Z, vundef → J2h, gb_b → J2i, sb_ft → J2n, putBack → J2u, fzIds → J2v, lentVs → J2w, lentV → J2x, lentLs → J2y, lentL → J2z
open List renaming any_cons → Je, any_nil → Jf, contains_cons → Jg, contains_nil → Jh, lookup_nil → J2B, getElem?_cons_zero → J2C, getElem?_cons_succ → J2D, take_succ_cons → J2F, take_zero → J2G, take_nil → J2H, drop_succ_cons → J2I, drop_zero → J2J, drop_nil → J2K, length_cons → J2L, length_nil → J2M, append_nil → J2N, nil_append → J2O, cons_append → J2P, map_cons → J2Q, map_nil → J2R, set_cons_zero → J2S, set_cons_succ → J2T, all_nil → J2W
open Bool renaming or_true → Ji, or_false → Jk, and_true → J2Y, false_eq_true → J3c
open Nat renaming reduceBEq → J30, reduceEqDiff → J31, reduceLeDiff → J33, reduceAdd → J34, zero_add → J3f, le_refl → J3g, add_zero → J3h
open Option renaming map_some → J37, bind_some → J39
open Go.Proofs

set_option maxHeartbeats 4000000 in
theorem vc_rFun (vals : List ValE) (cons : List ConE) (typs : List Tym) (subs : List SubE) (funs : List FunE) (sigs : List SigE) (hl : funs.length < 1000000000) (hs : subs.length < 1000000000) (hB : ∀ x ∈ subs, stn x.2.1 ≤ 999999990) (p : List ByteArray) (hp : p.length < 1000000000) :
    VC Tryz.prog 22 [envV vals cons typs subs funs sigs, .one (.d (.sl (txts p.reverse)))] [] fun r h' => r = resR encFun z69 (funP funs subs p) ∧ h' = [] := by
  have hlen : (txts p.reverse).length = p.length := by rw [txts_length, List.length_reverse]
  have hin := vc_rinner vals cons typs subs funs sigs hs hB p hp
  have hwl : IntKind.i64.wrap ((funs.length : Int) - 1) = (funs.length : Int) - 1 := wrap_p (by omega) (by omega)
  have hw0 : IntKind.i64.wrap (((0 : Nat) : Int) - 1) = -1 := rfl
  unfold envV at *
  refine VC_of_fn mixed fn22 (by simp) ?_
  show vwp Tryz.prog 0 vc22 _ [(0, .agg [.d (.sl (vals.map encVal)), .d (.sl (cons.map encCon)), .d (.sl (typs.map encTym)), .d (.sl (subs.map encSub)), .d (.sl (funs.map encFun)), .d (.sl (sigs.map encSig))]), (1, .one (.d (.sl (txts p.reverse))))] []
  unfold vc22
  rw [vwpI_eq]
  simp -implicitDefEqProofs only [Jg, Jh, Jk, Jm, Jo, Jp, Jr, Js, Ju, Jv, Jy, Jz, JA, JD, JJ, JK, JL, JN, JO, JP, JS, JU, JV, JW, J12, J13, J14, J16, J1e, J1g, noescs, Jg, J1h, J1i, J1k, bt29, bt94, J1o ti94, J1p ti26, J1p ti35, J1q ti3, J1r ti29 rfl, J1s ti26, J1s ti29, J1w, J1x, J1z, J1A, J1H, J1M, J1Q, J1S, J1T, J1U, J1V, J2B, J2C, J2D, J2F, J2H, J2I, J2J, J2L, J2M, J2N, J2O, J2P, J2R, J2W, J2Y, J30, J33, J34, ↓reduceIte, reduceCtorEq, beq_self_eq_true, cond_true, cond_false, true_and, J37, J39, beq_iff_eq, beq_eq_false_iff_ne, J3c, eq_self, ne_eq, J3f, J3g, hlen, hwl, List.length_map]
  refine ⟨fun q1 => ?_, fun q1 => ?_⟩
  · obtain ⟨s, rfl⟩ : ∃ s, p = [s] := by
      rcases p with _ | ⟨s, _ | ⟨t, r⟩⟩
      · simp at q1
      · exact ⟨s, rfl⟩
      · simp at q1; omega
    have ht0 : (txts [s].reverse)[Int.toNat 0]? = some [.str s] := rfl
    rw [show innR subs [s] = .tup [.agg zSub, .one (.d (.str ⟨#[]⟩)), .one (.d (.bool false))] from rfl] at hin
    simp only [zSub] at hin
    refine loopI (α := Nat) (fun m => [(6, .one (.d (.int .i64 ((m : Int) - 1)))), (4, .one (.ptr 1 0)), (2, .one (.ptr 0 0)), (1, .one (.d (.sl (txts [s].reverse))))])
      (fun _ => [.box [.d (.sl (vals.map encVal)), .d (.sl (cons.map encCon)), .d (.sl (typs.map encTym)), .d (.sl (subs.map encSub)), .d (.sl (funs.map encFun)), .d (.sl (sigs.map encSig))], .box z69])
      (fun m => m ≤ funs.length ∧ ∀ (j : Nat) (y : _), m ≤ j → funs[j]? = some y → y.1 ≠ s) (fun m => m) funs.length
      (keepI [0, 1] _ (WkH.refl _) rfl rfl rfl ⟨⟨_, WkV.refl _, rfl⟩, ⟨_, WkV.refl _, rfl⟩, ⟨_, WkV.refl _, rfl⟩, ⟨_, WkV.refl _, rfl⟩, trivial⟩) ⟨Nat.le_refl _, fun j y hj hy => absurd (List.getElem?_eq_some_iff.1 hy).1 (by omega)⟩ ?_
    rintro m ⟨hm, hmiss⟩
    simp -implicitDefEqProofs only [Jg, Jh, Jk, Jm, Jo, Jp, Jr, Ju, Jv, Jy, Jz, JA, JB, JD, JE, JI, JJ, JK, JL, JN, JO, JP, JS, JT, JU, JV, JW, J12, J13, J1e, J1g, noescs, Jg, J1i, J1k, J1q ti3, J1r ti29 rfl, J1s ti26, J1s ti29, J1t ti26 rfl, J1w, J1x, J1H, J1I, J1Q, J1S, J1T, J1U, J1V, J2B, J2C, J2D, J2F, J2H, J2I, J2J, J2L, J2M, J2N, J2O, J2R, J2W, J2Y, J30, J31, J33, J34, ↓reduceIte, reduceCtorEq, beq_self_eq_true, cond_true, cond_false, false_and, J37, J39, decide_eq_true_eq, decide_eq_false_iff_not, J3c, eq_self, J3f, J3g, ge_iff_le, List.length_map, z69]
    refine ⟨fun g => ?_, fun g => ?_⟩
    · obtain ⟨i, rfl⟩ : ∃ i, m = i + 1 := ⟨m - 1, by omega⟩
      have hi : i < funs.length := by omega
      obtain ⟨u, hu⟩ : ∃ u, funs[i]? = some u := ⟨funs[i], List.getElem?_eq_getElem hi⟩
      have hg : (funs.map encFun)[i]? = some (encFun u) := by rw [List.getElem?_map, hu]; rfl
      have hhit := fun h1 => lastOf_hit (nm := (·.1)) (s := s) hu h1 (fun j y hj hy => hmiss j y (by omega) hy)
      obtain ⟨un, ⟨l1, ⟨u1, u2, u3, u4, u5⟩, l2, ⟨w1, w2, w3, w4, w5⟩⟩, ⟨v1, v2, v3, v4, v5, v6, v7⟩⟩ := u
      simp only [encFun, encFn, encSt, encTm, List.cons_append, List.nil_append] at hg
      have hc : ((i + 1 : Nat) : Int) - 1 = (i : Int) := by omega
      have hwi : IntKind.i64.wrap ((i : Int) - 1) = (i : Int) - 1 := wrap_p (by omega) (by omega)
      simp -implicitDefEqProofs only [Jm, Jo, Jr, Js, Ju, Jv, Jy, Jz, JC, JD, JF, JG, JH, JJ, JK, JL, JN, JO, JP, JQ, JS, JT, JV, JW, J13, J14, J1i, J1j, J1k, J1q ti3, J1q ti9, J1r ti29 rfl, J1r ti94 rfl, J1s ti9, J1s ti26, J1s ti94, J1t ti26 rfl, J1t ti35 rfl, J1u ti94, J1w, J1x, J1y, J1z, J1A, J1B, J1C, J1D, J1E, J1G, J1H, J1I, J1S, J1T, J1U, J1V, J2B, J2C, J2D, J2F, J2G, J2H, J2I, J2J, J2K, J2L, J2M, J2N, J2O, J2Q, J2R, J2S, J2T, J30, J31, J33, J34, ↓reduceIte, reduceCtorEq, beq_self_eq_true, cond_true, cond_false, true_and, false_and, J37, J39, decide_eq_true_eq, decide_eq_false_iff_not, J3c, eq_self, ne_eq, J3f, J3g, J3h, hc, hg, ht0, Int.le_refl, Int.natCast_nonneg, Int.toNat_natCast]
      refine ⟨fun e => ?_, fun e => ?_⟩
      · apply vend_of []; rfl; rfl
        refine ⟨?_, rfl⟩
        rw [show funP funs subs [s] = some _ from hhit e]
        rfl
      · simp only [hwi]
        refine ⟨i, ⟨by omega, fun j y hj hy => ?_⟩, Nat.lt_succ_self i, (keepI [0, 1] _ (WkH.refl _) rfl rfl rfl ⟨⟨_, WkV.refl _, rfl⟩, ⟨_, WkV.refl _, rfl⟩, ⟨_, WkV.refl _, rfl⟩, ⟨_, WkV.refl _, rfl⟩, trivial⟩)⟩
        by_cases e2 : j = i
        · subst e2
          rw [hu] at hy
          cases hy
          exact e
        · exact hmiss j y (by omega) hy
    · have : m = 0 := by omega
      subst this
      refine callS [] (hin) rfl rfl rfl ?_
      rintro _ _ ⟨rfl, rfl⟩
      refine ⟨_, _, rfl, ?_⟩
      simp -implicitDefEqProofs only [Jm, Js, Jv, Jy, JA, JD, JJ, JK, JL, JP, JQ, JS, JV, JW, J13, J14, J1b, J1h, J1i, J1k, bt81, J1o ti81, J1p ti62, J1q ti3, J1r ti65 rfl, J1r ti81 rfl, J1s ti62, J1u ti81, J1w, J1x, J1y, J1z, J1A, J1B, J1C, J1D, J1E, J1G, J1H, J1M, J1S, J1T, J1U, J1V, J2B, J2C, J2D, J2G, J2I, J2J, J2K, J2L, J2M, J2N, J2O, J2P, J2S, J2T, J30, J33, J34, ↓reduceIte, reduceCtorEq, beq_self_eq_true, cond_true, cond_false, true_and, J37, J39, J3c, eq_self, J3f, J3g, hw0]
      refine loopI (α := Unit) (fun _ => [(10, .one (.d (.int .i64 (-1)))), (9, .one (.d (.bool false))), (8, .one (.d (.str ⟨#[]⟩))), (7, .one (.ptr 2 0)), (4, .one (.ptr 1 0)), (2, .one (.ptr 0 0))])
        (fun _ => [.box [.d (.sl (vals.map encVal)), .d (.sl (cons.map encCon)), .d (.sl (typs.map encTym)), .d (.sl (subs.map encSub)), .d (.sl (funs.map encFun)), .d (.sl (sigs.map encSig))], .box z69, .box zSub])
        (fun _ => True) (fun _ => 0) () (keepI [0, 1, 2] _ (WkH.refl _) rfl rfl rfl ⟨⟨_, WkV.refl _, rfl⟩, ⟨_, WkV.refl _, rfl⟩, ⟨_, WkV.refl _, rfl⟩, ⟨_, WkV.refl _, rfl⟩, ⟨_, WkV.refl _, rfl⟩, ⟨_, WkV.refl _, rfl⟩, trivial⟩) trivial ?_
      intro _ _
      simp -implicitDefEqProofs only [Jm, Jp, Jq, Jv, Jy, Jz, JB, JC, JD, JE, JI, JJ, JK, JL, JM, JO, JP, JQ, JS, JV, JW, JX, J13, J14, J15, J1i, J1u ti94, J1v ti94, J1y, J1z, J1A, J1B, J1C, J1D, J1E, J1G, J1J, J1K, J1R, J1Z, J2h, J2i, J2n, J2B, J2C, J2D, J2G, J2I, J2K, J2L, J2M, J2N, J2O, J2S, J2T, J30, J34, ↓reduceIte, beq_self_eq_true, cond_true, cond_false, J37, J39, eq_self, J3f, J3g, zSub, z69]
      apply vend_of []; rfl; rfl
      refine ⟨?_, rfl⟩
      rw [show funP funs subs [s] = none from lastOf_miss (fun j y hy => hmiss j y (Nat.zero_le _) hy)]
      rfl
  · have hat : funP funs subs p = (innO subs p).bind (farFun (innS p)) := atP_inn p (fun e => q1 (by rw [e]; rfl))
    have hsm := fun x h => (subs_small (innO_small hB p x h)).2.2.2.1
    cases hs : innO subs p with
    | none =>
      unfold innR at hin
      rw [hs] at hin hat
      generalize innS p = s' at hin hat
      simp only [zSub] at hin
      refine callS [] (hin) rfl rfl rfl ?_
      rintro _ _ ⟨rfl, rfl⟩
      refine ⟨_, _, rfl, ?_⟩
      simp -implicitDefEqProofs only [Jm, Js, Jv, Jy, JA, JD, JJ, JK, JL, JP, JQ, JS, JV, JW, J13, J14, J1b, J1h, J1i, J1k, bt81, J1o ti81, J1p ti62, J1q ti3, J1r ti65 rfl, J1r ti81 rfl, J1s ti62, J1u ti81, J1w, J1x, J1y, J1z, J1A, J1B, J1C, J1D, J1E, J1G, J1H, J1M, J1S, J1T, J1U, J1V, J2B, J2C, J2D, J2G, J2I, J2J, J2K, J2L, J2M, J2N, J2O, J2P, J2S, J2T, J30, J33, J34, ↓reduceIte, reduceCtorEq, beq_self_eq_true, cond_true, cond_false, true_and, J37, J39, J3c, eq_self, J3f, J3g, hw0]
      refine loopI (α := Unit) (fun _ => [(10, .one (.d (.int .i64 (-1)))), (9, .one (.d (.bool false))), (8, .one (.d (.str s'))), (7, .one (.ptr 2 0)), (4, .one (.ptr 1 0)), (2, .one (.ptr 0 0))])
        (fun _ => [.box [.d (.sl (vals.map encVal)), .d (.sl (cons.map encCon)), .d (.sl (typs.map encTym)), .d (.sl (subs.map encSub)), .d (.sl (funs.map encFun)), .d (.sl (sigs.map encSig))], .box z69, .box zSub])
        (fun _ => True) (fun _ => 0) () (keepI [0, 1, 2] _ (WkH.refl _) rfl rfl rfl ⟨⟨_, WkV.refl _, rfl⟩, ⟨_, WkV.refl _, rfl⟩, ⟨_, WkV.refl _, rfl⟩, ⟨_, WkV.refl _, rfl⟩, ⟨_, WkV.refl _, rfl⟩, ⟨_, WkV.refl _, rfl⟩, trivial⟩) trivial ?_
      intro _ _
      simp -implicitDefEqProofs only [Jm, Jp, Jq, Jv, Jy, Jz, JB, JC, JD, JE, JI, JJ, JK, JL, JM, JO, JP, JQ, JS, JV, JW, JX, J13, J14, J15, J1i, J1u ti94, J1v ti94, J1y, J1z, J1A, J1B, J1C, J1D, J1E, J1G, J1J, J1K, J1R, J1Z, J2h, J2i, J2n, J2B, J2C, J2D, J2G, J2I, J2K, J2L, J2M, J2N, J2O, J2S, J2T, J30, J34, ↓reduceIte, beq_self_eq_true, cond_true, cond_false, J37, J39, eq_self, J3f, J3g, zSub, z69]
      apply vend_of []; rfl; rfl
      exact ⟨by rw [hat]; rfl, rfl⟩
    | some x =>
      have hx := hsm x hs
      unfold innR at hin
      rw [hs] at hin hat
      generalize innS p = s at hin hat
      obtain ⟨xn, ⟨x1, x2, x3, x4, x5⟩, ⟨y1, y2, y3, y4, y5, y6, y7⟩⟩ := x
      simp only [Stx.funs] at hx
      have hx : x4.length < 1000000000 := by omega
      have hsel := vc_rsel s (.mk y1 y2 y3 y4 y5 y6 y7)
      simp only [tmV, encTm, List.map_cons, List.map_nil, selT] at hsel
      simp only [encSub, encSt, encTm, List.map_cons, List.map_nil, List.cons_append, List.nil_append] at hin
      have hlx : (encSt.funs x4).length = x4.length := by rw [encFuns_m]; simp
      have hwx : IntKind.i64.wrap ((x4.length : Int) - 1) = (x4.length : Int) - 1 := wrap_p (by omega) (by omega)
      refine callS [] (hin) rfl rfl rfl ?_
      rintro _ _ ⟨rfl, rfl⟩
      refine ⟨_, _, rfl, ?_⟩
      simp -implicitDefEqProofs only [Jm, Js, Jv, Jy, JA, JD, JJ, JK, JL, JP, JQ, JS, JV, JW, J13, J14, J1b, J1h, J1i, J1k, bt81, J1o ti81, J1p ti62, J1q ti3, J1r ti65 rfl, J1r ti81 rfl, J1s ti62, J1u ti81, J1w, J1x, J1y, J1z, J1A, J1B, J1C, J1D, J1E, J1G, J1H, J1M, J1S, J1T, J1U, J1V, J2u, J2v, J2w, J2x, J2y, J2z, J2B, J2C, J2D, J2G, J2H, J2I, J2J, J2K, J2L, J2M, J2N, J2O, J2P, J2S, J2T, J30, J33, J34, ↓reduceIte, reduceCtorEq, beq_self_eq_true, cond_true, cond_false, true_and, J37, J39, J3c, eq_self, J3f, J3g, hlx, hwx]
      refine loopI (α := Nat) (fun m => [(10, .one (.d (.int .i64 ((m : Int) - 1)))), (9, .one (.d (.bool true))), (8, .one (.d (.str s))), (7, .one (.ptr 2 0)), (4, .one (.ptr 1 0)), (2, .one (.ptr 0 0))])
        (fun _ => [.box [.d (.sl (vals.map encVal)), .d (.sl (cons.map encCon)), .d (.sl (typs.map encTym)), .d (.sl (subs.map encSub)), .d (.sl (funs.map encFun)), .d (.sl (sigs.map encSig))], .box z69, .box [.d (.str xn), .d (.sl (x1.map encTym)), .d (.sl (x2.map encVam)), .d (.sl (encSt.subs x3)), .d (.sl (encSt.funs x4)), .d (.sl (encSt.sigs x5)), .d (.int .i64 y1), .d (.int .i64 y2), .d (.int .i64 y3), .d (.str y4), .d (.sl (txts y5)), .d (.sl (encTt.encs y6)), .d (.sl (encTm.encs y7))]])
        (fun m => m ≤ x4.length ∧ ∀ (j : Nat) (y : _), m ≤ j → x4[j]? = some y → y.1 ≠ s) (fun m => m) x4.length
        (keepI [0, 1, 2] _ (WkH.refl _) rfl rfl rfl ⟨⟨_, WkV.refl _, rfl⟩, ⟨_, WkV.refl _, rfl⟩, ⟨_, WkV.refl _, rfl⟩, ⟨_, WkV.refl _, rfl⟩, ⟨_, WkV.refl _, rfl⟩, ⟨_, WkV.refl _, rfl⟩, trivial⟩) ⟨Nat.le_refl _, fun j y hj hy => absurd (List.getElem?_eq_some_iff.1 hy).1 (by omega)⟩ ?_
      rintro m ⟨hm, hmiss⟩
      simp -implicitDefEqProofs only [Jm, Jo, Jp, Jr, Ju, Jv, Jy, Jz, JA, JB, JC, JD, JE, JI, JJ, JK, JL, JM, JN, JO, JP, JQ, JS, JT, JV, JW, JX, J13, J14, J15, J1i, J1k, J1q ti3, J1r ti65 rfl, J1r ti81 rfl, J1s ti62, J1t ti62 rfl, J1u ti94, J1v ti94, J1w, J1x, J1y, J1z, J1A, J1B, J1C, J1D, J1E, J1G, J1H, J1I, J1J, J1K, J1R, J1S, J1T, J1U, J1V, J1Z, J2i, J2B, J2C, J2D, J2G, J2I, J2J, J2K, J2L, J2M, J2N, J2O, J2S, J2T, J30, J31, J33, J34, ↓reduceIte, reduceCtorEq, beq_self_eq_true, cond_true, cond_false, false_and, J37, J39, decide_eq_true_eq, decide_eq_false_iff_not, J3c, eq_self, J3f, J3g, ge_iff_le, z69]
      refine ⟨fun g => ?_, fun g => ?_⟩
      · obtain ⟨i, rfl⟩ : ∃ i, m = i + 1 := ⟨m - 1, by omega⟩
        have hi : i < x4.length := by omega
        obtain ⟨u, hu⟩ : ∃ u, x4[i]? = some u := ⟨x4[i], List.getElem?_eq_getElem hi⟩
        have hg : (encSt.funs x4)[i]? = some (encFm u) := by rw [encFuns_m, List.getElem?_map, hu]; rfl
        have hhit := fun h1 => lastOf_hit (nm := (·.1)) (s := s) hu h1 (fun j y hj hy => hmiss j y (by omega) hy)
        obtain ⟨mn, l1, ⟨u1, u2, u3, u4, u5⟩, l2, ⟨w1, w2, w3, w4, w5⟩⟩ := u
        simp only [encFm, encFn, encSt, List.cons_append, List.nil_append] at hg
        have hc : ((i + 1 : Nat) : Int) - 1 = (i : Int) := by omega
        have hwi : IntKind.i64.wrap ((i : Int) - 1) = (i : Int) - 1 := wrap_p (by omega) (by omega)
        simp -implicitDefEqProofs only [J7, Jc, Jd, Je, Jf, Jg, Jh, Ji, Jk, Jm, Jo, Jp, Jq, Jr, Js, Ju, Jv, Jw, Jy, Jz, JD, JG, JJ, JK, JL, JN, JO, JP, JS, JT, JU, JV, JW, J12, J13, J14, J1e, J1g, noescs, Jg, J1i, J1j, J1k, J1q ti3, J1q ti9, J1r ti65 rfl, J1r ti81 rfl, J1r ti161 rfl, J1s ti9, J1s ti39, J1s ti62, J1s ti89, J1t ti62 rfl, J1w, J1x, J1H, J1I, J1Q, J1S, J1T, J1U, J1V, J2B, J2C, J2D, J2F, J2H, J2I, J2J, J2L, J2M, J2N, J2O, J2Q, J2R, J2W, J2Y, J30, J31, J33, J34, ↓reduceIte, reduceCtorEq, beq_self_eq_true, cond_true, cond_false, true_and, false_and, J37, J39, decide_eq_true_eq, decide_eq_false_iff_not, J3c, eq_self, ne_eq, J3f, J3g, J3h, hc, hg, Int.natCast_nonneg, Int.toNat_natCast]
        refine ⟨fun e => ?_, fun e => ?_⟩
        · refine callS [] (hsel) rfl rfl rfl ?_
          rintro _ _ ⟨rfl, rfl⟩
          refine ⟨_, _, rfl, ?_⟩
          simp -implicitDefEqProofs only [J6, J7, J8, J9, Ja, Jb, Jc, Jd, Je, Jf, Jg, Jh, Ji, Jk, Jm, Jp, Jq, JC, JD, JF, JH, JL, JP, JQ, JS, JT, JV, JW, J14, Jg, J1i, J1r ti65 rfl, J1r ti81 rfl, J1r ti161 rfl, J1s ti62, J1s ti89, J1t ti62 rfl, J1u ti94, J1v ti94, J1w, J1x, J1y, J1z, J1A, J1B, J1C, J1D, J1E, J1G, J1H, J1I, J1J, J1K, J1R, J2u, J2v, J2w, J2x, J2y, J2z, J2B, J2C, J2D, J2F, J2G, J2H, J2I, J2J, J2K, J2L, J2M, J2N, J2O, J2P, J2Q, J2R, J2S, J2T, J30, J31, J33, J34, ↓reduceIte, reduceCtorEq, beq_self_eq_true, cond_true, cond_false, true_and, false_and, and_self, J37, J39, J3c, eq_self, J3f, J3g, hg, Int.natCast_nonneg, Int.toNat_natCast]
          apply vend_of []; rfl; rfl
          refine ⟨?_, rfl⟩
          rw [hat]
          simp only [Option.bind_some, farFun, Stx.funs]
          rw [hhit e]
          rfl
        · simp only [hwi]
          refine ⟨i, ⟨by omega, fun j y hj hy => ?_⟩, Nat.lt_succ_self i, (keepI [0, 1, 2] _ (WkH.refl _) rfl rfl rfl ⟨⟨_, WkV.refl _, rfl⟩, ⟨_, WkV.refl _, rfl⟩, ⟨_, WkV.refl _, rfl⟩, ⟨_, WkV.refl _, rfl⟩, ⟨_, WkV.refl _, rfl⟩, ⟨_, WkV.refl _, rfl⟩, trivial⟩)⟩
          by_cases e2 : j = i
          · subst e2
            rw [hu] at hy
            cases hy
            exact e
          · exact hmiss j y (by omega) hy
      · apply vend_of []; rfl; rfl
        refine ⟨?_, rfl⟩
        have : m = 0 := by omega
        subst this
        rw [hat]
        simp only [Option.bind_some, farFun, Stx.funs]
        rw [lastOf_miss (nm := (·.1)) (l := x4) (s := s) (fun j y hy => hmiss j y (Nat.zero_le _) hy)]
        rfl

end Go.Vt.Tryz
set_option maxRecDepth 100000
set_option linter.unusedSimpArgs false
namespace Go.Vt.Tryz
open Go.Vt renaming ob_some → Jm, vbool_eq → Jo, vif_tt → Jp, vif_ff → Jq, vD_bool → Jr, vD_int → Js, wp_skip → Ju, wp_ops → Jv, wp_seq → Jy, wp_cond → Jz, wp_block → JA, wp_exit → JB, wp_ret → JC, th_normal → JD, th_exit → JE, th_ret → JF, bl_normal → JG, bl_ret → JH, bl_exit → JI, ops_nil → JJ, ops_cons → JK, go_none → JL, go_some → JM, cond_tt → JN, cond_ff → JO, put_some → JP, put_none → JQ, asL → JS, asI → JT, asFn → JU, opd_tmp → JV, opd_int → JW, opd_bool → JX, opd_func → J12, so_move → J13, so_assign → J14, so_pick → J15, so_box → J16, so_extract → J1b, so_call → J1e, esc_func → J1g, bobj_none → J1h, lk_cons → J1i, nilC_tmp → J1j, nilC_int → J1k, so_alloc → J1o, so_len → J1p, so_bin → J1q, so_fieldAddr → J1r, so_load → J1s, so_indexAddr → J1t, so_store → J1u, so_build → J1v, vload → J1w, mkV → J1x, vstore → J1y, vcells → J1z, known → J1A, toDs → J1B, toD → J1C, fzLs → J1D, fzL → J1E, splice → J1G, vfieldAddr → J1H, vindexAddr → J1I, vbuild → J1J, vfill → J1K, vlen → J1M, opds → J1Q, opdPairs → J1R, vbin2 → J1S, vbin → J1T, vint → J1U, vstr → J1V, vpick → J1Z, vundef → J2h, gb_b → J2i, sb_ft → J2n, putBack → J2u, fzIds → J2v, lentVs → J2w, lentV → J2x, lentLs → J2y, lentL → J2z
open List renaming contains_cons → Jg, contains_nil → Jh, lookup_nil → J2B, getElem?_cons_zero → J2C, getElem?_cons_succ → J2D, take_succ_cons → J2F, take_zero → J2G, take_nil → J2H, drop_succ_cons → J2I, drop_zero → J2J, drop_nil → J2K, length_cons → J2L, length_nil → J2M, append_nil → J2N, nil_append → J2O, cons_append → J2P, map_cons → J2Q, map_nil → J2R, set_cons_zero → J2S, set_cons_succ → J2T, all_nil → J2W
open Bool renaming or_false → Jk, and_true → J2Y, false_eq_true → J3c
open Nat renaming reduceBEq → J30, reduceEqDiff → J31, reduceLeDiff → J33, reduceAdd → J34, zero_add → J3f, le_refl → J3g, add_zero → J3h
open Option renaming map_some → J37, bind_some → J39
open Go.Proofs

set_option maxHeartbeats 4000000 in
theorem vc_rSig (vals : List ValE) (cons : List ConE) (typs : List Tym) (subs : List SubE) (funs : List FunE) (sigs : List SigE) (hl : sigs.length < 1000000000) (hs : subs.length < 1000000000) (hB : ∀ x ∈ subs, stn x.2.1 ≤ 999999990) (p : List ByteArray) (hp : p.length < 1000000000) :
    VC Tryz.prog 26 [envV vals cons typs subs funs sigs, .one (.d (.sl (txts p.reverse)))] [] fun r h' => r = resR encSig z76 (sigP sigs subs p) ∧ h' = [] := by
  have hlen : (txts p.reverse).length = p.length := by rw [txts_length, List.length_reverse]
  have hin := vc_rinner vals cons typs subs funs sigs hs hB p hp
  have hwl : IntKind.i64.wrap ((sigs.length : Int) - 1) = (sigs.length : Int) - 1 := wrap_p (by omega) (by omega)
  have hw0 : IntKind.i64.wrap (((0 : Nat) : Int) - 1) = -1 := rfl
  unfold envV at *
  refine VC_of_fn mixed fn26 (by simp) ?_
  show vwp Tryz.prog 0 vc26 _ [(0, .agg [.d (.sl (vals.map encVal)), .d (.sl (cons.map encCon)), .d (.sl (typs.map encTym)), .d (.sl (subs.map encSub)), .d (.sl (funs.map encFun)), .d (.sl (sigs.map encSig))]), (1, .one (.d (.sl (txts p.reverse))))] []
  unfold vc26
  rw [vwpI_eq]
  simp -implicitDefEqProofs only [Jg, Jh, Jk, Jm, Jo, Jp, Jr, Js, Ju, Jv, Jy, Jz, JA, JD, JJ, JK, JL, JN, JO, JP, JS, JU, JV, JW, J12, J13, J14, J16, J1e, J1g, noescs, Jg, J1h, J1i, J1k, bt29, bt103, J1o ti103, J1p ti27, J1p ti35, J1q ti3, J1r ti29 rfl, J1s ti27, J1s ti29, J1w, J1x, J1z, J1A, J1H, J1M, J1Q, J1S, J1T, J1U, J1V, J2B, J2C, J2D, J2F, J2H, J2I, J2J, J2L, J2M, J2N, J2O, J2P, J2R, J2W, J2Y, J30, J33, J34, ↓reduceIte, reduceCtorEq, beq_self_eq_true, cond_true, cond_false, true_and, J37, J39, beq_iff_eq, beq_eq_false_iff_ne, J3c, eq_self, ne_eq, J3f, J3g, hlen, hwl, List.length_map]
  refine ⟨fun q1 => ?_, fun q1 => ?_⟩
  · obtain ⟨s, rfl⟩ : ∃ s, p = [s] := by
      rcases p with _ | ⟨s, _ | ⟨t, r⟩⟩
      · simp at q1
      · exact ⟨s, rfl⟩
      · simp at q1; omega
    have ht0 : (txts [s].reverse)[Int.toNat 0]? = some [.str s] := rfl
    rw [show innR subs [s] = .tup [.agg zSub, .one (.d (.str ⟨#[]⟩)), .one (.d (.bool false))] from rfl] at hin
    simp only [zSub] at hin
    refine loopI (α := Nat) (fun m => [(6, .one (.d (.int .i64 ((m : Int) - 1)))), (4, .one (.ptr 1 0)), (2, .one (.ptr 0 0)), (1, .one (.d (.sl (txts [s].reverse))))])
      (fun _ => [.box [.d (.sl (vals.map encVal)), .d (.sl (cons.map encCon)), .d (.sl (typs.map encTym)), .d (.sl (subs.map encSub)), .d (.sl (funs.map encFun)), .d (.sl (sigs.map encSig))], .box z76])
      (fun m => m ≤ sigs.length ∧ ∀ (j : Nat) (y : _), m ≤ j → sigs[j]? = some y → y.1 ≠ s) (fun m => m) sigs.length
      (keepI [0, 1] _ (WkH.refl _) rfl rfl rfl ⟨⟨_, WkV.refl _, rfl⟩, ⟨_, WkV.refl _, rfl⟩, ⟨_, WkV.refl _, rfl⟩, ⟨_, WkV.refl _, rfl⟩, trivial⟩) ⟨Nat.le_refl _, fun j y hj hy => absurd (List.getElem?_eq_some_iff.1 hy).1 (by omega)⟩ ?_
    rintro m ⟨hm, hmiss⟩
    simp -implicitDefEqProofs only [Jg, Jh, Jk, Jm, Jo, Jp, Jr, Ju, Jv, Jy, Jz, JA, JB, JD, JE, JI, JJ, JK, JL, JN, JO, JP, JS, JT, JU, JV, JW, J12, J13, J1e, J1g, noescs, Jg, J1i, J1k, J1q ti3, J1r ti29 rfl, J1s ti27, J1s ti29, J1t ti27 rfl, J1w, J1x, J1H, J1I, J1Q, J1S, J1T, J1U, J1V, J2B, J2C, J2D, J2F, J2H, J2I, J2J, J2L, J2M, J2N, J2O, J2R, J2W, J2Y, J30, J31, J33, J34, ↓reduceIte, reduceCtorEq, beq_self_eq_true, cond_true, cond_false, false_and, J37, J39, decide_eq_true_eq, decide_eq_false_iff_not, J3c, eq_self, J3f, J3g, ge_iff_le, List.length_map, z76]
    refine ⟨fun g => ?_, fun g => ?_⟩
    · obtain ⟨i, rfl⟩ : ∃ i, m = i + 1 := ⟨m - 1, by omega⟩
      have hi : i < sigs.length := by omega
      obtain ⟨u, hu⟩ : ∃ u, sigs[i]? = some u := ⟨sigs[i], List.getElem?_eq_getElem hi⟩
      have hg : (sigs.map encSig)[i]? = some (encSig u) := by rw [List.getElem?_map, hu]; rfl
      have hhit := fun h1 => lastOf_hit (nm := (·.1)) (s := s) hu h1 (fun j y hj hy => hmiss j y (by omega) hy)
      obtain ⟨un, l1, ⟨u1, u2, u3, u4, u5⟩⟩ := u
      simp only [encSig, encSt] at hg
      have hc : ((i + 1 : Nat) : Int) - 1 = (i : Int) := by omega
      have hwi : IntKind.i64.wrap ((i : Int) - 1) = (i : Int) - 1 := wrap_p (by omega) (by omega)
      simp -implicitDefEqProofs only [Jm, Jo, Jr, Js, Ju, Jv, Jy, Jz, JC, JD, JF, JG, JH, JJ, JK, JL, JN, JO, JP, JQ, JS, JT, JV, JW, J13, J14, J1i, J1j, J1k, J1q ti3, J1q ti9, J1r ti29 rfl, J1r ti103 rfl, J1s ti9, J1s ti27, J1s ti103, J1t ti27 rfl, J1t ti35 rfl, J1u ti103, J1w, J1x, J1y, J1z, J1A, J1B, J1C, J1D, J1E, J1G, J1H, J1I, J1S, J1T, J1U, J1V, J2B, J2C, J2D, J2F, J2G, J2H, J2I, J2J, J2K, J2L, J2M, J2N, J2O, J2Q, J2R, J2S, J2T, J30, J31, J33, J34, ↓reduceIte, reduceCtorEq, beq_self_eq_true, cond_true, cond_false, true_and, false_and, J37, J39, decide_eq_true_eq, decide_eq_false_iff_not, J3c, eq_self, ne_eq, J3f, J3g, J3h, hc, hg, ht0, Int.le_refl, Int.natCast_nonneg, Int.toNat_natCast]
      refine ⟨fun e => ?_, fun e => ?_⟩
      · apply vend_of []; rfl; rfl
        refine ⟨?_, rfl⟩
        rw [show sigP sigs subs [s] = some _ from hhit e]
        rfl
      · simp only [hwi]
        refine ⟨i, ⟨by omega, fun j y hj hy => ?_⟩, Nat.lt_succ_self i, (keepI [0, 1] _ (WkH.refl _) rfl rfl rfl ⟨⟨_, WkV.refl _, rfl⟩, ⟨_, WkV.refl _, rfl⟩, ⟨_, WkV.refl _, rfl⟩, ⟨_, WkV.refl _, rfl⟩, trivial⟩)⟩
        by_cases e2 : j = i
        · subst e2
          rw [hu] at hy
          cases hy
          exact e
        · exact hmiss j y (by omega) hy
    · have : m = 0 := by omega
      subst this
      refine callS [] (hin) rfl rfl rfl ?_
      rintro _ _ ⟨rfl, rfl⟩
      refine ⟨_, _, rfl, ?_⟩
      simp -implicitDefEqProofs only [Jm, Js, Jv, Jy, JA, JD, JJ, JK, JL, JP, JQ, JS, JV, JW, J13, J14, J1b, J1h, J1i, J1k, bt81, J1o ti81, J1p ti63, J1q ti3, J1r ti65 rfl, J1r ti81 rfl, J1s ti63, J1u ti81, J1w, J1x, J1y, J1z, J1A, J1B, J1C, J1D, J1E, J1G, J1H, J1M, J1S, J1T, J1U, J1V, J2B, J2C, J2D, J2G, J2I, J2J, J2K, J2L, J2M, J2N, J2O, J2P, J2S, J2T, J30, J33, J34, ↓reduceIte, reduceCtorEq, beq_self_eq_true, cond_true, cond_false, true_and, J37, J39, J3c, eq_self, J3f, J3g, hw0]
      refine loopI (α := Unit) (fun _ => [(10, .one (.d (.int .i64 (-1)))), (9, .one (.d (.bool false))), (8, .one (.d (.str ⟨#[]⟩))), (7, .one (.ptr 2 0)), (4, .one (.ptr 1 0)), (2, .one (.ptr 0 0))])
        (fun _ => [.box [.d (.sl (vals.map encVal)), .d (.sl (cons.map encCon)), .d (.sl (typs.map encTym)), .d (.sl (subs.map encSub)), .d (.sl (funs.map encFun)), .d (.sl (sigs.map encSig))], .box z76, .box zSub])
        (fun _ => True) (fun _ => 0) () (keepI [0, 1, 2] _ (WkH.refl _) rfl rfl rfl ⟨⟨_, WkV.refl _, rfl⟩, ⟨_, WkV.refl _, rfl⟩, ⟨_, WkV.refl _, rfl⟩, ⟨_, WkV.refl _, rfl⟩, ⟨_, WkV.refl _, rfl⟩, ⟨_, WkV.refl _, rfl⟩, trivial⟩) trivial ?_
      intro _ _
      simp -implicitDefEqProofs only [Jm, Jp, Jq, Jv, Jy, Jz, JB, JC, JD, JE, JI, JJ, JK, JL, JM, JO, JP, JQ, JS, JV, JW, JX, J13, J14, J15, J1i, J1u ti103, J1v ti103, J1y, J1z, J1A, J1B, J1C, J1D, J1E, J1G, J1J, J1K, J1R, J1Z, J2h, J2i, J2n, J2B, J2C, J2D, J2G, J2I, J2K, J2L, J2M, J2N, J2O, J2S, J2T, J30, J34, ↓reduceIte, beq_self_eq_true, cond_true, cond_false, J37, J39, eq_self, J3f, J3g, zSub, z76]
      apply vend_of []; rfl; rfl
      refine ⟨?_, rfl⟩
      rw [show sigP sigs subs [s] = none from lastOf_miss (fun j y hy => hmiss j y (Nat.zero_le _) hy)]
      rfl
  · have hat : sigP sigs subs p = (innO subs p).bind (farSig (innS p)) := atP_inn p (fun e => q1 (by rw [e]; rfl))
    have hsm := fun x h => (subs_small (innO_small hB p x h)).2.2.2.2
    cases hs : innO subs p with
    | none =>
      unfold innR at hin
      rw [hs] at hin hat
      generalize innS p = s' at hin hat
      simp only [zSub] at hin
      refine callS [] (hin) rfl rfl rfl ?_
      rintro _ _ ⟨rfl, rfl⟩
      refine ⟨_, _, rfl, ?_⟩
      simp -implicitDefEqProofs only [Jm, Js, Jv, Jy, JA, JD, JJ, JK, JL, JP, JQ, JS, JV, JW, J13, J14, J1b, J1h, J1i, J1k, bt81, J1o ti81, J1p ti63, J1q ti3, J1r ti65 rfl, J1r ti81 rfl, J1s ti63, J1u ti81, J1w, J1x, J1y, J1z, J1A, J1B, J1C, J1D, J1E, J1G, J1H, J1M, J1S, J1T, J1U, J1V, J2B, J2C, J2D, J2G, J2I, J2J, J2K, J2L, J2M, J2N, J2O, J2P, J2S, J2T, J30, J33, J34, ↓reduceIte, reduceCtorEq, beq_self_eq_true, cond_true, cond_false, true_and, J37, J39, J3c, eq_self, J3f, J3g, hw0]
      refine loopI (α := Unit) (fun _ => [(10, .one (.d (.int .i64 (-1)))), (9, .one (.d (.bool false))), (8, .one (.d (.str s'))), (7, .one (.ptr 2 0)), (4, .one (.ptr 1 0)), (2, .one (.ptr 0 0))])
        (fun _ => [.box [.d (.sl (vals.map encVal)), .d (.sl (cons.map encCon)), .d (.sl (typs.map encTym)), .d (.sl (subs.map encSub)), .d (.sl (funs.map encFun)), .d (.sl (sigs.map encSig))], .box z76, .box zSub])
        (fun _ => True) (fun _ => 0) () (keepI [0, 1, 2] _ (WkH.refl _) rfl rfl rfl ⟨⟨_, WkV.refl _, rfl⟩, ⟨_, WkV.refl _, rfl⟩, ⟨_, WkV.refl _, rfl⟩, ⟨_, WkV.refl _, rfl⟩, ⟨_, WkV.refl _, rfl⟩, ⟨_, WkV.refl _, rfl⟩, trivial⟩) trivial ?_
      intro _ _
      simp -implicitDefEqProofs only [Jm, Jp, Jq, Jv, Jy, Jz, JB, JC, JD, JE, JI, JJ, JK, JL, JM, JO, JP, JQ, JS, JV, JW, JX, J13, J14, J15, J1i, J1u ti103, J1v ti103, J1y, J1z, J1A, J1B, J1C, J1D, J1E, J1G, J1J, J1K, J1R, J1Z, J2h, J2i, J2n, J2B, J2C, J2D, J2G, J2I, J2K, J2L, J2M, J2N, J2O, J2S, J2T, J30, J34, ↓reduceIte, beq_self_eq_true, cond_true, cond_false, J37, J39, eq_self, J3f, J3g, zSub, z76]
      apply vend_of []; rfl; rfl
      exact ⟨by rw [hat]; rfl, rfl⟩
    | some x =>
      have hx := hsm x hs
      unfold innR at hin
      rw [hs] at hin hat
      generalize innS p = s at hin hat
      obtain ⟨xn, ⟨x1, x2, x3, x4, x5⟩, ⟨y1, y2, y3, y4, y5, y6, y7⟩⟩ := x
      simp only [Stx.sigs] at hx
      have hx : x5.length < 1000000000 := by omega
      simp only [encSub, encSt, encTm, List.map_cons, List.map_nil, List.cons_append, List.nil_append] at hin
      have hlx : (encSt.sigs x5).length = x5.length := by rw [encSigs_m]; simp
      have hwx : IntKind.i64.wrap ((x5.length : Int) - 1) = (x5.length : Int) - 1 := wrap_p (by omega) (by omega)
      refine callS [] (hin) rfl rfl rfl ?_
      rintro _ _ ⟨rfl, rfl⟩
      refine ⟨_, _, rfl, ?_⟩
      simp -implicitDefEqProofs only [Jm, Js, Jv, Jy, JA, JD, JJ, JK, JL, JP, JQ, JS, JV, JW, J13, J14, J1b, J1h, J1i, J1k, bt81, J1o ti81, J1p ti63, J1q ti3, J1r ti65 rfl, J1r ti81 rfl, J1s ti63, J1u ti81, J1w, J1x, J1y, J1z, J1A, J1B, J1C, J1D, J1E, J1G, J1H, J1M, J1S, J1T, J1U, J1V, J2u, J2v, J2w, J2x, J2y, J2z, J2B, J2C, J2D, J2G, J2H, J2I, J2J, J2K, J2L, J2M, J2N, J2O, J2P, J2S, J2T, J30, J33, J34, ↓reduceIte, reduceCtorEq, beq_self_eq_true, cond_true, cond_false, true_and, J37, J39, J3c, eq_self, J3f, J3g, hlx, hwx]
      refine loopI (α := Nat) (fun m => [(10, .one (.d (.int .i64 ((m : Int) - 1)))), (9, .one (.d (.bool true))), (8, .one (.d (.str s))), (7, .one (.ptr 2 0)), (4, .one (.ptr 1 0)), (2, .one (.ptr 0 0))])
        (fun _ => [.box [.d (.sl (vals.map encVal)), .d (.sl (cons.map encCon)), .d (.sl (typs.map encTym)), .d (.sl (subs.map encSub)), .d (.sl (funs.map encFun)), .d (.sl (sigs.map encSig))], .box z76, .box [.d (.str xn), .d (.sl (x1.map encTym)), .d (.sl (x2.map encVam)), .d (.sl (encSt.subs x3)), .d (.sl (encSt.funs x4)), .d (.sl (encSt.sigs x5)), .d (.int .i64 y1), .d (.int .i64 y2), .d (.int .i64 y3), .d (.str y4), .d (.sl (txts y5)), .d (.sl (encTt.encs y6)), .d (.sl (encTm.encs y7))]])
        (fun m => m ≤ x5.length ∧ ∀ (j : Nat) (y : _), m ≤ j → x5[j]? = some y → y.1 ≠ s) (fun m => m) x5.length
        (keepI [0, 1, 2] _ (WkH.refl _) rfl rfl rfl ⟨⟨_, WkV.refl _, rfl⟩, ⟨_, WkV.refl _, rfl⟩, ⟨_, WkV.refl _, rfl⟩, ⟨_, WkV.refl _, rfl⟩, ⟨_, WkV.refl _, rfl⟩, ⟨_, WkV.refl _, rfl⟩, trivial⟩) ⟨Nat.le_refl _, fun j y hj hy => absurd (List.getElem?_eq_some_iff.1 hy).1 (by omega)⟩ ?_
      rintro m ⟨hm, hmiss⟩
      simp -implicitDefEqProofs only [Jm, Jo, Jp, Jr, Ju, Jv, Jy, Jz, JA, JB, JC, JD, JE, JI, JJ, JK, JL, JM, JN, JO, JP, JQ, JS, JT, JV, JW, JX, J13, J14, J15, J1i, J1k, J1q ti3, J1r ti65 rfl, J1r ti81 rfl, J1s ti63, J1t ti63 rfl, J1u ti103, J1v ti103, J1w, J1x, J1y, J1z, J1A, J1B, J1C, J1D, J1E, J1G, J1H, J1I, J1J, J1K, J1R, J1S, J1T, J1U, J1V, J1Z, J2i, J2B, J2C, J2D, J2G, J2I, J2J, J2K, J2L, J2M, J2N, J2O, J2S, J2T, J30, J31, J33, J34, ↓reduceIte, reduceCtorEq, beq_self_eq_true, cond_true, cond_false, false_and, J37, J39, decide_eq_true_eq, decide_eq_false_iff_not, J3c, eq_self, J3f, J3g, ge_iff_le, z76]
      refine ⟨fun g => ?_, fun g => ?_⟩
      · obtain ⟨i, rfl⟩ : ∃ i, m = i + 1 := ⟨m - 1, by omega⟩
        have hi : i < x5.length := by omega
        obtain ⟨u, hu⟩ : ∃ u, x5[i]? = some u := ⟨x5[i], List.getElem?_eq_getElem hi⟩
        have hg : (encSt.sigs x5)[i]? = some (encSig u) := by rw [encSigs_m, List.getElem?_map, hu]; rfl
        have hhit := fun h1 => lastOf_hit (nm := (·.1)) (s := s) hu h1 (fun j y hj hy => hmiss j y (by omega) hy)
        obtain ⟨mn, l1, ⟨u1, u2, u3, u4, u5⟩⟩ := u
        simp only [encSig, encSt] at hg
        have hc : ((i + 1 : Nat) : Int) - 1 = (i : Int) := by omega
        have hwi : IntKind.i64.wrap ((i : Int) - 1) = (i : Int) - 1 := wrap_p (by omega) (by omega)
        simp -implicitDefEqProofs only [Jm, Jo, Jr, Js, Ju, Jv, Jy, Jz, JC, JD, JF, JG, JH, JJ, JK, JL, JN, JO, JP, JQ, JS, JT, JV, JW, J13, J14, J1i, J1j, J1k, J1q ti3, J1q ti9, J1r ti65 rfl, J1r ti81 rfl, J1r ti162 rfl, J1s ti9, J1s ti63, J1s ti87, J1t ti63 rfl, J1u ti103, J1v ti103, J1w, J1x, J1y, J1z, J1A, J1B, J1C, J1D, J1E, J1G, J1H, J1I, J1J, J1K, J1R, J1S, J1T, J1U, J1V, J2B, J2C, J2D, J2F, J2G, J2H, J2I, J2J, J2K, J2L, J2M, J2N, J2O, J2P, J2Q, J2R, J2S, J2T, J30, J31, J33, J34, ↓reduceIte, reduceCtorEq, beq_self_eq_true, cond_true, cond_false, true_and, false_and, and_self, J37, J39, decide_eq_true_eq, decide_eq_false_iff_not, J3c, eq_self, ne_eq, J3f, J3g, J3h, hc, hg, Int.natCast_nonneg, Int.toNat_natCast]
        refine ⟨fun e => ?_, fun e => ?_⟩
        · apply vend_of []; rfl; rfl
          refine ⟨?_, rfl⟩
          rw [hat]
          simp only [Option.bind_some, farSig, Stx.sigs]
          rw [hhit e]
          rfl
        · simp only [hwi]
          refine ⟨i, ⟨by omega, fun j y hj hy => ?_⟩, Nat.lt_succ_self i, (keepI [0, 1, 2] _ (WkH.refl _) rfl rfl rfl ⟨⟨_, WkV.refl _, rfl⟩, ⟨_, WkV.refl _, rfl⟩, ⟨_, WkV.refl _, rfl⟩, ⟨_, WkV.refl _, rfl⟩, ⟨_, WkV.refl _, rfl⟩, ⟨_, WkV.refl _, rfl⟩, trivial⟩)⟩
          by_cases e2 : j = i
          · subst e2
            rw [hu] at hy
            cases hy
            exact e
          · exact hmiss j y (by omega) hy
      · apply vend_of []; rfl; rfl
        refine ⟨?_, rfl⟩
        have : m = 0 := by omega
        subst this
        rw [hat]
        simp only [Option.bind_some, farSig, Stx.sigs]
        rw [lastOf_miss (nm := (·.1)) (l := x5) (s := s) (fun j y hy => hmiss j y (Nat.zero_le _) hy)]
        rfl

end Go.Vt.Tryz
