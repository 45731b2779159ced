/- The document's answers: Typ at a path. -/
import Derived.Test.YtdabfkmhkoppcaaGreatDoorVtF1
set_option maxRecDepth 100000
set_option linter.unusedSimpArgs false
namespace Go.Vt.Tryz
open Go.Vt renaming ob_some → Jm, vbool_eq → Jo, vif_tt → Jp, vif_ff → Jq, vD_bool → Jr, vD_int → Js, wp_skip → Ju, wp_ops → Jv, wp_seq → Jy, wp_cond → Jz, wp_block → JA, wp_exit → JB, wp_ret → JC, th_normal → JD, th_exit → JE, th_ret → JF, bl_normal → JG, bl_ret → JH, bl_exit → JI, ops_nil → JJ, ops_cons → JK, go_none → JL, go_some → JM, cond_tt → JN, cond_ff → JO, put_some → JP, put_none → JQ, asL → JS, asI → JT, asFn → JU, opd_tmp → JV, opd_int → JW, opd_bool → JX, opd_func → J12, so_move → J13, so_assign → J14, so_pick → J15, so_box → J16, so_extract → J1b, so_call → J1e, esc_func → J1g, bobj_none → J1h, lk_cons → J1i, nilC_tmp → J1j, nilC_int → J1k, so_alloc → J1o, so_len → J1p, so_bin → J1q, so_fieldAddr → J1r, so_load → J1s, so_indexAddr → J1t, so_store → J1u, so_build → J1v, vload → J1w, mkV → J1x, vstore → J1y, vcells → J1z, known → J1A, toDs → J1B, toD → J1C, fzLs → J1D, fzL → J1E, splice → J1G, vfieldAddr → J1H, vindexAddr → J1I, vbuild → J1J, vfill → J1K, vlen → J1M, opds → J1Q, opdPairs → J1R, vbin2 → J1S, vbin → J1T, vint → J1U, vstr → J1V, vpick → J1Z, vundef → J2h, gb_b → J2i, sb_ft → J2n, putBack → J2u, fzIds → J2v, lentVs → J2w, lentV → J2x, lentLs → J2y, lentL → J2z
open List renaming contains_cons → Jg, contains_nil → Jh, lookup_nil → J2B, getElem?_cons_zero → J2C, getElem?_cons_succ → J2D, take_succ_cons → J2F, take_zero → J2G, take_nil → J2H, drop_succ_cons → J2I, drop_zero → J2J, drop_nil → J2K, length_cons → J2L, length_nil → J2M, append_nil → J2N, nil_append → J2O, cons_append → J2P, map_cons → J2Q, map_nil → J2R, set_cons_zero → J2S, set_cons_succ → J2T, all_nil → J2W
open Bool renaming or_false → Jk, and_true → J2Y, false_eq_true → J3c
open Nat renaming reduceBEq → J30, reduceEqDiff → J31, reduceLeDiff → J33, reduceAdd → J34, zero_add → J3f, le_refl → J3g, add_zero → J3h
open Option renaming map_some → J37, bind_some → J39
open Go.Proofs

theorem atP_inn {α : Type} {nm : α → ByteArray} {l : List α} {subs : List SubE} {far : ByteArray → SubE → Option α} (p : List ByteArray) (h : p.length ≠ 1) : atP nm l subs far p = (innO subs p).bind (far (innS p)) := by
  rcases p with _ | ⟨s, _ | ⟨t, r⟩⟩
  · rfl
  · simp at h
  · rfl

theorem innO_small {subs : List SubE} {B : Nat} (hB : ∀ x ∈ subs, stn x.2.1 ≤ B) (p : List ByteArray) (x : SubE) (h : innO subs p = some x) : stn x.2.1 ≤ B := by
  rcases p with _ | ⟨s, _ | ⟨t, r⟩⟩
  · cases h
  · cases h
  · exact subAt_small hB (t :: r) x h

set_option maxHeartbeats 4000000 in
theorem vc_rTyp (vals : List ValE) (cons : List ConE) (typs : List Tym) (subs : List SubE) (funs : List FunE) (sigs : List SigE) (hl : typs.length < 1000000000) (hs : subs.length < 1000000000) (hB : ∀ x ∈ subs, stn x.2.1 ≤ 999999990) (p : List ByteArray) (hp : p.length < 1000000000) :
    VC Tryz.prog 18 [envV vals cons typs subs funs sigs, .one (.d (.sl (txts p.reverse)))] [] fun r h' => r = resR encTym z56 (typP typs subs p) ∧ h' = [] := by
  have hlen : (txts p.reverse).length = p.length := by rw [txts_length, List.length_reverse]
  have hin := vc_rinner vals cons typs subs funs sigs hs hB p hp
  have hwl : IntKind.i64.wrap ((typs.length : Int) - 1) = (typs.length : Int) - 1 := wrap_p (by omega) (by omega)
  have hw0 : IntKind.i64.wrap (((0 : Nat) : Int) - 1) = -1 := rfl
  unfold envV at *
  refine VC_of_fn mixed fn18 (by simp) ?_
  show vwp Tryz.prog 0 vc18 _ [(0, .agg [.d (.sl (vals.map encVal)), .d (.sl (cons.map encCon)), .d (.sl (typs.map encTym)), .d (.sl (subs.map encSub)), .d (.sl (funs.map encFun)), .d (.sl (sigs.map encSig))]), (1, .one (.d (.sl (txts p.reverse))))] []
  unfold vc18
  rw [vwpI_eq]
  simp -implicitDefEqProofs only [Jg, Jh, Jk, Jm, Jo, Jp, Jr, Js, Ju, Jv, Jy, Jz, JA, JD, JJ, JK, JL, JN, JO, JP, JS, JU, JV, JW, J12, J13, J14, J16, J1e, J1g, noescs, Jg, J1h, J1i, J1k, bt29, bt78, J1o ti78, J1p ti24, J1p ti35, J1q ti3, J1r ti29 rfl, J1s ti24, J1s ti29, J1w, J1x, J1z, J1A, J1H, J1M, J1Q, J1S, J1T, J1U, J1V, J2B, J2C, J2D, J2F, J2H, J2I, J2J, J2L, J2M, J2N, J2O, J2P, J2R, J2W, J2Y, J30, J33, J34, ↓reduceIte, reduceCtorEq, beq_self_eq_true, cond_true, cond_false, true_and, J37, J39, beq_iff_eq, beq_eq_false_iff_ne, J3c, eq_self, ne_eq, J3f, J3g, hlen, hwl, List.length_map]
  refine ⟨fun q1 => ?_, fun q1 => ?_⟩
  · obtain ⟨s, rfl⟩ : ∃ s, p = [s] := by
      rcases p with _ | ⟨s, _ | ⟨t, r⟩⟩
      · simp at q1
      · exact ⟨s, rfl⟩
      · simp at q1; omega
    have ht0 : (txts [s].reverse)[Int.toNat 0]? = some [.str s] := rfl
    rw [show innR subs [s] = .tup [.agg zSub, .one (.d (.str ⟨#[]⟩)), .one (.d (.bool false))] from rfl] at hin
    simp only [zSub] at hin
    refine loopI (α := Nat) (fun m => [(6, .one (.d (.int .i64 ((m : Int) - 1)))), (4, .one (.ptr 1 0)), (2, .one (.ptr 0 0)), (1, .one (.d (.sl (txts [s].reverse))))])
      (fun _ => [.box [.d (.sl (vals.map encVal)), .d (.sl (cons.map encCon)), .d (.sl (typs.map encTym)), .d (.sl (subs.map encSub)), .d (.sl (funs.map encFun)), .d (.sl (sigs.map encSig))], .box z56])
      (fun m => m ≤ typs.length ∧ ∀ (j : Nat) (y : _), m ≤ j → typs[j]? = some y → y.name ≠ s) (fun m => m) typs.length
      (keepI [0, 1] _ (WkH.refl _) rfl rfl rfl ⟨⟨_, WkV.refl _, rfl⟩, ⟨_, WkV.refl _, rfl⟩, ⟨_, WkV.refl _, rfl⟩, ⟨_, WkV.refl _, rfl⟩, trivial⟩) ⟨Nat.le_refl _, fun j y hj hy => absurd (List.getElem?_eq_some_iff.1 hy).1 (by omega)⟩ ?_
    rintro m ⟨hm, hmiss⟩
    simp -implicitDefEqProofs only [Jg, Jh, Jk, Jm, Jo, Jp, Jr, Ju, Jv, Jy, Jz, JA, JB, JD, JE, JI, JJ, JK, JL, JN, JO, JP, JS, JT, JU, JV, JW, J12, J13, J1e, J1g, noescs, Jg, J1i, J1k, J1q ti3, J1r ti29 rfl, J1s ti24, J1s ti29, J1t ti24 rfl, J1w, J1x, J1H, J1I, J1Q, J1S, J1T, J1U, J1V, J2B, J2C, J2D, J2F, J2H, J2I, J2J, J2L, J2M, J2N, J2O, J2R, J2W, J2Y, J30, J31, J33, J34, ↓reduceIte, reduceCtorEq, beq_self_eq_true, cond_true, cond_false, false_and, J37, J39, decide_eq_true_eq, decide_eq_false_iff_not, J3c, eq_self, J3f, J3g, ge_iff_le, List.length_map, z56]
    refine ⟨fun g => ?_, fun g => ?_⟩
    · obtain ⟨i, rfl⟩ : ∃ i, m = i + 1 := ⟨m - 1, by omega⟩
      have hi : i < typs.length := by omega
      obtain ⟨u, hu⟩ : ∃ u, typs[i]? = some u := ⟨typs[i], List.getElem?_eq_getElem hi⟩
      have hg : (typs.map encTym)[i]? = some (encTym u) := by rw [List.getElem?_map, hu]; rfl
      have hhit := fun h1 => lastOf_hit (nm := Tym.name) (s := s) hu h1 (fun j y hj hy => hmiss j y (by omega) hy)
      obtain ⟨un, ⟨u1, u2, u3⟩, ul⟩ := u
      simp only [encTym, encTy, List.cons_append, List.nil_append] at hg
      have hc : ((i + 1 : Nat) : Int) - 1 = (i : Int) := by omega
      have hwi : IntKind.i64.wrap ((i : Int) - 1) = (i : Int) - 1 := wrap_p (by omega) (by omega)
      simp -implicitDefEqProofs only [Jm, Jo, Jr, Js, Ju, Jv, Jy, Jz, JC, JD, JF, JG, JH, JJ, JK, JL, JN, JO, JP, JQ, JS, JT, JV, JW, J13, J14, J1i, J1j, J1k, J1q ti3, J1q ti9, J1r ti29 rfl, J1r ti78 rfl, J1s ti9, J1s ti24, J1s ti78, J1t ti24 rfl, J1t ti35 rfl, J1u ti78, J1w, J1x, J1y, J1z, J1A, J1B, J1C, J1D, J1E, J1G, J1H, J1I, J1S, J1T, J1U, J1V, J2B, J2C, J2D, J2F, J2G, J2H, J2I, J2J, J2K, J2L, J2M, J2N, J2O, J2Q, J2R, J2S, J2T, J30, J31, J33, J34, ↓reduceIte, reduceCtorEq, beq_self_eq_true, cond_true, cond_false, true_and, false_and, J37, J39, decide_eq_true_eq, decide_eq_false_iff_not, J3c, eq_self, ne_eq, J3f, J3g, J3h, hc, hg, ht0, Int.le_refl, Int.natCast_nonneg, Int.toNat_natCast]
      refine ⟨fun e => ?_, fun e => ?_⟩
      · apply vend_of []; rfl; rfl
        refine ⟨?_, rfl⟩
        rw [show typP typs subs [s] = some _ from hhit e]
        rfl
      · simp only [hwi]
        refine ⟨i, ⟨by omega, fun j y hj hy => ?_⟩, Nat.lt_succ_self i, (keepI [0, 1] _ (WkH.refl _) rfl rfl rfl ⟨⟨_, WkV.refl _, rfl⟩, ⟨_, WkV.refl _, rfl⟩, ⟨_, WkV.refl _, rfl⟩, ⟨_, WkV.refl _, rfl⟩, trivial⟩)⟩
        by_cases e2 : j = i
        · subst e2
          rw [hu] at hy
          cases hy
          exact e
        · exact hmiss j y (by omega) hy
    · have : m = 0 := by omega
      subst this
      refine callS [] (hin) rfl rfl rfl ?_
      rintro _ _ ⟨rfl, rfl⟩
      refine ⟨_, _, rfl, ?_⟩
      simp -implicitDefEqProofs only [Jm, Js, Jv, Jy, JA, JD, JJ, JK, JL, JP, JQ, JS, JV, JW, J13, J14, J1b, J1h, J1i, J1k, bt81, J1o ti81, J1p ti59, J1q ti3, J1r ti65 rfl, J1r ti81 rfl, J1s ti59, J1u ti81, J1w, J1x, J1y, J1z, J1A, J1B, J1C, J1D, J1E, J1G, J1H, J1M, J1S, J1T, J1U, J1V, J2B, J2C, J2D, J2G, J2I, J2J, J2K, J2L, J2M, J2N, J2O, J2P, J2S, J2T, J30, J33, J34, ↓reduceIte, reduceCtorEq, beq_self_eq_true, cond_true, cond_false, true_and, J37, J39, J3c, eq_self, J3f, J3g, J3h, hw0]
      refine loopI (α := Unit) (fun _ => [(10, .one (.d (.int .i64 (-1)))), (9, .one (.d (.bool false))), (8, .one (.d (.str ⟨#[]⟩))), (7, .one (.ptr 2 0)), (4, .one (.ptr 1 0)), (2, .one (.ptr 0 0))])
        (fun _ => [.box [.d (.sl (vals.map encVal)), .d (.sl (cons.map encCon)), .d (.sl (typs.map encTym)), .d (.sl (subs.map encSub)), .d (.sl (funs.map encFun)), .d (.sl (sigs.map encSig))], .box z56, .box zSub])
        (fun _ => True) (fun _ => 0) () (keepI [0, 1, 2] _ (WkH.refl _) rfl rfl rfl ⟨⟨_, WkV.refl _, rfl⟩, ⟨_, WkV.refl _, rfl⟩, ⟨_, WkV.refl _, rfl⟩, ⟨_, WkV.refl _, rfl⟩, ⟨_, WkV.refl _, rfl⟩, ⟨_, WkV.refl _, rfl⟩, trivial⟩) trivial ?_
      intro _ _
      simp -implicitDefEqProofs only [Jm, Jp, Jq, Jv, Jy, Jz, JB, JC, JD, JE, JI, JJ, JK, JL, JM, JO, JP, JQ, JS, JV, JW, JX, J13, J14, J15, J1i, J1u ti78, J1v ti78, J1y, J1z, J1A, J1B, J1C, J1D, J1E, J1G, J1J, J1K, J1R, J1Z, J2h, J2i, J2n, J2B, J2C, J2D, J2G, J2I, J2K, J2L, J2M, J2N, J2O, J2S, J2T, J30, J34, ↓reduceIte, beq_self_eq_true, cond_true, cond_false, J37, J39, eq_self, J3f, J3g, zSub, z56]
      apply vend_of []; rfl; rfl
      refine ⟨?_, rfl⟩
      rw [show typP typs subs [s] = none from lastOf_miss (fun j y hy => hmiss j y (Nat.zero_le _) hy)]
      rfl
  · have hat : typP typs subs p = (innO subs p).bind (farTyp (innS p)) := atP_inn p (fun e => q1 (by rw [e]; rfl))
    have hsm := fun x h => (subs_small (innO_small hB p x h)).2.2.1
    cases hs : innO subs p with
    | none =>
      unfold innR at hin
      rw [hs] at hin hat
      generalize innS p = s' at hin hat
      simp only [zSub] at hin
      refine callS [] (hin) rfl rfl rfl ?_
      rintro _ _ ⟨rfl, rfl⟩
      refine ⟨_, _, rfl, ?_⟩
      simp -implicitDefEqProofs only [Jm, Js, Jv, Jy, JA, JD, JJ, JK, JL, JP, JQ, JS, JV, JW, J13, J14, J1b, J1h, J1i, J1k, bt81, J1o ti81, J1p ti59, J1q ti3, J1r ti65 rfl, J1r ti81 rfl, J1s ti59, J1u ti81, J1w, J1x, J1y, J1z, J1A, J1B, J1C, J1D, J1E, J1G, J1H, J1M, J1S, J1T, J1U, J1V, J2B, J2C, J2D, J2G, J2I, J2J, J2K, J2L, J2M, J2N, J2O, J2P, J2S, J2T, J30, J33, J34, ↓reduceIte, reduceCtorEq, beq_self_eq_true, cond_true, cond_false, true_and, J37, J39, J3c, eq_self, J3f, J3g, J3h, hw0]
      refine loopI (α := Unit) (fun _ => [(10, .one (.d (.int .i64 (-1)))), (9, .one (.d (.bool false))), (8, .one (.d (.str s'))), (7, .one (.ptr 2 0)), (4, .one (.ptr 1 0)), (2, .one (.ptr 0 0))])
        (fun _ => [.box [.d (.sl (vals.map encVal)), .d (.sl (cons.map encCon)), .d (.sl (typs.map encTym)), .d (.sl (subs.map encSub)), .d (.sl (funs.map encFun)), .d (.sl (sigs.map encSig))], .box z56, .box zSub])
        (fun _ => True) (fun _ => 0) () (keepI [0, 1, 2] _ (WkH.refl _) rfl rfl rfl ⟨⟨_, WkV.refl _, rfl⟩, ⟨_, WkV.refl _, rfl⟩, ⟨_, WkV.refl _, rfl⟩, ⟨_, WkV.refl _, rfl⟩, ⟨_, WkV.refl _, rfl⟩, ⟨_, WkV.refl _, rfl⟩, trivial⟩) trivial ?_
      intro _ _
      simp -implicitDefEqProofs only [Jm, Jp, Jq, Jv, Jy, Jz, JB, JC, JD, JE, JI, JJ, JK, JL, JM, JO, JP, JQ, JS, JV, JW, JX, J13, J14, J15, J1i, J1u ti78, J1v ti78, J1y, J1z, J1A, J1B, J1C, J1D, J1E, J1G, J1J, J1K, J1R, J1Z, J2h, J2i, J2n, J2B, J2C, J2D, J2G, J2I, J2K, J2L, J2M, J2N, J2O, J2S, J2T, J30, J34, ↓reduceIte, beq_self_eq_true, cond_true, cond_false, J37, J39, eq_self, J3f, J3g, zSub, z56]
      apply vend_of []; rfl; rfl
      exact ⟨by rw [hat]; rfl, rfl⟩
    | some x =>
      have hx := hsm x hs
      unfold innR at hin
      rw [hs] at hin hat
      generalize innS p = s at hin hat
      obtain ⟨xn, ⟨x1, x2, x3, x4, x5⟩, ⟨y1, y2, y3, y4, y5, y6, y7⟩⟩ := x
      simp only [Stx.types] at hx
      have hx : x1.length < 1000000000 := by omega
      simp only [encSub, encSt, encTm, List.map_cons, List.map_nil, List.cons_append, List.nil_append] at hin
      have hlx : (x1.map encTym).length = x1.length := by simp
      have hwx : IntKind.i64.wrap ((x1.length : Int) - 1) = (x1.length : Int) - 1 := wrap_p (by omega) (by omega)
      refine callS [] (hin) rfl rfl rfl ?_
      rintro _ _ ⟨rfl, rfl⟩
      refine ⟨_, _, rfl, ?_⟩
      simp -implicitDefEqProofs only [Jm, Js, Jv, Jy, JA, JD, JJ, JK, JL, JP, JQ, JS, JV, JW, J13, J14, J1b, J1h, J1i, J1k, bt81, J1o ti81, J1p ti59, J1q ti3, J1r ti65 rfl, J1r ti81 rfl, J1s ti59, J1u ti81, J1w, J1x, J1y, J1z, J1A, J1B, J1C, J1D, J1E, J1G, J1H, J1M, J1S, J1T, J1U, J1V, J2u, J2v, J2w, J2x, J2y, J2z, J2B, J2C, J2D, J2G, J2H, J2I, J2J, J2K, J2L, J2M, J2N, J2O, J2P, J2S, J2T, J30, J33, J34, ↓reduceIte, reduceCtorEq, beq_self_eq_true, cond_true, cond_false, true_and, J37, J39, J3c, eq_self, J3f, J3g, J3h, hlx, hwx]
      refine loopI (α := Nat) (fun m => [(10, .one (.d (.int .i64 ((m : Int) - 1)))), (9, .one (.d (.bool true))), (8, .one (.d (.str s))), (7, .one (.ptr 2 0)), (4, .one (.ptr 1 0)), (2, .one (.ptr 0 0))])
        (fun _ => [.box [.d (.sl (vals.map encVal)), .d (.sl (cons.map encCon)), .d (.sl (typs.map encTym)), .d (.sl (subs.map encSub)), .d (.sl (funs.map encFun)), .d (.sl (sigs.map encSig))], .box z56, .box [.d (.str xn), .d (.sl (x1.map encTym)), .d (.sl (x2.map encVam)), .d (.sl (encSt.subs x3)), .d (.sl (encSt.funs x4)), .d (.sl (encSt.sigs x5)), .d (.int .i64 y1), .d (.int .i64 y2), .d (.int .i64 y3), .d (.str y4), .d (.sl (txts y5)), .d (.sl (encTt.encs y6)), .d (.sl (encTm.encs y7))]])
        (fun m => m ≤ x1.length ∧ ∀ (j : Nat) (y : _), m ≤ j → x1[j]? = some y → y.name ≠ s) (fun m => m) x1.length
        (keepI [0, 1, 2] _ (WkH.refl _) rfl rfl rfl ⟨⟨_, WkV.refl _, rfl⟩, ⟨_, WkV.refl _, rfl⟩, ⟨_, WkV.refl _, rfl⟩, ⟨_, WkV.refl _, rfl⟩, ⟨_, WkV.refl _, rfl⟩, ⟨_, WkV.refl _, rfl⟩, trivial⟩) ⟨Nat.le_refl _, fun j y hj hy => absurd (List.getElem?_eq_some_iff.1 hy).1 (by omega)⟩ ?_
      rintro m ⟨hm, hmiss⟩
      simp -implicitDefEqProofs only [Jm, Jo, Jp, Jr, Ju, Jv, Jy, Jz, JA, JB, JC, JD, JE, JI, JJ, JK, JL, JM, JN, JO, JP, JQ, JS, JT, JV, JW, JX, J13, J14, J15, J1i, J1k, J1q ti3, J1r ti65 rfl, J1r ti81 rfl, J1s ti59, J1t ti59 rfl, J1u ti78, J1v ti78, J1w, J1x, J1y, J1z, J1A, J1B, J1C, J1D, J1E, J1G, J1H, J1I, J1J, J1K, J1R, J1S, J1T, J1U, J1V, J1Z, J2i, J2B, J2C, J2D, J2G, J2I, J2J, J2K, J2L, J2M, J2N, J2O, J2S, J2T, J30, J31, J33, J34, ↓reduceIte, reduceCtorEq, beq_self_eq_true, cond_true, cond_false, false_and, J37, J39, decide_eq_true_eq, decide_eq_false_iff_not, J3c, eq_self, J3f, J3g, J3h, ge_iff_le, z56]
      refine ⟨fun g => ?_, fun g => ?_⟩
      · obtain ⟨i, rfl⟩ : ∃ i, m = i + 1 := ⟨m - 1, by omega⟩
        have hi : i < x1.length := by omega
        obtain ⟨u, hu⟩ : ∃ u, x1[i]? = some u := ⟨x1[i], List.getElem?_eq_getElem hi⟩
        have hg : (x1.map encTym)[i]? = some (encTym u) := by rw [List.getElem?_map, hu]; rfl
        have hhit := fun h1 => lastOf_hit (nm := Tym.name) (s := s) hu h1 (fun j y hj hy => hmiss j y (by omega) hy)
        obtain ⟨mn, ⟨m1, m2, m3⟩, ml⟩ := u
        simp only [encTym, encTy, List.cons_append, List.nil_append] at hg
        have hc : ((i + 1 : Nat) : Int) - 1 = (i : Int) := by omega
        have hwi : IntKind.i64.wrap ((i : Int) - 1) = (i : Int) - 1 := wrap_p (by omega) (by omega)
        simp -implicitDefEqProofs only [Jm, Jo, Jr, Js, Ju, Jv, Jy, Jz, JC, JD, JF, JG, JH, JJ, JK, JL, JN, JO, JP, JQ, JS, JT, JV, JW, J13, J14, J1i, J1j, J1k, J1q ti3, J1q ti9, J1r ti65 rfl, J1r ti81 rfl, J1r ti133 rfl, J1s ti9, J1s ti32, J1s ti59, J1s ti70, J1t ti59 rfl, J1u ti78, J1v ti78, J1w, J1x, J1y, J1z, J1A, J1B, J1C, J1D, J1E, J1G, J1H, J1I, J1J, J1K, J1R, J1S, J1T, J1U, J1V, J2B, J2C, J2D, J2F, J2G, J2I, J2J, J2K, J2L, J2M, J2N, J2O, J2P, J2Q, J2R, J2S, J2T, J30, J31, J33, J34, ↓reduceIte, reduceCtorEq, beq_self_eq_true, cond_true, cond_false, true_and, false_and, and_self, J37, J39, decide_eq_true_eq, decide_eq_false_iff_not, J3c, eq_self, ne_eq, J3f, J3g, J3h, hc, hg, Int.natCast_nonneg, Int.toNat_natCast]
        refine ⟨fun e => ?_, fun e => ?_⟩
        · apply vend_of []; rfl; rfl
          refine ⟨?_, rfl⟩
          rw [hat]
          simp only [Option.bind_some, farTyp, Stx.types]
          rw [hhit e]
          rfl
        · simp only [hwi]
          refine ⟨i, ⟨by omega, fun j y hj hy => ?_⟩, Nat.lt_succ_self i, (keepI [0, 1, 2] _ (WkH.refl _) rfl rfl rfl ⟨⟨_, WkV.refl _, rfl⟩, ⟨_, WkV.refl _, rfl⟩, ⟨_, WkV.refl _, rfl⟩, ⟨_, WkV.refl _, rfl⟩, ⟨_, WkV.refl _, rfl⟩, ⟨_, WkV.refl _, rfl⟩, trivial⟩)⟩
          by_cases e2 : j = i
          · subst e2
            rw [hu] at hy
            cases hy
            exact e
          · exact hmiss j y (by omega) hy
      · apply vend_of []; rfl; rfl
        refine ⟨?_, rfl⟩
        have : m = 0 := by omega
        subst this
        rw [hat]
        simp only [Option.bind_some, farTyp, Stx.types]
        rw [lastOf_miss (nm := Tym.name) (l := x1) (s := s) (fun j y hy => hmiss j y (Nat.zero_le _) hy)]
        rfl

end Go.Vt.Tryz
