/- The environment laws: what is bound around a part of a term; a term is the same as itself. -/
import Derived.Test.YtdabfkmhkoppcaaGreatDoorVtN1
set_option maxRecDepth 100000
set_option linter.unusedSimpArgs false
namespace Go.Vt.Tryz
open Go.Vt renaming opsW_nil → J6, opsW_cons → J7, again_nil → J8, again_cons → J9, obOf_nil → Ja, obOf_cons → Jb, wadd → Jc, ro → Jd, ob_some → Jm, vbool_eq → Jo, vif_tt → Jp, vif_ff → Jq, vD_bool → Jr, vD_int → Js, wp_skip → Ju, wp_ops → Jv, wp_opsW → Jw, wp_seq → Jy, wp_cond → Jz, wp_block → JA, wp_exit → JB, wp_ret → JC, th_normal → JD, th_exit → JE, th_ret → JF, bl_normal → JG, bl_exit → JI, ops_nil → JJ, ops_cons → JK, go_none → JL, go_some → JM, cond_tt → JN, cond_ff → JO, put_some → JP, put_none → JQ, asB → JR, asL → JS, asI → JT, asFn → JU, opd_tmp → JV, opd_int → JW, opd_bool → JX, opd_func → J12, so_move → J13, so_assign → J14, so_pick → J15, so_box → J16, so_not → J18, so_call → J1e, esc_func → J1g, bobj_none → J1h, lk_cons → J1i, nilC_tmp → J1j, nilC_int → J1k, so_alloc → J1o, so_fieldAddr → J1p, so_load → J1q, so_bin → J1r, so_store → J1s, so_len → J1t, so_indexAddr → J1u, vload → J1v, mkV → J1w, vstore → J1x, vcells → J1y, known → J1z, toDs → J1A, toD → J1B, fzLs → J1C, fzL → J1D, splice → J1F, vfieldAddr → J1G, vindexAddr → J1H, vbuild → J1I, vfill → J1J, vlen → J1L, opds → J1P, opdPairs → J1Q, vbin2 → J1R, vbin → J1S, vint → J1T, vstr → J1U, vpick → J1Y, vundef → J2g, gb_b → J2h, gb_u → J2i, sb_tf → J2l, sb_ft → J2m, sb_nt → J2n, putBack → J2t, fzIds → J2u, lentVs → J2v, lentV → J2w, lentLs → J2x, lentL → J2y, so_build → J3h
open List renaming any_cons → Je, any_nil → Jf, contains_cons → Jg, contains_nil → Jh, lookup_nil → J2A, getElem?_cons_zero → J2B, getElem?_cons_succ → J2C, take_succ_cons → J2E, take_zero → J2F, take_nil → J2G, drop_succ_cons → J2H, drop_zero → J2I, drop_nil → J2J, length_cons → J2K, length_nil → J2L, append_nil → J2M, nil_append → J2N, cons_append → J2O, map_cons → J2P, map_nil → J2Q, set_cons_zero → J2R, set_cons_succ → J2S, all_nil → J2V
open Bool renaming or_true → Ji, or_false → Jk, and_true → J2X, false_eq_true → J3b, not_true → J3c, not_false → J3d
open Nat renaming reduceBEq → J2Z, reduceEqDiff → J30, reduceLeDiff → J32, reduceAdd → J33, zero_add → J3e, le_refl → J3f, add_zero → J3g
open Option renaming map_some → J36, bind_some → J38
open Go.Proofs

def innerS (k n : Int) (s : ByteArray) (ls : List ByteArray) (i : Nat) (x : List Int) (y : List ByteArray) : List Int × List ByteArray :=
  if k = 20 then (x ++ [n], y)
  else if k = 5 then (x, y ++ [s])
  else if k = 7 then (match ls with | [] => (x, y ++ [s]) | l :: _ => (x, y ++ [s] ++ [l]))
  else if k = 8 then (if 0 < i then (x, y ++ [s]) else (x, y))
  else if k = 23 then (if 0 < i then (x ++ [n], y ++ [s]) else (x, y))
  else if k = 17 then (if 0 < i ∧ i ≤ ls.length then (match ls[i - 1]? with | some l => (x, y ++ [l]) | none => (x, y)) else (x, y))
  else (x, y)

theorem innerS_len (k n : Int) (s : ByteArray) (ls : List ByteArray) (i : Nat) (x : List Int) (y : List ByteArray) : (innerS k n s ls i x y).1.length + (innerS k n s ls i x y).2.length ≤ x.length + y.length + 2 := by
  unfold innerS
  (repeat' split) <;> simp <;> omega

set_option maxHeartbeats 4000000 in
theorem vc_inner (t : Tm) (i : Nat) (x : List Int) (y : List ByteArray) (hx : x.length + y.length < 999999990) (hi : i < 1000000000) :
    VC Tryz.prog 176 [tmV t, .one (.d (.int .i64 i)), scopeV x y] [] fun r h' => (match t with | .mk k n _ s ls _ _ => r = scopeV (innerS k n s ls i x y).1 (innerS k n s ls i x y).2) ∧ h' = [] := by
  obtain ⟨k, n, v, s, ls, ts, kids⟩ := t
  simp only
  refine VC_of_fn mixed fn176 (by simp) ?_
  show vwp Tryz.prog 0 vc176 _ [(0, .agg [.d (.int .i64 k), .d (.int .i64 n), .d (.int .i64 v), .d (.str s), .d (.sl (txts ls)), .d (.sl (encTt.encs ts)), .d (.sl (encTm.encs kids))]), (1, .one (.d (.int .i64 i))), (2, .agg [.d (.sl (nums x)), .d (.sl (txts y))])] []
  unfold vc176
  rw [vwpI_eq]
  simp -implicitDefEqProofs only [Jg, Jh, Jk, Jm, Jo, Jp, Jq, Jr, Js, Ju, Jv, Jy, Jz, JA, JC, JD, JG, JJ, JK, JL, JM, JN, JO, JP, JQ, JS, JT, JU, JV, JW, JX, J12, J13, J14, J15, J16, J1e, J1g, noescs, Jg, J1h, J1i, J1j, J1k, bt39, bt237, bt237, J1o ti237, J1p ti39 rfl, J1p ti237 rfl, J1q ti3, J1q ti9, J1q ti35, J1q ti85, J1q ti237, J1r ti3, J1s ti237, J1t ti35, J1u ti35 rfl, J1v, J1w, J1x, J1y, J1z, J1A, J1B, J1C, J1D, J1F, J1G, J1H, J1L, J1P, J1R, J1S, J1T, J1U, J1Y, J2g, J2h, J2m, J2A, J2B, J2C, J2E, J2F, J2G, J2H, J2I, J2J, J2K, J2L, J2M, J2N, J2O, J2Q, J2R, J2S, J2V, J2X, J2Z, J32, J33, ↓reduceIte, reduceCtorEq, beq_self_eq_true, cond_true, cond_false, true_and, J36, J38, decide_eq_true_eq, decide_eq_false_iff_not, beq_iff_eq, beq_eq_false_iff_ne, J3b, eq_self, ne_eq, J3e, J3f, J3g, gt_iff_lt]
  refine ⟨fun h1 => ?_, fun h1 => ⟨fun h2 => ?_, fun h2 => ⟨fun h3 => ?_, fun h3 => ⟨fun h4 => ?_, fun h4 => ⟨fun h5 => ?_, fun h5 => ⟨fun h6 => ?_, fun h6 => ?_⟩⟩⟩⟩⟩⟩
  · refine callS [] (vc_with x n (by omega)) rfl rfl rfl ?_
    rintro _ _ ⟨rfl, rfl⟩
    refine ⟨_, _, rfl, ?_⟩
    simp -implicitDefEqProofs only [Jm, Jv, Jy, JC, JD, JG, JJ, JK, JL, JP, JQ, JS, JV, J1i, J1p ti237 rfl, J1q ti237, J1s ti85, J1s ti237, J1v, J1w, J1x, J1y, J1z, J1A, J1B, J1C, J1D, J1F, J1G, J2t, J2u, J2v, J2w, J2y, J2A, J2B, J2C, J2E, J2F, J2G, J2H, J2I, J2J, J2K, J2L, J2M, J2N, J2O, J2R, J2S, J2Z, J32, J33, ↓reduceIte, reduceCtorEq, beq_self_eq_true, cond_true, cond_false, J36, J38, eq_self, J3e, J3f, J3g]
    apply vend_of []
    · simp only [vres, lk_cons, Nat.reduceBEq, cond_true, cond_false, ti237, vload, List.getElem?_cons_succ, List.getElem?_cons_zero, mkV, List.drop_zero, List.length_cons, List.length_nil, Nat.reduceAdd, Nat.le_refl, if_true, List.take_succ_cons, List.take_zero]; rfl
    · first | rfl | (simp [fin, nodup, handO, lendR, lendV, lendLs, lendL, idx, vone, renL, lendVs, renO, renL.renLs]; exact ⟨rfl, rfl⟩)
    exact ⟨by unfold innerS; rw [if_pos h1]; rfl, rfl⟩
  · refine callS [] (vc_named y s (by omega)) rfl rfl rfl ?_
    rintro _ _ ⟨rfl, rfl⟩
    refine ⟨_, _, rfl, ?_⟩
    simp -implicitDefEqProofs only [Jm, Jv, Jy, JC, JD, JG, JJ, JK, JL, JP, JQ, JS, JV, J1i, J1p ti237 rfl, J1q ti237, J1s ti35, J1s ti237, J1v, J1w, J1x, J1y, J1z, J1A, J1B, J1C, J1D, J1F, J1G, J2t, J2u, J2v, J2w, J2y, J2A, J2B, J2C, J2E, J2F, J2G, J2H, J2I, J2J, J2K, J2L, J2M, J2N, J2O, J2R, J2S, J2Z, J32, J33, ↓reduceIte, reduceCtorEq, beq_self_eq_true, cond_true, cond_false, J36, J38, eq_self, J3e, J3f]
    apply vend_of []
    · simp only [vres, lk_cons, Nat.reduceBEq, cond_true, cond_false, ti237, vload, List.getElem?_cons_succ, List.getElem?_cons_zero, mkV, List.drop_zero, List.length_cons, List.length_nil, Nat.reduceAdd, Nat.le_refl, if_true, List.take_succ_cons, List.take_zero]; rfl
    · first | rfl | (simp [fin, nodup, handO, lendR, lendV, lendLs, lendL, idx, vone, renL, lendVs, renO, renL.renLs]; exact ⟨rfl, rfl⟩)
    exact ⟨by unfold innerS; rw [if_neg h1, if_pos h2]; rfl, rfl⟩
  · refine callS [] (vc_named y s (by omega)) rfl rfl rfl ?_
    rintro _ _ ⟨rfl, rfl⟩
    refine ⟨_, _, rfl, ?_⟩
    simp -implicitDefEqProofs only [Jm, Jo, Jr, Ju, Jv, Jy, Jz, JC, JD, JG, JJ, JK, JL, JN, JO, JP, JQ, JS, JT, JV, JW, J1i, J1k, J1p ti39 rfl, J1p ti237 rfl, J1q ti35, J1q ti237, J1r ti3, J1s ti35, J1s ti237, J1t ti35, J1u ti35 rfl, J1v, J1w, J1x, J1y, J1z, J1A, J1B, J1C, J1D, J1F, J1G, J1H, J1L, J1R, J1S, J1T, J1U, J2t, J2u, J2v, J2w, J2y, J2A, J2B, J2C, J2E, J2F, J2G, J2H, J2I, J2J, J2K, J2L, J2M, J2N, J2O, J2R, J2S, J2Z, J32, J33, ↓reduceIte, reduceCtorEq, beq_self_eq_true, cond_true, cond_false, true_and, J36, J38, decide_eq_true_eq, decide_eq_false_iff_not, J3b, eq_self, J3e, J3f, gt_iff_lt, txts_length]
    refine ⟨fun g1 => ?_, fun g1 => ?_⟩
    · obtain ⟨l, ls', rfl⟩ : ∃ l ls', ls = l :: ls' := by
        cases ls with
        | nil => simp at g1
        | cons l r => exact ⟨l, r, rfl⟩
      have hg : (txts (l :: ls'))[0]? = some [.str l] := rfl
      simp -implicitDefEqProofs only [Jg, Jh, Jk, Jm, Jp, JK, JL, JP, JS, JU, JV, J12, J1e, J1g, noescs, Jg, J1i, J1q ti9, J1v, J1w, J1P, J2A, J2K, J2L, J2M, J2N, J2P, J2Q, J2V, J2X, J2Z, ↓reduceIte, beq_self_eq_true, cond_true, cond_false, J36, J38, J3b, eq_self, J3e, hg, Int.toNat_zero, Int.le_refl]
      refine callS [] (vc_named (y ++ [s]) l (by simp; omega)) rfl rfl rfl ?_
      rintro _ _ ⟨rfl, rfl⟩
      refine ⟨_, _, rfl, ?_⟩
      simp -implicitDefEqProofs only [Jm, Jv, Jy, JC, JD, JG, JJ, JK, JL, JP, JQ, JS, JV, J1i, J1p ti237 rfl, J1q ti237, J1s ti35, J1s ti237, J1v, J1w, J1x, J1y, J1z, J1A, J1B, J1C, J1D, J1F, J1G, J2t, J2u, J2v, J2w, J2y, J2A, J2B, J2C, J2E, J2F, J2G, J2H, J2I, J2J, J2K, J2L, J2M, J2N, J2O, J2R, J2S, J2Z, J32, J33, ↓reduceIte, reduceCtorEq, beq_self_eq_true, cond_true, cond_false, J36, J38, eq_self, J3e, J3f]
      apply vend_of []
      · simp only [vres, lk_cons, Nat.reduceBEq, cond_true, cond_false, ti237, vload, List.getElem?_cons_succ, List.getElem?_cons_zero, mkV, List.drop_zero, List.length_cons, List.length_nil, Nat.reduceAdd, Nat.le_refl, if_true, List.take_succ_cons, List.take_zero]; rfl
      · first | rfl | (simp [fin, nodup, handO, lendR, lendV, lendLs, lendL, idx, vone, renL, lendVs, renO, renL.renLs]; exact ⟨rfl, rfl⟩)
      exact ⟨by unfold innerS; rw [if_neg h1, if_neg h2, if_pos h3]; rfl, rfl⟩
    · have hls : ls = [] := List.eq_nil_of_length_eq_zero (by omega)
      subst hls
      apply vend_of []
      · simp only [vres, lk_cons, Nat.reduceBEq, cond_true, cond_false, ti237, vload, List.getElem?_cons_succ, List.getElem?_cons_zero, mkV, List.drop_zero, List.length_cons, List.length_nil, Nat.reduceAdd, Nat.le_refl, if_true, List.take_succ_cons, List.take_zero]; rfl
      · first | rfl | (simp [fin, nodup, handO, lendR, lendV, lendLs, lendL, idx, vone, renL, lendVs, renO, renL.renLs]; exact ⟨rfl, rfl⟩)
      exact ⟨by unfold innerS; rw [if_neg h1, if_neg h2, if_pos h3]; rfl, rfl⟩
  · refine ⟨fun g1 => ?_, fun g1 => ?_⟩
    · refine callS [] (vc_named y s (by omega)) rfl rfl rfl ?_
      rintro _ _ ⟨rfl, rfl⟩
      refine ⟨_, _, rfl, ?_⟩
      simp -implicitDefEqProofs only [Jm, Jv, Jy, JC, JD, JG, JJ, JK, JL, JP, JQ, JS, JV, J1i, J1p ti237 rfl, J1q ti237, J1s ti35, J1s ti237, J1v, J1w, J1x, J1y, J1z, J1A, J1B, J1C, J1D, J1F, J1G, J2t, J2u, J2v, J2w, J2y, J2A, J2B, J2C, J2E, J2F, J2G, J2H, J2I, J2J, J2K, J2L, J2M, J2N, J2O, J2R, J2S, J2Z, J32, J33, ↓reduceIte, reduceCtorEq, beq_self_eq_true, cond_true, cond_false, J36, J38, eq_self, J3e, J3f]
      apply vend_of []
      · simp only [vres, lk_cons, Nat.reduceBEq, cond_true, cond_false, ti237, vload, List.getElem?_cons_succ, List.getElem?_cons_zero, mkV, List.drop_zero, List.length_cons, List.length_nil, Nat.reduceAdd, Nat.le_refl, if_true, List.take_succ_cons, List.take_zero]; rfl
      · first | rfl | (simp [fin, nodup, handO, lendR, lendV, lendLs, lendL, idx, vone, renL, lendVs, renO, renL.renLs]; exact ⟨rfl, rfl⟩)
      exact ⟨by unfold innerS; rw [if_neg h1, if_neg h2, if_neg h3, if_pos h4, if_pos (by omega)]; rfl, rfl⟩
    · apply vend_of []
      · simp only [vres, lk_cons, Nat.reduceBEq, cond_true, cond_false, ti237, vload, List.getElem?_cons_succ, List.getElem?_cons_zero, mkV, List.drop_zero, List.length_cons, List.length_nil, Nat.reduceAdd, Nat.le_refl, if_true, List.take_succ_cons, List.take_zero]; rfl
      · first | rfl | (simp [fin, nodup, handO, lendR, lendV, lendLs, lendL, idx, vone, renL, lendVs, renO, renL.renLs]; exact ⟨rfl, rfl⟩)
      exact ⟨by unfold innerS; rw [if_neg h1, if_neg h2, if_neg h3, if_pos h4, if_neg (by omega)]; rfl, rfl⟩
  · refine ⟨fun g1 => ?_, fun g1 => ?_⟩
    · refine callS [] (vc_with x n (by omega)) rfl rfl rfl ?_
      rintro _ _ ⟨rfl, rfl⟩
      refine ⟨_, _, rfl, ?_⟩
      simp -implicitDefEqProofs only [Jg, Jh, Jk, Jm, Jp, Jv, JD, JJ, JK, JL, JP, JQ, JS, JU, JV, J12, J1e, J1g, noescs, Jg, J1i, J1p ti39 rfl, J1p ti237 rfl, J1q ti9, J1q ti35, J1s ti85, J1v, J1w, J1x, J1y, J1z, J1A, J1B, J1C, J1D, J1F, J1G, J1P, J2t, J2u, J2v, J2w, J2y, J2A, J2B, J2C, J2F, J2G, J2H, J2I, J2J, J2K, J2L, J2M, J2N, J2O, J2Q, J2R, J2S, J2V, J2X, J2Z, J32, J33, ↓reduceIte, reduceCtorEq, beq_self_eq_true, cond_true, cond_false, J36, J38, J3b, eq_self, J3e, J3g]
      refine callS [] (vc_named y s (by omega)) rfl rfl rfl ?_
      rintro _ _ ⟨rfl, rfl⟩
      refine ⟨_, _, rfl, ?_⟩
      simp -implicitDefEqProofs only [Jm, Jv, Jy, JC, JD, JG, JJ, JK, JL, JP, JQ, JS, JV, J1i, J1p ti237 rfl, J1q ti237, J1s ti35, J1s ti237, J1v, J1w, J1x, J1y, J1z, J1A, J1B, J1C, J1D, J1F, J1G, J2t, J2u, J2v, J2w, J2y, J2A, J2B, J2C, J2E, J2F, J2G, J2H, J2I, J2J, J2K, J2L, J2M, J2N, J2O, J2R, J2S, J2Z, J32, J33, ↓reduceIte, reduceCtorEq, beq_self_eq_true, cond_true, cond_false, J36, J38, eq_self, J3e, J3f]
      apply vend_of []
      · simp only [vres, lk_cons, Nat.reduceBEq, cond_true, cond_false, ti237, vload, List.getElem?_cons_succ, List.getElem?_cons_zero, mkV, List.drop_zero, List.length_cons, List.length_nil, Nat.reduceAdd, Nat.le_refl, if_true, List.take_succ_cons, List.take_zero]; rfl
      · first | rfl | (simp [fin, nodup, handO, lendR, lendV, lendLs, lendL, idx, vone, renL, lendVs, renO, renL.renLs]; exact ⟨rfl, rfl⟩)
      exact ⟨by unfold innerS; rw [if_neg h1, if_neg h2, if_neg h3, if_neg h4, if_pos h5, if_pos (by omega)]; rfl, rfl⟩
    · apply vend_of []
      · simp only [vres, lk_cons, Nat.reduceBEq, cond_true, cond_false, ti237, vload, List.getElem?_cons_succ, List.getElem?_cons_zero, mkV, List.drop_zero, List.length_cons, List.length_nil, Nat.reduceAdd, Nat.le_refl, if_true, List.take_succ_cons, List.take_zero]; rfl
      · first | rfl | (simp [fin, nodup, handO, lendR, lendV, lendLs, lendL, idx, vone, renL, lendVs, renO, renL.renLs]; exact ⟨rfl, rfl⟩)
      exact ⟨by unfold innerS; rw [if_neg h1, if_neg h2, if_neg h3, if_neg h4, if_pos h5, if_neg (by omega)]; rfl, rfl⟩
  · simp -implicitDefEqProofs only [txts_length]
    refine ⟨fun g1 => ⟨fun g2 => ?_, fun g2 => ?_⟩, fun g1 => ?_⟩
    · obtain ⟨j, rfl⟩ : ∃ j, i = j + 1 := ⟨i - 1, by omega⟩
      have hj : j < ls.length := by omega
      have hw : IntKind.i64.wrap (((j + 1 : Nat) : Int) - 1) = (j : Int) := by rw [wrap_pred (by omega)]; omega
      have hg := txts_get (List.getElem?_eq_getElem hj)
      simp -implicitDefEqProofs only [Jg, Jh, Jk, Jm, Jp, JK, JL, JP, JS, JU, JV, J12, J1e, J1g, noescs, Jg, J1i, J1q ti9, J1v, J1w, J1P, J2A, J2K, J2L, J2M, J2N, J2P, J2Q, J2V, J2X, J2Z, ↓reduceIte, beq_self_eq_true, cond_true, cond_false, J36, J38, J3b, eq_self, J3e, hw, hg, Int.natCast_nonneg, Int.toNat_natCast]
      refine callS [] (vc_named y ls[j] (by omega)) rfl rfl rfl ?_
      rintro _ _ ⟨rfl, rfl⟩
      refine ⟨_, _, rfl, ?_⟩
      simp -implicitDefEqProofs only [Jm, Jv, Jy, JC, JD, JG, JJ, JK, JL, JP, JQ, JS, JV, J1i, J1p ti237 rfl, J1q ti237, J1s ti35, J1s ti237, J1v, J1w, J1x, J1y, J1z, J1A, J1B, J1C, J1D, J1F, J1G, J2t, J2u, J2v, J2w, J2y, J2A, J2B, J2C, J2E, J2F, J2G, J2H, J2I, J2J, J2K, J2L, J2M, J2N, J2O, J2R, J2S, J2Z, J32, J33, ↓reduceIte, reduceCtorEq, beq_self_eq_true, cond_true, cond_false, J36, J38, eq_self, J3e, J3f]
      apply vend_of []
      · simp only [vres, lk_cons, Nat.reduceBEq, cond_true, cond_false, ti237, vload, List.getElem?_cons_succ, List.getElem?_cons_zero, mkV, List.drop_zero, List.length_cons, List.length_nil, Nat.reduceAdd, Nat.le_refl, if_true, List.take_succ_cons, List.take_zero]; rfl
      · first | rfl | (simp [fin, nodup, handO, lendR, lendV, lendLs, lendL, idx, vone, renL, lendVs, renO, renL.renLs]; exact ⟨rfl, rfl⟩)
      refine ⟨?_, rfl⟩
      unfold innerS
      rw [if_neg h1, if_neg h2, if_neg h3, if_neg h4, if_neg h5, if_pos h6, if_pos ⟨by omega, by omega⟩]
      simp only [Nat.add_sub_cancel, List.getElem?_eq_getElem hj]
      rfl
    · apply vend_of []
      · simp only [vres, lk_cons, Nat.reduceBEq, cond_true, cond_false, ti237, vload, List.getElem?_cons_succ, List.getElem?_cons_zero, mkV, List.drop_zero, List.length_cons, List.length_nil, Nat.reduceAdd, Nat.le_refl, if_true, List.take_succ_cons, List.take_zero]; rfl
      · first | rfl | (simp [fin, nodup, handO, lendR, lendV, lendLs, lendL, idx, vone, renL, lendVs, renO, renL.renLs]; exact ⟨rfl, rfl⟩)
      exact ⟨by unfold innerS; rw [if_neg h1, if_neg h2, if_neg h3, if_neg h4, if_neg h5, if_pos h6, if_neg (by omega)]; rfl, rfl⟩
    · apply vend_of []
      · simp only [vres, lk_cons, Nat.reduceBEq, cond_true, cond_false, ti237, vload, List.getElem?_cons_succ, List.getElem?_cons_zero, mkV, List.drop_zero, List.length_cons, List.length_nil, Nat.reduceAdd, Nat.le_refl, if_true, List.take_succ_cons, List.take_zero]; rfl
      · first | rfl | (simp [fin, nodup, handO, lendR, lendV, lendLs, lendL, idx, vone, renL, lendVs, renO, renL.renLs]; exact ⟨rfl, rfl⟩)
      exact ⟨by unfold innerS; rw [if_neg h1, if_neg h2, if_neg h3, if_neg h4, if_neg h5, if_pos h6, if_neg (by omega)]; rfl, rfl⟩
  · apply vend_of []
    · simp only [vres, lk_cons, Nat.reduceBEq, cond_true, cond_false, ti237, vload, List.getElem?_cons_succ, List.getElem?_cons_zero, mkV, List.drop_zero, List.length_cons, List.length_nil, Nat.reduceAdd, Nat.le_refl, if_true, List.take_succ_cons, List.take_zero]; rfl
    · first | rfl | (simp [fin, nodup, handO, lendR, lendV, lendLs, lendL, idx, vone, renL, lendVs, renO, renL.renLs]; exact ⟨rfl, rfl⟩)
    exact ⟨by unfold innerS; rw [if_neg h1, if_neg h2, if_neg h3, if_neg h4, if_neg h5, if_neg h6]; rfl, rfl⟩

theorem same_str {α : Type} (p : Prop) (s : α) : (p ∧ s ≠ s) ↔ False := by simp

set_option maxHeartbeats 4000000 in
theorem vc_sameTerm : ∀ (t : Tm) (x : List Int) (y : List ByteArray), x.length + y.length + 2 * tmn t < 999999990 → VC Tryz.prog 114 [tmV t, tmV t, scopeV x y, scopeV x y] [] fun r h' => r = .one (.d (.bool true)) ∧ h' = [] := by
  intro t
  induction t using Tm.ind with
  | h k n v s ls ts kids ih =>
  intro x y hp
  have hinner := fun i hi => vc_inner (.mk k n v s ls ts kids) i x y (by omega) hi
  simp only at hinner
  simp only [tmn] at hp
  have hlen := length_tmn kids
  have hlen2 := length_ttn ts
  refine VC_of_fn mixed fn114 (by simp) ?_
  show vwp Tryz.prog 0 vc114 _ [(0, .agg [.d (.int .i64 k), .d (.int .i64 n), .d (.int .i64 v), .d (.str s), .d (.sl (txts ls)), .d (.sl (encTt.encs ts)), .d (.sl (encTm.encs kids))]), (1, .agg [.d (.int .i64 k), .d (.int .i64 n), .d (.int .i64 v), .d (.str s), .d (.sl (txts ls)), .d (.sl (encTt.encs ts)), .d (.sl (encTm.encs kids))]), (2, .agg [.d (.sl (nums x)), .d (.sl (txts y))]), (3, .agg [.d (.sl (nums x)), .d (.sl (txts y))])] []
  unfold vc114
  rw [vwpI_eq]
  simp -implicitDefEqProofs only [Jg, Jh, Jk, Jm, Jo, Jp, Jq, Jr, Ju, Jv, Jy, Jz, JC, JD, JF, JJ, JK, JL, JM, JN, JO, JP, JS, JU, JV, JW, JX, J12, J13, J14, J15, J16, J1e, J1g, noescs, Jg, J1h, J1i, J1j, J1k, bt39, bt237, J1p ti39 rfl, J1p ti237 rfl, J1q ti2, J1q ti3, J1q ti9, J1q ti35, J1q ti36, J1q ti37, J1r ti2, J1r ti3, J1t ti35, J1t ti36, J1t ti37, J1v, J1w, J1y, J1z, J1G, J1L, J1P, J1R, J1S, J1T, J1U, J1Y, J2g, J2h, J2l, J2A, J2B, J2C, J2H, J2I, J2K, J2L, J2M, J2N, J2O, J2Q, J2V, J2X, J2Z, J32, J33, ↓reduceIte, reduceCtorEq, beq_self_eq_true, cond_true, cond_false, true_and, J36, J38, beq_iff_eq, bne_iff_ne, beq_eq_false_iff_ne, bne_eq_false_iff_eq, J3b, eq_self, forall_const, not_true_eq_false, ne_eq, false_implies, J3e, J3g, encsTt_length, encsTm_length, txts_length]
  refine ⟨fun h1 => ?ga, fun h1 => ?gb⟩
  case' ga =>
    refine callS [] (vc_nameLevel y s (by omega)) rfl rfl rfl ?_
    rintro _ _ ⟨rfl, rfl⟩
    refine ⟨_, _, rfl, ?_⟩
    simp -implicitDefEqProofs only [Jg, Jh, Jk, Jm, Jp, Jv, Jy, JD, JJ, JK, JL, JP, JS, JU, JV, J12, J13, J14, J1e, J1g, noescs, Jg, J1i, J1p ti39 rfl, J1p ti237 rfl, J1q ti9, J1q ti35, J1v, J1w, J1G, J1P, J2A, J2B, J2C, J2H, J2I, J2K, J2L, J2M, J2N, J2Q, J2V, J2X, J2Z, J32, J33, ↓reduceIte, reduceCtorEq, beq_self_eq_true, cond_true, cond_false, J36, J38, J3b, eq_self, J3e]
    refine callS [] (vc_nameLevel y s (by omega)) rfl rfl rfl ?_
    rintro _ _ ⟨rfl, rfl⟩
    refine ⟨_, _, rfl, ?_⟩
    simp -implicitDefEqProofs only [Jg, Jh, Jk, Jm, Jo, Jp, Jq, Jr, Ju, Jv, Jy, Jz, JC, JD, JF, JJ, JK, JL, JM, JN, JO, JP, JS, JU, JV, JW, JX, J12, J13, J14, J15, J1e, J1g, noescs, Jg, J1i, J1j, J1k, J1p ti39 rfl, J1q ti3, J1q ti9, J1r ti3, J1r ti9, J1v, J1w, J1G, J1P, J1R, J1S, J1T, J1U, J1Y, J2g, J2h, J2i, J2l, J2m, J2n, J2A, J2B, J2C, J2H, J2I, J2K, J2L, J2M, J2N, J2Q, J2V, J2X, J2Z, J32, J33, ↓reduceIte, reduceCtorEq, beq_self_eq_true, cond_true, cond_false, true_and, J36, J38, decide_true, decide_eq_true_eq, decide_eq_false_iff_not, bne_iff_ne, bne_eq_false_iff_eq, J3b, eq_self, forall_const, not_true_eq_false, ne_eq, false_implies, J3c, J3e, J3g]
    generalize lastAt (fun z => decide (z = s)) y y.length = lv
    refine ⟨fun h2 => ?_, fun h2 => ?_⟩
  case' gb =>
    refine callS [] (vc_bindsName k) rfl rfl rfl ?_
    rintro _ _ ⟨rfl, rfl⟩
    refine ⟨_, _, rfl, ?_⟩
    simp -implicitDefEqProofs only [Jm, JK, JL, JM, JP, JR, JV, J13, J18, J1i, J2h, J2A, J2Z, beq_self_eq_true, cond_true, cond_false, J36]
    generalize decide (k = 5 ∨ k = 7 ∨ k = 8 ∨ k = 23) = b0
    cases b0
    all_goals
      simp -implicitDefEqProofs only [Jg, Jh, Jk, Jm, Jo, Jp, Jq, Jr, Ju, Jv, Jy, Jz, JC, JD, JF, JJ, JK, JL, JM, JN, JO, JP, JS, JU, JV, JX, J12, J14, J15, J1e, J1g, noescs, Jg, J1i, J1j, J1p ti39 rfl, J1q ti3, J1q ti9, J1r ti9, J1v, J1w, J1G, J1P, J1R, J1S, J1T, J1U, J1Y, J2g, J2h, J2m, J2A, J2B, J2C, J2H, J2I, J2K, J2L, J2M, J2N, J2Q, J2V, J2X, J2Z, J32, J33, ↓reduceIte, reduceCtorEq, beq_self_eq_true, cond_true, cond_false, true_and, J36, J38, decide_true, J3b, eq_self, forall_const, false_implies, J3c, J3d, J3e, J3g]
  all_goals
    refine callS [] (vc_bindsNumber k) rfl rfl rfl ?_
    rintro _ _ ⟨rfl, rfl⟩
    refine ⟨_, _, rfl, ?_⟩
    simp -implicitDefEqProofs only [Jm, JK, JL, JM, JP, JR, JV, J13, J18, J1i, J2h, J2A, J2Z, beq_self_eq_true, cond_true, cond_false, J36]
    generalize decide (k = 20 ∨ k = 23) = b1
  all_goals
    cases b1
  all_goals
    simp -implicitDefEqProofs only [Jg, Jh, Jk, Jm, Jo, Jp, Jq, Jr, Jv, Jy, Jz, JC, JD, JF, JJ, JK, JL, JM, JN, JP, JS, JU, JV, JX, J12, J13, J14, J15, J1e, J1g, noescs, Jg, J1i, J1j, J1p ti39 rfl, J1q ti3, J1r ti3, J1v, J1w, J1G, J1P, J1R, J1S, J1T, J1U, J1Y, J2g, J2h, J2i, J2l, J2m, J2n, J2A, J2B, J2C, J2H, J2I, J2K, J2L, J2M, J2N, J2Q, J2V, J2X, J2Z, J32, J33, ↓reduceIte, reduceCtorEq, beq_self_eq_true, cond_true, cond_false, true_and, J36, J38, bne_iff_ne, bne_eq_false_iff_eq, J3b, eq_self, forall_const, not_true_eq_false, ne_eq, false_implies, J3c, J3d, J3e, J3g]
    refine callS [] (vc_bindsLabels k) rfl rfl rfl ?_
    rintro _ _ ⟨rfl, rfl⟩
    refine ⟨_, _, rfl, ?_⟩
    simp -implicitDefEqProofs only [Jm, Jp, JK, JM, JP, JR, JV, J13, J18, J1i, J2h, J2A, J2Z, beq_self_eq_true, cond_true, cond_false, J36]
    generalize decide (k = 7 ∨ k = 17) = b2
  all_goals
    cases b2
  all_goals
    simp -implicitDefEqProofs only [Jg, Jh, Jk, Jm, Jp, Jq, Ju, Jv, Jy, Jz, JA, JD, JJ, JK, JL, JM, JO, JP, JS, JU, JV, JW, JX, J12, J14, J15, J1e, J1g, noescs, Jg, J1i, J1p ti39 rfl, J1q ti35, J1v, J1w, J1G, J1P, J1Y, J2g, J2h, J2m, J2A, J2B, J2C, J2H, J2I, J2K, J2L, J2M, J2N, J2Q, J2V, J2X, J2Z, J32, J33, ↓reduceIte, reduceCtorEq, beq_self_eq_true, cond_true, cond_false, J36, J38, J3b, eq_self, J3c, J3d, J3e]
  all_goals
    try
      refine callS [] (vc_texts ls (by omega)) rfl rfl rfl ?_
      rintro _ _ ⟨rfl, rfl⟩
      refine ⟨_, _, rfl, ?_⟩
      simp -implicitDefEqProofs only [Jm, Jp, Ju, Jv, Jy, Jz, JA, JD, JJ, JK, JL, JM, JO, JP, JR, JV, JW, JX, J14, J15, J18, J1i, J1Y, J2h, J2A, J2Z, beq_self_eq_true, cond_true, cond_false, J36, J38, J3c]
  all_goals
    refine loopI (α := Nat) (fun i => [(10, .one (.d (.int .i64 i))), (7, .one (.ptr 3 0)), (6, .one (.ptr 2 0)), (5, .one (.ptr 1 0)), (4, .one (.ptr 0 0))])
      (fun _ => [.box [.d (.int .i64 k), .d (.int .i64 n), .d (.int .i64 v), .d (.str s), .d (.sl (txts ls)), .d (.sl (encTt.encs ts)), .d (.sl (encTm.encs kids))], .box [.d (.int .i64 k), .d (.int .i64 n), .d (.int .i64 v), .d (.str s), .d (.sl (txts ls)), .d (.sl (encTt.encs ts)), .d (.sl (encTm.encs kids))], .box [.d (.sl (nums x)), .d (.sl (txts y))], .box [.d (.sl (nums x)), .d (.sl (txts y))]])
      (fun i => i ≤ ts.length) (fun i => ts.length - i) 0
      (keepI [0, 1, 2, 3] _ (WkH.refl _) rfl rfl rfl ⟨⟨_, WkV.refl _, rfl⟩, ⟨_, WkV.refl _, rfl⟩, ⟨_, WkV.refl _, rfl⟩, ⟨_, WkV.refl _, rfl⟩, ⟨_, WkV.refl _, rfl⟩, trivial⟩) (Nat.zero_le _) ?_
    intro i hi
    have hw : IntKind.i64.wrap ((i : Int) + 1) = ((i + 1 : Nat) : Int) := wrap_nat (by omega)
    simp -implicitDefEqProofs only [Jm, Jo, Jp, Jr, Ju, Jv, Jy, Jz, JA, JB, JD, JE, JI, JJ, JK, JL, JN, JO, JP, JS, JT, JV, JW, J13, J14, J1i, J1j, J1p ti39 rfl, J1q ti36, J1r ti3, J1t ti36, J1u ti36 rfl, J1v, J1w, J1G, J1H, J1L, J1R, J1S, J1T, J1U, J2A, J2B, J2C, J2H, J2I, J2K, J2L, J2Z, J30, J32, J33, ↓reduceIte, reduceCtorEq, beq_self_eq_true, cond_true, cond_false, true_and, false_and, J36, J38, decide_eq_true_eq, decide_eq_false_iff_not, J3b, eq_self, J3e, encsTt_length]
    refine ⟨fun h5 => ?_, fun h5 => ?_⟩
    · have hi' : i < ts.length := by omega
      obtain ⟨u, hu⟩ : ∃ u, ts[i]? = some u := ⟨ts[i], List.getElem?_eq_getElem hi'⟩
      have hmem := List.mem_of_getElem? hu
      have hnu := ttn_mem hmem
      have iu := vc_same u x (by omega)
      have hg : (encTt.encs ts)[i]? = some (encTt u) := by rw [encsTt, List.getElem?_map, hu]; rfl
      obtain ⟨uk, un, ul, uc⟩ := u
      simp only [ttV, encTt, List.map_cons, List.map_nil] at iu hg
      simp -implicitDefEqProofs only [Jg, Jh, Jk, Jm, Jp, JK, JL, JP, JS, JT, JU, JV, J12, J13, J1e, J1g, noescs, Jg, J1i, J1p ti39 rfl, J1p ti237 rfl, J1q ti36, J1q ti85, J1q ti307, J1u ti36 rfl, J1v, J1w, J1G, J1H, J1P, J2A, J2B, J2C, J2E, J2G, J2H, J2I, J2K, J2L, J2M, J2N, J2P, J2Q, J2V, J2X, J2Z, J30, J32, J33, ↓reduceIte, reduceCtorEq, beq_self_eq_true, cond_true, cond_false, true_and, false_and, J36, J38, J3b, eq_self, J3e, J3f, J3g, hg, Int.natCast_nonneg, Int.toNat_natCast]
      refine callS [] (iu) rfl rfl rfl ?_
      rintro _ _ ⟨rfl, rfl⟩
      refine ⟨_, _, rfl, ?_⟩
      simp -implicitDefEqProofs only [Jm, Js, Ju, Jv, Jz, JD, JG, JJ, JK, JL, JO, JP, JR, JV, JW, J13, J14, J18, J1i, J1k, J1r ti3, J1R, J1S, J1T, J1U, J2A, J2Z, ↓reduceIte, beq_self_eq_true, cond_true, cond_false, J36, J38, eq_self, J3c, hw]
      refine ⟨i + 1, by omega, by omega, ?_⟩
      exact (keepI [0, 1, 2, 3] _ (WkH.refl _) rfl rfl rfl ⟨⟨_, WkV.refl _, rfl⟩, ⟨_, WkV.refl _, rfl⟩, ⟨_, WkV.refl _, rfl⟩, ⟨_, WkV.refl _, rfl⟩, ⟨_, WkV.refl _, rfl⟩, trivial⟩)
    · refine loopI (α := Nat) (fun i => [(11, .one (.d (.int .i64 i))), (7, .one (.ptr 3 0)), (6, .one (.ptr 2 0)), (5, .one (.ptr 1 0)), (4, .one (.ptr 0 0))])
        (fun _ => [.box [.d (.int .i64 k), .d (.int .i64 n), .d (.int .i64 v), .d (.str s), .d (.sl (txts ls)), .d (.sl (encTt.encs ts)), .d (.sl (encTm.encs kids))], .box [.d (.int .i64 k), .d (.int .i64 n), .d (.int .i64 v), .d (.str s), .d (.sl (txts ls)), .d (.sl (encTt.encs ts)), .d (.sl (encTm.encs kids))], .box [.d (.sl (nums x)), .d (.sl (txts y))], .box [.d (.sl (nums x)), .d (.sl (txts y))]])
        (fun i => i ≤ kids.length) (fun i => kids.length - i) 0
        (keepI [0, 1, 2, 3] _ (WkH.refl _) rfl rfl rfl ⟨⟨_, WkV.refl _, rfl⟩, ⟨_, WkV.refl _, rfl⟩, ⟨_, WkV.refl _, rfl⟩, ⟨_, WkV.refl _, rfl⟩, ⟨_, WkV.refl _, rfl⟩, trivial⟩) (Nat.zero_le _) ?_
      intro i hi
      have hw : IntKind.i64.wrap ((i : Int) + 1) = ((i + 1 : Nat) : Int) := wrap_nat (by omega)
      simp -implicitDefEqProofs only [J7, Jc, Jd, Je, Jf, Jg, Jh, Ji, Jk, Jm, Jo, Jp, Jr, Ju, Jv, Jw, Jy, Jz, JA, JB, JC, JD, JE, JI, JJ, JK, JL, JN, JO, JP, JS, JT, JV, JX, J13, J14, Jg, J1i, J1j, J1p ti39 rfl, J1q ti37, J1r ti3, J1t ti37, J1u ti37 rfl, J1v, J1w, J1G, J1H, J1L, J1R, J1S, J1T, J1U, J2A, J2B, J2C, J2H, J2I, J2K, J2L, J2Z, J30, J32, J33, ↓reduceIte, reduceCtorEq, beq_self_eq_true, cond_true, cond_false, true_and, false_and, J36, J38, decide_eq_true_eq, decide_eq_false_iff_not, J3b, eq_self, J3e, encsTm_length]
      refine ⟨fun h5 => ?_, fun h5 => ?_⟩
      · have hi' : i < kids.length := by omega
        obtain ⟨u, hu⟩ : ∃ u, kids[i]? = some u := ⟨kids[i], List.getElem?_eq_getElem hi'⟩
        have hmem := List.mem_of_getElem? hu
        have hnu := tmn_mem hmem
        have hin := hinner i (by omega)
        have hle := innerS_len k n s ls i x y
        obtain ⟨x', y', hxy⟩ : ∃ x' y', innerS k n s ls i x y = (x', y') := ⟨_, _, rfl⟩
        rw [hxy] at hin hle
        simp only at hin hle
        have iu := ih u hmem x' y' (by omega)
        have hg : (encTm.encs kids)[i]? = some (encTm u) := by rw [encsTm, List.getElem?_map, hu]; rfl
        obtain ⟨uk, un, ui, us, ul, ut, uc⟩ := u
        simp only [tmV, scopeV, encTm, List.map_cons, List.map_nil] at iu hg hin
        simp -implicitDefEqProofs only [J7, Jc, Jd, Je, Jf, Jg, Jh, Ji, Jk, Jm, Jp, Jq, JL, JP, JS, JT, JU, JV, J12, J13, J1e, J1g, noescs, Jg, J1i, J1p ti39 rfl, J1q ti37, J1q ti39, J1q ti237, J1u ti37 rfl, J1v, J1w, J1G, J1H, J1P, J2A, J2B, J2C, J2E, J2G, J2H, J2I, J2K, J2L, J2M, J2N, J2P, J2Q, J2V, J2X, J2Z, J30, J32, J33, ↓reduceIte, reduceCtorEq, beq_self_eq_true, cond_true, cond_false, true_and, false_and, J36, J38, J3b, eq_self, J3e, J3f, hg, Int.natCast_nonneg, Int.toNat_natCast]
        refine callS [] (hin) rfl rfl rfl ?_
        rintro _ _ ⟨rfl, rfl⟩
        refine ⟨_, _, rfl, ?_⟩
        simp -implicitDefEqProofs only [J7, J8, J9, Ja, Jb, Jd, Jg, Jh, Ji, Jk, Jm, Jp, Jq, JL, JP, JS, JT, JU, JV, J12, J1e, J1g, noescs, Jg, J1i, J1p ti39 rfl, J1q ti37, J1q ti39, J1q ti237, J1u ti37 rfl, J1v, J1w, J1G, J1H, J1P, J2t, J2u, J2v, J2w, J2x, J2y, J2A, J2B, J2C, J2E, J2G, J2H, J2I, J2J, J2K, J2L, J2M, J2N, J2P, J2Q, J2V, J2X, J2Z, J30, J32, J33, ↓reduceIte, reduceCtorEq, beq_self_eq_true, cond_true, cond_false, true_and, false_and, and_self, J36, J38, J3b, eq_self, J3e, J3f, hg, Int.natCast_nonneg, Int.toNat_natCast]
        refine callS [] (hin) rfl rfl rfl ?_
        rintro _ _ ⟨rfl, rfl⟩
        refine ⟨_, _, rfl, ?_⟩
        simp -implicitDefEqProofs only [J7, J8, J9, Ja, Jb, Jd, Jg, Jh, Ji, Jk, Jm, Jp, Jq, JL, JP, JS, JT, JU, JV, J12, J1e, J1g, noescs, Jg, J1i, J1p ti39 rfl, J1q ti37, J1q ti39, J1u ti37 rfl, J1v, J1w, J1G, J1H, J1P, J2t, J2u, J2v, J2w, J2x, J2y, J2A, J2B, J2C, J2E, J2G, J2H, J2I, J2J, J2K, J2L, J2M, J2N, J2P, J2Q, J2V, J2X, J2Z, J30, J32, J33, ↓reduceIte, reduceCtorEq, beq_self_eq_true, cond_true, cond_false, true_and, false_and, and_self, J36, J38, J3b, eq_self, J3e, J3f, hg, Int.natCast_nonneg, Int.toNat_natCast]
        refine callS [] (iu) rfl rfl rfl ?_
        rintro _ _ ⟨rfl, rfl⟩
        refine ⟨_, _, rfl, ?_⟩
        simp -implicitDefEqProofs only [J6, J7, J8, J9, Ja, Jb, Jc, Jd, Je, Jf, Jg, Jh, Jk, Jm, Jp, Jq, Js, Ju, Jv, Jz, JD, JG, JJ, JK, JL, JO, JP, JR, JV, JW, J13, J14, J18, Jg, J1i, J1k, J1r ti3, J1R, J1S, J1T, J1U, J2A, J2Z, ↓reduceIte, beq_self_eq_true, cond_true, cond_false, true_and, and_self, J36, J38, eq_self, J3c, hw]
        refine ⟨i + 1, by omega, by omega, ?_⟩
        exact (keepI [0, 1, 2, 3] _ (WkH.refl _) rfl rfl rfl ⟨⟨_, WkV.refl _, rfl⟩, ⟨_, WkV.refl _, rfl⟩, ⟨_, WkV.refl _, rfl⟩, ⟨_, WkV.refl _, rfl⟩, ⟨_, WkV.refl _, rfl⟩, trivial⟩)
      · apply vend_of []; rfl; rfl
        exact ⟨rfl, rfl⟩

theorem vc_SameTerm (t : Tm) (hp : tmn t < 100000000) : VC Tryz.prog 45 [tmV t, tmV t] [] fun r h' => r = .one (.d (.bool true)) ∧ h' = [] := by
  have ih := vc_sameTerm t [] [] (by simp; omega)
  obtain ⟨k, n, v, s, ls, ts, kids⟩ := t
  refine VC_of_fn mixed fn45 (by simp) ?_
  show vwp Tryz.prog 0 vc45 _ [(0, .agg [.d (.int .i64 k), .d (.int .i64 n), .d (.int .i64 v), .d (.str s), .d (.sl (txts ls)), .d (.sl (encTt.encs ts)), .d (.sl (encTm.encs kids))]), (1, .agg [.d (.int .i64 k), .d (.int .i64 n), .d (.int .i64 v), .d (.str s), .d (.sl (txts ls)), .d (.sl (encTt.encs ts)), .d (.sl (encTm.encs kids))])] []
  unfold vc45
  rw [vwpI_eq]
  simp -implicitDefEqProofs only [Jg, Jh, Jk, Jm, Jp, Jv, Jy, JD, JJ, JK, JL, JP, JS, JU, JV, JX, J12, J14, J16, J1e, J1g, noescs, Jg, J1h, J1i, bt39, J1q ti39, J3h ti237, J1v, J1w, J1y, J1z, J1I, J1J, J1P, J1Q, J2A, J2B, J2C, J2E, J2G, J2I, J2K, J2L, J2M, J2N, J2O, J2Q, J2V, J2X, J2Z, J33, ↓reduceIte, beq_self_eq_true, cond_true, cond_false, J36, J38, eq_self, J3e, J3f]
  refine callB [] [tmV (.mk k n v s ls ts kids), tmV (.mk k n v s ls ts kids), scopeV [] [], scopeV [] []] _ [] rfl ?_ (WkH.refl _) ih rfl rfl rfl ?_
  · exact ⟨WkV.refl _, WkV.refl _, ⟨.inr (.inl ⟨rfl, rfl⟩), .inr (.inl ⟨rfl, rfl⟩), trivial⟩, ⟨.inr (.inl ⟨rfl, rfl⟩), .inr (.inl ⟨rfl, rfl⟩), trivial⟩, trivial⟩
  rintro _ _ ⟨rfl, rfl⟩
  refine ⟨_, _, rfl, ?_⟩
  simp -implicitDefEqProofs only [Jm, JC, JD, JJ, JK, JL, JP, JV, J14, J1i, J2A, J2L, J2Z, beq_self_eq_true, cond_true, cond_false, J36]
  apply vend_of []; rfl; rfl
  exact ⟨rfl, rfl⟩

theorem vc_one (t : Tm) (hp : tmn t < 100000000) : VC Tryz.prog 12 [tmV t, tmV t] [] fun r h' => r = .one (.d (.bool true)) ∧ h' = [] := by
  have ih := vc_SameTerm t hp
  obtain ⟨k, n, v, s, ls, ts, kids⟩ := t
  refine VC_of_fn mixed fn12 (by simp) ?_
  show vwp Tryz.prog 0 vc12 _ [(0, .agg [.d (.int .i64 k), .d (.int .i64 n), .d (.int .i64 v), .d (.str s), .d (.sl (txts ls)), .d (.sl (encTt.encs ts)), .d (.sl (encTm.encs kids))]), (1, .agg [.d (.int .i64 k), .d (.int .i64 n), .d (.int .i64 v), .d (.str s), .d (.sl (txts ls)), .d (.sl (encTt.encs ts)), .d (.sl (encTm.encs kids))])] []
  unfold vc12
  rw [vwpI_eq]
  simp -implicitDefEqProofs only [Jg, Jh, Jk, Jm, Jp, Jv, Jy, JD, JJ, JK, JL, JP, JS, JU, JV, JX, J12, J14, J16, J1e, J1g, noescs, Jg, J1h, J1i, bt39, J1q ti39, J1v, J1w, J1y, J1z, J1P, J2A, J2B, J2C, J2E, J2G, J2I, J2K, J2L, J2M, J2N, J2O, J2Q, J2V, J2X, J2Z, J33, ↓reduceIte, beq_self_eq_true, cond_true, cond_false, J36, J38, eq_self, J3e, J3f]
  refine callS [] (ih) rfl rfl rfl ?_
  rintro _ _ ⟨rfl, rfl⟩
  refine ⟨_, _, rfl, ?_⟩
  simp -implicitDefEqProofs only [Jm, JC, JD, JJ, JK, JL, JP, JV, J14, J1i, J2A, J2L, J2Z, beq_self_eq_true, cond_true, cond_false, J36]
  apply vend_of []; rfl; rfl
  exact ⟨rfl, rfl⟩

end Go.Vt.Tryz
