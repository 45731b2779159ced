/- Sorted: what it leaves is a structure of the same size. -/
import Derived.Test.YtdabfkmhkoppcaaGreatDoorVtS3
import Derived.Test.YtdabfkmhkoppcaaGreatDoorVtS4
set_option maxRecDepth 100000
set_option linter.unusedSimpArgs false
namespace Go.Vt.Tryz
open Go.Vt renaming opsW_nil → J6, opsW_cons → J7, again_nil → J8, again_cons → J9, obOf_nil → Ja, obOf_cons → Jb, wadd → Jc, ro → Jd, ob_some → Jm, vbool_eq → Jo, vif_tt → Jp, vif_ff → Jq, vD_bool → Jr, wp_skip → Ju, wp_ops → Jv, wp_opsW → Jw, wp_seq → Jy, wp_cond → Jz, wp_ret → JC, th_normal → JD, th_ret → JF, ops_nil → JJ, ops_cons → JK, go_none → JL, cond_tt → JN, cond_ff → JO, put_some → JP, put_none → JQ, asL → JS, asFn → JU, opd_tmp → JV, opd_int → JW, opd_bool → JX, opd_str → JY, opd_func → J12, so_move → J13, so_assign → J14, so_box → J16, so_call → J1e, esc_tmp → J1f, esc_func → J1g, bobj_none → J1h, lk_cons → J1i, nilC_tmp → J1j, so_bin → J1o, vload → J1p, mkV → J1q, vstore → J1r, vcells → J1s, known → J1t, toDs → J1u, toD → J1v, fzLs → J1w, fzL → J1x, splice → J1z, vfieldAddr → J1A, vbuild → J1C, vfill → J1D, opds → J1J, opdPairs → J1K, vbin2 → J1L, vbin → J1M, vint → J1N, vstr → J1O, putBack → J2n, fzIds → J2o, lentVs → J2p, lentV → J2q, lentLs → J2r, lentL → J2s, so_fieldAddr → J3b, so_load → J3c, so_alloc → J3d, so_store → J3e, so_build → J3f
open List renaming any_cons → Je, any_nil → Jf, contains_cons → Jg, contains_nil → Jh, lookup_nil → J2u, getElem?_cons_zero → J2v, getElem?_cons_succ → J2w, take_succ_cons → J2y, take_zero → J2z, take_nil → J2A, drop_succ_cons → J2B, drop_zero → J2C, drop_nil → J2D, length_cons → J2E, length_nil → J2F, append_nil → J2G, nil_append → J2H, cons_append → J2I, map_nil → J2K, set_cons_zero → J2L, set_cons_succ → J2M, all_nil → J2P
open Bool renaming or_true → Ji, or_false → Jk, and_true → J2R, false_eq_true → J35, not_true → J36
open Nat renaming reduceBEq → J2T, reduceLeDiff → J2W, reduceAdd → J2X, zero_add → J38, le_refl → J39, add_zero → J3a
open Option renaming map_some → J30, bind_some → J32
open Go.Proofs

theorem vc_isNaN (s : ByteArray) : VC Tryz.prog 240 [.one (.d (.str s))] [] fun r h' => r = .one (.d (.bool false)) ∧ h' = [] := by
  refine VC_of_fn mixed fn240 (by simp) ?_
  show vwp Tryz.prog 0 vc240 _ [(0, .one (.d (.str s)))] []
  unfold vc240
  rw [vwpI_eq]
  simp -implicitDefEqProofs only [Jm, Jo, Jr, Jv, Jy, JC, JD, JJ, JK, JL, JP, JV, JX, J13, J14, J1i, J1j, J1o ti9, J1L, J1M, J1N, J1O, J2u, J2F, J2T, beq_self_eq_true, cond_true, cond_false, true_and, J30, J32, decide_true, J35, eq_self, forall_const, false_implies, J36, decide_true, Bool.not_true]
  apply vend_of []; rfl; rfl
  exact ⟨rfl, rfl⟩

theorem vc_cmpS (s t : ByteArray) : VC Tryz.prog 186 [.one (.d (.str s)), .one (.d (.str t))] [] fun r h' => (∃ c : Int, r = .one (.d (.int .i64 c))) ∧ h' = [] := by
  have n1 := vc_isNaN s
  have n2 := vc_isNaN t
  refine VC_of_fn mixed fn186 (by simp) ?_
  show vwp Tryz.prog 0 vc186 _ [(0, .one (.d (.str s))), (1, .one (.d (.str t)))] []
  unfold vc186
  rw [vwpI_eq]
  simp -implicitDefEqProofs only [Jg, Jh, Jk, Jm, Jp, Jv, Jy, JD, JJ, JK, JL, JP, JU, JV, JW, J12, J13, J14, J1e, J1g, noescs, Jg, J1i, J1J, J2u, J2G, J2H, J2K, J2P, J2R, J2T, beq_self_eq_true, cond_true, cond_false, J30, eq_self]
  refine callS [] (n1) rfl rfl rfl ?_
  rintro _ _ ⟨rfl, rfl⟩
  refine ⟨_, _, rfl, ?_⟩
  simp -implicitDefEqProofs only [Jg, Jh, Jk, Jm, Jp, Jv, Jy, JD, JJ, JK, JL, JP, JU, JV, J12, J13, J14, J1e, J1g, noescs, Jg, J1i, J1J, J2u, J2G, J2H, J2K, J2P, J2R, J2T, beq_self_eq_true, cond_true, cond_false, J30, eq_self]
  refine callS [] (n2) rfl rfl rfl ?_
  rintro _ _ ⟨rfl, rfl⟩
  refine ⟨_, _, rfl, ?_⟩
  simp -implicitDefEqProofs only [Jm, Jo, Jr, Ju, Jv, Jy, Jz, JC, JD, JF, JJ, JK, JL, JN, JO, JP, JV, JW, J13, J14, J1i, J1j, J1o ti9, J1L, J1M, J1N, J1O, J2u, J2F, J2T, beq_self_eq_true, cond_true, cond_false, J30, J32, eq_self, gt_iff_lt]
  refine ⟨fun _ => ?_, fun _ => ?_⟩
  · apply vend_of []; rfl; rfl
    exact ⟨⟨_, rfl⟩, rfl⟩
  refine ⟨fun _ => ?_, fun _ => ?_⟩
  · apply vend_of []; rfl; rfl
    exact ⟨⟨_, rfl⟩, rfl⟩
  · apply vend_of []; rfl; rfl
    exact ⟨⟨_, rfl⟩, rfl⟩

theorem vc_NCmp (s t : ByteArray) : VC Tryz.prog 129 [.one (.d (.str s)), .one (.d (.str t))] [] fun r h' => (∃ c : Int, r = .one (.d (.int .i64 c))) ∧ h' = [] := by
  have n1 := vc_cmpS s t
  refine VC_of_fn mixed fn129 (by simp) ?_
  show vwp Tryz.prog 0 vc129 _ [(0, .one (.d (.str s))), (1, .one (.d (.str t)))] []
  unfold vc129
  rw [vwpI_eq]
  simp -implicitDefEqProofs only [Jg, Jh, Jk, Jm, Jp, Jv, Jy, JD, JJ, JK, JL, JP, JU, JV, JW, J12, J13, J14, J1e, J1g, noescs, Jg, J1i, J1J, J2u, J2G, J2H, J2K, J2P, J2R, J2T, beq_self_eq_true, cond_true, cond_false, J30, eq_self]
  refine callS [] (n1) rfl rfl rfl ?_
  rintro _ _ ⟨⟨c, rfl⟩, rfl⟩
  refine ⟨_, _, rfl, ?_⟩
  simp -implicitDefEqProofs only [Jm, JC, JD, JJ, JK, JL, JP, JV, J14, J1i, J2u, J2F, J2T, beq_self_eq_true, cond_true, cond_false, J30]
  apply vend_of []; rfl; rfl
  exact ⟨⟨_, rfl⟩, rfl⟩

/-- What Sorted leaves. -/
def SrtP (n : Nat) (r : V) : Prop := ∃ a b c d e, stn (.mk a b c d e) = n ∧ r = .agg [.d (.sl (a.map encTym)), .d (.sl (b.map encVam)), .d (.sl (encSt.subs c)), .d (.sl (encSt.funs d)), .d (.sl (encSt.sigs e))]
def Srt (s : Stx) : Prop := VC Tryz.prog 29 [stW s] [] fun r h' => SrtP (stn s) r ∧ h' = []

theorem sE59 : SortE 59 133 5 := ⟨⟨_, _, _, _, ti59, by decide, rfl, by decide⟩, ⟨_, _, _, ti133⟩⟩
theorem encTym_len (a : Tym) : (encTym a).length = 5 := by
  obtain ⟨xn, ⟨xk, xi, xl⟩, xc⟩ := a
  rfl
theorem vc_nm84 (a : Tym) : VC Tryz.prog 84 [.agg ((encTym a).map .d)] [] fun r h' => (∃ s, r = .one (.d (.str s))) ∧ h' = [] := by
  obtain ⟨xn, ⟨xk, xi, xl⟩, xc⟩ := a
  simp only [encTym, encTy, List.cons_append, List.nil_append, List.map_cons, List.map_nil]
  refine VC_of_fn mixed fn84 (by simp) ?_
  show vwp Tryz.prog 0 vc84 _ [(0, .agg [.d (.str xn), .d (.int .i64 xk), .d (.int .i64 xi), .d (.sl (encTy.encs xl)), .d (.sl (xc.map encCt))])] []
  unfold vc84
  rw [vwpI_eq]
  simp -implicitDefEqProofs only [Jm, Jv, Jy, JC, JD, JJ, JK, JL, JP, JS, JV, JY, J14, J16, J1h, J1i, bt133, J3b ti133 rfl, J3c ti9, J1p, J1q, J1s, J1t, J1A, J2u, J2v, J2C, J2E, J2F, J2H, J2T, J2W, J2X, ↓reduceIte, reduceCtorEq, beq_self_eq_true, cond_true, cond_false, J30, J32, J35, eq_self, J38, J3a]
  apply vend_of []; rfl; rfl
  exact ⟨⟨_, rfl⟩, rfl⟩

theorem vc_cl128 : CmpOk 128 84 fun x => ∃ a, x = encTym a := by
  rintro _ _ ⟨a, rfl⟩ ⟨b, rfl⟩
  have na := vc_nm84 a
  have nb := vc_nm84 b
  obtain ⟨xn, ⟨xk, xi, xl⟩, xc⟩ := a
  obtain ⟨yn, ⟨yk, yi, yl⟩, yc⟩ := b
  simp only [encTym, encTy, List.cons_append, List.nil_append, List.map_cons, List.map_nil] at na nb ⊢
  refine VC_of_fn mixed fn128 (by simp) ?_
  show vwp Tryz.prog 1 vc128 _ [(0, .agg [.d (.str xn), .d (.int .i64 xk), .d (.int .i64 xi), .d (.sl (encTy.encs xl)), .d (.sl (xc.map encCt))]), (1, .agg [.d (.str yn), .d (.int .i64 yk), .d (.int .i64 yi), .d (.sl (encTy.encs yl)), .d (.sl (yc.map encCt))]), (2, .one (.ptr 0 0))] [.box [.fn 84 []]]
  unfold vc128
  rw [vwpI_eq]
  simp -implicitDefEqProofs only [J7, Jc, Jd, Je, Jf, Jg, Jh, Ji, Jk, Jm, Jp, Jq, Jv, Jw, Jy, JD, JJ, JK, JL, JP, JS, JU, JV, JW, J14, J16, J1e, J1f, Jg, J1h, J1i, bt133, J3c ti133, J3c ti187, J1p, J1q, J1s, J1t, J1J, J2u, J2v, J2w, J2y, J2A, J2C, J2E, J2F, J2G, J2H, J2I, J2K, J2P, J2R, J2T, J2X, ↓reduceIte, beq_self_eq_true, cond_true, cond_false, J30, J32, J35, eq_self, J38, J39]
  refine callS [] (na) rfl rfl rfl ?_
  rintro _ _ ⟨⟨s, rfl⟩, rfl⟩
  refine ⟨_, _, rfl, ?_⟩
  simp -implicitDefEqProofs only [J7, J8, J9, Ja, Jb, Jd, Jg, Jh, Ji, Jk, Jm, Jp, Jq, JL, JP, JS, JU, JV, J1e, J1f, Jg, J1i, J3c ti133, J3c ti187, J1p, J1q, J1J, J2u, J2v, J2w, J2y, J2A, J2C, J2E, J2F, J2G, J2H, J2K, J2P, J2R, J2T, J2X, ↓reduceIte, beq_self_eq_true, cond_true, cond_false, true_and, and_self, J30, J32, J35, eq_self, J38, J39]
  refine callS [] (nb) rfl rfl rfl ?_
  rintro _ _ ⟨⟨t, rfl⟩, rfl⟩
  refine ⟨_, _, rfl, ?_⟩
  simp -implicitDefEqProofs only [J7, J8, J9, Ja, Jb, Jd, Jg, Jh, Jk, Jm, Jp, Jq, JL, JP, JU, JV, J12, J1e, J1g, noescs, Jg, J1i, J1J, J2u, J2G, J2H, J2K, J2P, J2R, J2T, beq_self_eq_true, cond_true, cond_false, true_and, and_self, eq_self]
  refine callS [] (vc_NCmp s t) rfl rfl rfl ?_
  rintro _ _ ⟨⟨c, rfl⟩, rfl⟩
  refine ⟨_, _, rfl, ?_⟩
  simp -implicitDefEqProofs only [J6, J7, J8, J9, Ja, Jb, Jc, Jd, Je, Jf, Jg, Jh, Jk, Jm, Jp, Jq, JC, JD, JL, JP, JV, J14, Jg, J1i, J2u, J2E, J2F, J2T, beq_self_eq_true, cond_true, cond_false, true_and, and_self, J30, J38]
  apply vend_of [0]; rfl; rfl
  exact ⟨⟨_, rfl⟩, rfl⟩

theorem vc_mk85 (a : Tym) : VC Tryz.prog 85 [.agg ((encTym a).map .d)] [] fun r h' => (∃ y, (∃ a', tymn a' = tymn a ∧ y = encTym a') ∧ r = .agg (y.map .d)) ∧ h' = [] := by
  obtain ⟨xn, ⟨xk, xi, xl⟩, xc⟩ := a
  refine VC_wk (Post := fun r h' => r = .agg [.d (.str xn), .d (.int .i64 xk), .d (.int .i64 xi), .d (.sl (encTy.encs xl)), .d (.sl (xc.map encCt))] ∧ h' = []) ?_ ?_
  case refine_2 =>
    rintro _ _ ⟨rfl, rfl⟩
    exact ⟨_, WkV.refl _, ⟨_, ⟨_, rfl, rfl⟩, rfl⟩, rfl⟩
  simp only [encTym, encTy, List.cons_append, List.nil_append, List.map_cons, List.map_nil]
  refine VC_of_fn mixed fn85 (by simp) ?_
  show vwp Tryz.prog 0 vc85 _ [(0, .agg [.d (.str xn), .d (.int .i64 xk), .d (.int .i64 xi), .d (.sl (encTy.encs xl)), .d (.sl (xc.map encCt))])] []
  unfold vc85
  rw [vwpI_eq]
  simp -implicitDefEqProofs only [Jm, Jv, Jy, JC, JD, JJ, JK, JL, JP, JQ, JS, JV, J16, J1h, J1i, bt133, bt133, J3d ti133, J3c ti133, J3e ti133, J1p, J1q, J1r, J1s, J1t, J1u, J1v, J1w, J1x, J1z, J2u, J2v, J2w, J2y, J2z, J2A, J2B, J2C, J2D, J2E, J2F, J2G, J2H, J2I, J2L, J2M, J2T, J2X, ↓reduceIte, beq_self_eq_true, cond_true, cond_false, J30, J32, eq_self, J38, J39]
  apply vend_of []
  · simp only [vres, lk_cons, Nat.reduceBEq, cond_true, cond_false, ti133, vload, List.getElem?_cons_succ, List.getElem?_cons_zero, mkV, List.drop_zero, List.length_cons, List.length_nil, Nat.reduceAdd, Nat.le_refl, if_true, List.take_succ_cons, List.take_zero]; rfl
  · first | rfl | (simp [fin, nodup, handO, lendR, lendV, lendLs, lendL, idx, vone, renL, lendVs, renO, renL.renLs]; exact ⟨rfl, rfl⟩)
  exact ⟨rfl, rfl⟩

theorem sE60 : SortE 60 126 5 := ⟨⟨_, _, _, _, ti60, by decide, rfl, by decide⟩, ⟨_, _, _, ti126⟩⟩
theorem encVam_len (a : Vam) : (encVam a).length = 5 := by
  obtain ⟨xn, xg, ⟨xk, xi, xl⟩⟩ := a
  rfl
theorem vc_nm87 (a : Vam) : VC Tryz.prog 87 [.agg ((encVam a).map .d)] [] fun r h' => (∃ s, r = .one (.d (.str s))) ∧ h' = [] := by
  obtain ⟨xn, xg, ⟨xk, xi, xl⟩⟩ := a
  simp only [encVam, encSc, encTy, List.map_cons, List.map_nil]
  refine VC_of_fn mixed fn87 (by simp) ?_
  show vwp Tryz.prog 0 vc87 _ [(0, .agg [.d (.str xn), .d (.int .i64 xg), .d (.int .i64 xk), .d (.int .i64 xi), .d (.sl (encTy.encs xl))])] []
  unfold vc87
  rw [vwpI_eq]
  simp -implicitDefEqProofs only [Jm, Jv, Jy, JC, JD, JJ, JK, JL, JP, JS, JV, JY, J14, J16, J1h, J1i, bt126, J3b ti126 rfl, J3c ti9, J1p, J1q, J1s, J1t, J1A, J2u, J2v, J2C, J2E, J2F, J2H, J2T, J2W, J2X, ↓reduceIte, reduceCtorEq, beq_self_eq_true, cond_true, cond_false, J30, J32, J35, eq_self, J38, J3a]
  apply vend_of []; rfl; rfl
  exact ⟨⟨_, rfl⟩, rfl⟩

theorem vc_cl132 : CmpOk 132 87 fun x => ∃ a, x = encVam a := by
  rintro _ _ ⟨a, rfl⟩ ⟨b, rfl⟩
  have na := vc_nm87 a
  have nb := vc_nm87 b
  obtain ⟨xn, xg, ⟨xk, xi, xl⟩⟩ := a
  obtain ⟨yn, yg, ⟨yk, yi, yl⟩⟩ := b
  simp only [encVam, encSc, encTy, List.map_cons, List.map_nil] at na nb ⊢
  refine VC_of_fn mixed fn132 (by simp) ?_
  show vwp Tryz.prog 1 vc132 _ [(0, .agg [.d (.str xn), .d (.int .i64 xg), .d (.int .i64 xk), .d (.int .i64 xi), .d (.sl (encTy.encs xl))]), (1, .agg [.d (.str yn), .d (.int .i64 yg), .d (.int .i64 yk), .d (.int .i64 yi), .d (.sl (encTy.encs yl))]), (2, .one (.ptr 0 0))] [.box [.fn 87 []]]
  unfold vc132
  rw [vwpI_eq]
  simp -implicitDefEqProofs only [J7, Jc, Jd, Je, Jf, Jg, Jh, Ji, Jk, Jm, Jp, Jq, Jv, Jw, Jy, JD, JJ, JK, JL, JP, JS, JU, JV, JW, J14, J16, J1e, J1f, Jg, J1h, J1i, bt126, J3c ti126, J3c ti190, J1p, J1q, J1s, J1t, J1J, J2u, J2v, J2w, J2y, J2A, J2C, J2E, J2F, J2G, J2H, J2I, J2K, J2P, J2R, J2T, J2X, ↓reduceIte, beq_self_eq_true, cond_true, cond_false, J30, J32, J35, eq_self, J38, J39]
  refine callS [] (na) rfl rfl rfl ?_
  rintro _ _ ⟨⟨s, rfl⟩, rfl⟩
  refine ⟨_, _, rfl, ?_⟩
  simp -implicitDefEqProofs only [J7, J8, J9, Ja, Jb, Jd, Jg, Jh, Ji, Jk, Jm, Jp, Jq, JL, JP, JS, JU, JV, J1e, J1f, Jg, J1i, J3c ti126, J3c ti190, J1p, J1q, J1J, J2u, J2v, J2w, J2y, J2A, J2C, J2E, J2F, J2G, J2H, J2K, J2P, J2R, J2T, J2X, ↓reduceIte, beq_self_eq_true, cond_true, cond_false, true_and, and_self, J30, J32, J35, eq_self, J38, J39]
  refine callS [] (nb) rfl rfl rfl ?_
  rintro _ _ ⟨⟨t, rfl⟩, rfl⟩
  refine ⟨_, _, rfl, ?_⟩
  simp -implicitDefEqProofs only [J7, J8, J9, Ja, Jb, Jd, Jg, Jh, Jk, Jm, Jp, Jq, JL, JP, JU, JV, J12, J1e, J1g, noescs, Jg, J1i, J1J, J2u, J2G, J2H, J2K, J2P, J2R, J2T, beq_self_eq_true, cond_true, cond_false, true_and, and_self, eq_self]
  refine callS [] (vc_NCmp s t) rfl rfl rfl ?_
  rintro _ _ ⟨⟨c, rfl⟩, rfl⟩
  refine ⟨_, _, rfl, ?_⟩
  simp -implicitDefEqProofs only [J6, J7, J8, J9, Ja, Jb, Jc, Jd, Je, Jf, Jg, Jh, Jk, Jm, Jp, Jq, JC, JD, JL, JP, JV, J14, Jg, J1i, J2u, J2E, J2F, J2T, beq_self_eq_true, cond_true, cond_false, true_and, and_self, J30, J38]
  apply vend_of [0]; rfl; rfl
  exact ⟨⟨_, rfl⟩, rfl⟩

theorem vc_mk88 (a : Vam) : VC Tryz.prog 88 [.agg ((encVam a).map .d)] [] fun r h' => (∃ y, (∃ a', vamn a' = vamn a ∧ y = encVam a') ∧ r = .agg (y.map .d)) ∧ h' = [] := by
  obtain ⟨xn, xg, ⟨xk, xi, xl⟩⟩ := a
  refine VC_wk (Post := fun r h' => r = .agg [.d (.str xn), .d (.int .i64 xg), .d (.int .i64 xk), .d (.int .i64 xi), .d (.sl (encTy.encs xl))] ∧ h' = []) ?_ ?_
  case refine_2 =>
    rintro _ _ ⟨rfl, rfl⟩
    exact ⟨_, WkV.refl _, ⟨_, ⟨_, rfl, rfl⟩, rfl⟩, rfl⟩
  simp only [encVam, encSc, encTy, List.map_cons, List.map_nil]
  refine VC_of_fn mixed fn88 (by simp) ?_
  show vwp Tryz.prog 0 vc88 _ [(0, .agg [.d (.str xn), .d (.int .i64 xg), .d (.int .i64 xk), .d (.int .i64 xi), .d (.sl (encTy.encs xl))])] []
  unfold vc88
  rw [vwpI_eq]
  simp -implicitDefEqProofs only [Jm, Jv, Jy, JC, JD, JJ, JK, JL, JP, JQ, JS, JV, J16, J1h, J1i, bt126, bt126, J3d ti126, J3c ti126, J3e ti126, J1p, J1q, J1r, J1s, J1t, J1u, J1v, J1w, J1x, J1z, J2u, J2v, J2w, J2y, J2z, J2A, J2B, J2C, J2D, J2E, J2F, J2G, J2H, J2I, J2L, J2M, J2T, J2X, ↓reduceIte, beq_self_eq_true, cond_true, cond_false, J30, J32, eq_self, J38, J39]
  apply vend_of []
  · simp only [vres, lk_cons, Nat.reduceBEq, cond_true, cond_false, ti126, vload, List.getElem?_cons_succ, List.getElem?_cons_zero, mkV, List.drop_zero, List.length_cons, List.length_nil, Nat.reduceAdd, Nat.le_refl, if_true, List.take_succ_cons, List.take_zero]; rfl
  · first | rfl | (simp [fin, nodup, handO, lendR, lendV, lendLs, lendL, idx, vone, renL, lendVs, renO, renL.renLs]; exact ⟨rfl, rfl⟩)
  exact ⟨rfl, rfl⟩

theorem sE61 : SortE 61 140 6 := ⟨⟨_, _, _, _, ti61, by decide, rfl, by decide⟩, ⟨_, _, _, ti140⟩⟩
theorem encSm_len (a : ByteArray × Stx) : (encSm a).length = 6 := by
  obtain ⟨xn, ⟨xa1, xa2, xa3, xa4, xa5⟩⟩ := a
  rfl
theorem vc_nm90 (a : ByteArray × Stx) : VC Tryz.prog 90 [.agg ((encSm a).map .d)] [] fun r h' => (∃ s, r = .one (.d (.str s))) ∧ h' = [] := by
  obtain ⟨xn, ⟨xa1, xa2, xa3, xa4, xa5⟩⟩ := a
  simp only [encSm, encSt, List.map_cons, List.map_nil]
  refine VC_of_fn mixed fn90 (by simp) ?_
  show vwp Tryz.prog 0 vc90 _ [(0, .agg [.d (.str xn), .d (.sl (xa1.map encTym)), .d (.sl (xa2.map encVam)), .d (.sl (encSt.subs xa3)), .d (.sl (encSt.funs xa4)), .d (.sl (encSt.sigs xa5))])] []
  unfold vc90
  rw [vwpI_eq]
  simp -implicitDefEqProofs only [Jm, Jv, Jy, JC, JD, JJ, JK, JL, JP, JS, JV, JY, J14, J16, J1h, J1i, bt140, J3b ti140 rfl, J3c ti9, J1p, J1q, J1s, J1t, J1A, J2u, J2v, J2C, J2E, J2F, J2H, J2T, J2W, J2X, ↓reduceIte, reduceCtorEq, beq_self_eq_true, cond_true, cond_false, J30, J32, J35, eq_self, J38, J3a]
  apply vend_of []; rfl; rfl
  exact ⟨⟨_, rfl⟩, rfl⟩

theorem vc_cl135 : CmpOk 135 90 fun x => ∃ a, x = encSm a := by
  rintro _ _ ⟨a, rfl⟩ ⟨b, rfl⟩
  have na := vc_nm90 a
  have nb := vc_nm90 b
  obtain ⟨xn, ⟨xa1, xa2, xa3, xa4, xa5⟩⟩ := a
  obtain ⟨yn, ⟨ya1, ya2, ya3, ya4, ya5⟩⟩ := b
  simp only [encSm, encSt, List.map_cons, List.map_nil] at na nb ⊢
  refine VC_of_fn mixed fn135 (by simp) ?_
  show vwp Tryz.prog 1 vc135 _ [(0, .agg [.d (.str xn), .d (.sl (xa1.map encTym)), .d (.sl (xa2.map encVam)), .d (.sl (encSt.subs xa3)), .d (.sl (encSt.funs xa4)), .d (.sl (encSt.sigs xa5))]), (1, .agg [.d (.str yn), .d (.sl (ya1.map encTym)), .d (.sl (ya2.map encVam)), .d (.sl (encSt.subs ya3)), .d (.sl (encSt.funs ya4)), .d (.sl (encSt.sigs ya5))]), (2, .one (.ptr 0 0))] [.box [.fn 90 []]]
  unfold vc135
  rw [vwpI_eq]
  simp -implicitDefEqProofs only [J7, Jc, Jd, Je, Jf, Jg, Jh, Ji, Jk, Jm, Jp, Jq, Jv, Jw, Jy, JD, JJ, JK, JL, JP, JS, JU, JV, JW, J14, J16, J1e, J1f, Jg, J1h, J1i, bt140, J3c ti140, J3c ti193, J1p, J1q, J1s, J1t, J1J, J2u, J2v, J2w, J2y, J2A, J2C, J2E, J2F, J2G, J2H, J2I, J2K, J2P, J2R, J2T, J2X, ↓reduceIte, beq_self_eq_true, cond_true, cond_false, J30, J32, J35, eq_self, J38, J39]
  refine callS [] (na) rfl rfl rfl ?_
  rintro _ _ ⟨⟨s, rfl⟩, rfl⟩
  refine ⟨_, _, rfl, ?_⟩
  simp -implicitDefEqProofs only [J7, J8, J9, Ja, Jb, Jd, Jg, Jh, Ji, Jk, Jm, Jp, Jq, JL, JP, JS, JU, JV, J1e, J1f, Jg, J1i, J3c ti140, J3c ti193, J1p, J1q, J1J, J2u, J2v, J2w, J2y, J2A, J2C, J2E, J2F, J2G, J2H, J2K, J2P, J2R, J2T, J2X, ↓reduceIte, beq_self_eq_true, cond_true, cond_false, true_and, and_self, J30, J32, J35, eq_self, J38, J39]
  refine callS [] (nb) rfl rfl rfl ?_
  rintro _ _ ⟨⟨t, rfl⟩, rfl⟩
  refine ⟨_, _, rfl, ?_⟩
  simp -implicitDefEqProofs only [J7, J8, J9, Ja, Jb, Jd, Jg, Jh, Jk, Jm, Jp, Jq, JL, JP, JU, JV, J12, J1e, J1g, noescs, Jg, J1i, J1J, J2u, J2G, J2H, J2K, J2P, J2R, J2T, beq_self_eq_true, cond_true, cond_false, true_and, and_self, eq_self]
  refine callS [] (vc_NCmp s t) rfl rfl rfl ?_
  rintro _ _ ⟨⟨c, rfl⟩, rfl⟩
  refine ⟨_, _, rfl, ?_⟩
  simp -implicitDefEqProofs only [J6, J7, J8, J9, Ja, Jb, Jc, Jd, Je, Jf, Jg, Jh, Jk, Jm, Jp, Jq, JC, JD, JL, JP, JV, J14, Jg, J1i, J2u, J2E, J2F, J2T, beq_self_eq_true, cond_true, cond_false, true_and, and_self, J30, J38]
  apply vend_of [0]; rfl; rfl
  exact ⟨⟨_, rfl⟩, rfl⟩

theorem sE62 : SortE 62 161 13 := ⟨⟨_, _, _, _, ti62, by decide, rfl, by decide⟩, ⟨_, _, _, ti161⟩⟩
theorem encFm_len (a : ByteArray × FnE) : (encFm a).length = 13 := by
  obtain ⟨xn, xl, ⟨xa1, xa2, xa3, xa4, xa5⟩, xm, ⟨xb1, xb2, xb3, xb4, xb5⟩⟩ := a
  rfl
theorem vc_nm93 (a : ByteArray × FnE) : VC Tryz.prog 93 [.agg ((encFm a).map .d)] [] fun r h' => (∃ s, r = .one (.d (.str s))) ∧ h' = [] := by
  obtain ⟨xn, xl, ⟨xa1, xa2, xa3, xa4, xa5⟩, xm, ⟨xb1, xb2, xb3, xb4, xb5⟩⟩ := a
  simp only [encFm, encFn, encSt, List.cons_append, List.nil_append, List.map_cons, List.map_nil]
  refine VC_of_fn mixed fn93 (by simp) ?_
  show vwp Tryz.prog 0 vc93 _ [(0, .agg [.d (.str xn), .d (.sl (nums xl)), .d (.sl (xa1.map encTym)), .d (.sl (xa2.map encVam)), .d (.sl (encSt.subs xa3)), .d (.sl (encSt.funs xa4)), .d (.sl (encSt.sigs xa5)), .d (.sl (nums xm)), .d (.sl (xb1.map encTym)), .d (.sl (xb2.map encVam)), .d (.sl (encSt.subs xb3)), .d (.sl (encSt.funs xb4)), .d (.sl (encSt.sigs xb5))])] []
  unfold vc93
  rw [vwpI_eq]
  simp -implicitDefEqProofs only [Jm, Jv, Jy, JC, JD, JJ, JK, JL, JP, JS, JV, JY, J14, J16, J1h, J1i, bt161, J3b ti161 rfl, J3c ti9, J1p, J1q, J1s, J1t, J1A, J2u, J2v, J2C, J2E, J2F, J2H, J2T, J2W, J2X, ↓reduceIte, reduceCtorEq, beq_self_eq_true, cond_true, cond_false, J30, J32, J35, eq_self, J38, J3a]
  apply vend_of []; rfl; rfl
  exact ⟨⟨_, rfl⟩, rfl⟩

theorem vc_cl138 : CmpOk 138 93 fun x => ∃ a, x = encFm a := by
  rintro _ _ ⟨a, rfl⟩ ⟨b, rfl⟩
  have na := vc_nm93 a
  have nb := vc_nm93 b
  obtain ⟨xn, xl, ⟨xa1, xa2, xa3, xa4, xa5⟩, xm, ⟨xb1, xb2, xb3, xb4, xb5⟩⟩ := a
  obtain ⟨yn, yl, ⟨ya1, ya2, ya3, ya4, ya5⟩, ym, ⟨yb1, yb2, yb3, yb4, yb5⟩⟩ := b
  simp only [encFm, encFn, encSt, List.cons_append, List.nil_append, List.map_cons, List.map_nil] at na nb ⊢
  refine VC_of_fn mixed fn138 (by simp) ?_
  show vwp Tryz.prog 1 vc138 _ [(0, .agg [.d (.str xn), .d (.sl (nums xl)), .d (.sl (xa1.map encTym)), .d (.sl (xa2.map encVam)), .d (.sl (encSt.subs xa3)), .d (.sl (encSt.funs xa4)), .d (.sl (encSt.sigs xa5)), .d (.sl (nums xm)), .d (.sl (xb1.map encTym)), .d (.sl (xb2.map encVam)), .d (.sl (encSt.subs xb3)), .d (.sl (encSt.funs xb4)), .d (.sl (encSt.sigs xb5))]), (1, .agg [.d (.str yn), .d (.sl (nums yl)), .d (.sl (ya1.map encTym)), .d (.sl (ya2.map encVam)), .d (.sl (encSt.subs ya3)), .d (.sl (encSt.funs ya4)), .d (.sl (encSt.sigs ya5)), .d (.sl (nums ym)), .d (.sl (yb1.map encTym)), .d (.sl (yb2.map encVam)), .d (.sl (encSt.subs yb3)), .d (.sl (encSt.funs yb4)), .d (.sl (encSt.sigs yb5))]), (2, .one (.ptr 0 0))] [.box [.fn 93 []]]
  unfold vc138
  rw [vwpI_eq]
  simp -implicitDefEqProofs only [J7, Jc, Jd, Je, Jf, Jg, Jh, Ji, Jk, Jm, Jp, Jq, Jv, Jw, Jy, JD, JJ, JK, JL, JP, JS, JU, JV, JW, J14, J16, J1e, J1f, Jg, J1h, J1i, bt161, J3c ti161, J3c ti196, J1p, J1q, J1s, J1t, J1J, J2u, J2v, J2w, J2y, J2A, J2C, J2E, J2F, J2G, J2H, J2I, J2K, J2P, J2R, J2T, J2X, ↓reduceIte, beq_self_eq_true, cond_true, cond_false, J30, J32, J35, eq_self, J38, J39]
  refine callS [] (na) rfl rfl rfl ?_
  rintro _ _ ⟨⟨s, rfl⟩, rfl⟩
  refine ⟨_, _, rfl, ?_⟩
  simp -implicitDefEqProofs only [J7, J8, J9, Ja, Jb, Jd, Jg, Jh, Ji, Jk, Jm, Jp, Jq, JL, JP, JS, JU, JV, J1e, J1f, Jg, J1i, J3c ti161, J3c ti196, J1p, J1q, J1J, J2u, J2v, J2w, J2y, J2A, J2C, J2E, J2F, J2G, J2H, J2K, J2P, J2R, J2T, J2X, ↓reduceIte, beq_self_eq_true, cond_true, cond_false, true_and, and_self, J30, J32, J35, eq_self, J38, J39]
  refine callS [] (nb) rfl rfl rfl ?_
  rintro _ _ ⟨⟨t, rfl⟩, rfl⟩
  refine ⟨_, _, rfl, ?_⟩
  simp -implicitDefEqProofs only [J7, J8, J9, Ja, Jb, Jd, Jg, Jh, Jk, Jm, Jp, Jq, JL, JP, JU, JV, J12, J1e, J1g, noescs, Jg, J1i, J1J, J2u, J2G, J2H, J2K, J2P, J2R, J2T, beq_self_eq_true, cond_true, cond_false, true_and, and_self, eq_self]
  refine callS [] (vc_NCmp s t) rfl rfl rfl ?_
  rintro _ _ ⟨⟨c, rfl⟩, rfl⟩
  refine ⟨_, _, rfl, ?_⟩
  simp -implicitDefEqProofs only [J6, J7, J8, J9, Ja, Jb, Jc, Jd, Je, Jf, Jg, Jh, Jk, Jm, Jp, Jq, JC, JD, JL, JP, JV, J14, Jg, J1i, J2u, J2E, J2F, J2T, beq_self_eq_true, cond_true, cond_false, true_and, and_self, J30, J38]
  apply vend_of [0]; rfl; rfl
  exact ⟨⟨_, rfl⟩, rfl⟩

theorem sE63 : SortE 63 162 7 := ⟨⟨_, _, _, _, ti63, by decide, rfl, by decide⟩, ⟨_, _, _, ti162⟩⟩
theorem encSig_len (a : SigE) : (encSig a).length = 7 := by
  obtain ⟨xn, xl, ⟨xa1, xa2, xa3, xa4, xa5⟩⟩ := a
  rfl
theorem vc_nm96 (a : SigE) : VC Tryz.prog 96 [.agg ((encSig a).map .d)] [] fun r h' => (∃ s, r = .one (.d (.str s))) ∧ h' = [] := by
  obtain ⟨xn, xl, ⟨xa1, xa2, xa3, xa4, xa5⟩⟩ := a
  simp only [encSig, encSt, List.map_cons, List.map_nil]
  refine VC_of_fn mixed fn96 (by simp) ?_
  show vwp Tryz.prog 0 vc96 _ [(0, .agg [.d (.str xn), .d (.sl (nums xl)), .d (.sl (xa1.map encTym)), .d (.sl (xa2.map encVam)), .d (.sl (encSt.subs xa3)), .d (.sl (encSt.funs xa4)), .d (.sl (encSt.sigs xa5))])] []
  unfold vc96
  rw [vwpI_eq]
  simp -implicitDefEqProofs only [Jm, Jv, Jy, JC, JD, JJ, JK, JL, JP, JS, JV, JY, J14, J16, J1h, J1i, bt162, J3b ti162 rfl, J3c ti9, J1p, J1q, J1s, J1t, J1A, J2u, J2v, J2C, J2E, J2F, J2H, J2T, J2W, J2X, ↓reduceIte, reduceCtorEq, beq_self_eq_true, cond_true, cond_false, J30, J32, J35, eq_self, J38, J3a]
  apply vend_of []; rfl; rfl
  exact ⟨⟨_, rfl⟩, rfl⟩

theorem vc_cl141 : CmpOk 141 96 fun x => ∃ a, x = encSig a := by
  rintro _ _ ⟨a, rfl⟩ ⟨b, rfl⟩
  have na := vc_nm96 a
  have nb := vc_nm96 b
  obtain ⟨xn, xl, ⟨xa1, xa2, xa3, xa4, xa5⟩⟩ := a
  obtain ⟨yn, yl, ⟨ya1, ya2, ya3, ya4, ya5⟩⟩ := b
  simp only [encSig, encSt, List.map_cons, List.map_nil] at na nb ⊢
  refine VC_of_fn mixed fn141 (by simp) ?_
  show vwp Tryz.prog 1 vc141 _ [(0, .agg [.d (.str xn), .d (.sl (nums xl)), .d (.sl (xa1.map encTym)), .d (.sl (xa2.map encVam)), .d (.sl (encSt.subs xa3)), .d (.sl (encSt.funs xa4)), .d (.sl (encSt.sigs xa5))]), (1, .agg [.d (.str yn), .d (.sl (nums yl)), .d (.sl (ya1.map encTym)), .d (.sl (ya2.map encVam)), .d (.sl (encSt.subs ya3)), .d (.sl (encSt.funs ya4)), .d (.sl (encSt.sigs ya5))]), (2, .one (.ptr 0 0))] [.box [.fn 96 []]]
  unfold vc141
  rw [vwpI_eq]
  simp -implicitDefEqProofs only [J7, Jc, Jd, Je, Jf, Jg, Jh, Ji, Jk, Jm, Jp, Jq, Jv, Jw, Jy, JD, JJ, JK, JL, JP, JS, JU, JV, JW, J14, J16, J1e, J1f, Jg, J1h, J1i, bt162, J3c ti162, J3c ti199, J1p, J1q, J1s, J1t, J1J, J2u, J2v, J2w, J2y, J2A, J2C, J2E, J2F, J2G, J2H, J2I, J2K, J2P, J2R, J2T, J2X, ↓reduceIte, beq_self_eq_true, cond_true, cond_false, J30, J32, J35, eq_self, J38, J39]
  refine callS [] (na) rfl rfl rfl ?_
  rintro _ _ ⟨⟨s, rfl⟩, rfl⟩
  refine ⟨_, _, rfl, ?_⟩
  simp -implicitDefEqProofs only [J7, J8, J9, Ja, Jb, Jd, Jg, Jh, Ji, Jk, Jm, Jp, Jq, JL, JP, JS, JU, JV, J1e, J1f, Jg, J1i, J3c ti162, J3c ti199, J1p, J1q, J1J, J2u, J2v, J2w, J2y, J2A, J2C, J2E, J2F, J2G, J2H, J2K, J2P, J2R, J2T, J2X, ↓reduceIte, beq_self_eq_true, cond_true, cond_false, true_and, and_self, J30, J32, J35, eq_self, J38, J39]
  refine callS [] (nb) rfl rfl rfl ?_
  rintro _ _ ⟨⟨t, rfl⟩, rfl⟩
  refine ⟨_, _, rfl, ?_⟩
  simp -implicitDefEqProofs only [J7, J8, J9, Ja, Jb, Jd, Jg, Jh, Jk, Jm, Jp, Jq, JL, JP, JU, JV, J12, J1e, J1g, noescs, Jg, J1i, J1J, J2u, J2G, J2H, J2K, J2P, J2R, J2T, beq_self_eq_true, cond_true, cond_false, true_and, and_self, eq_self]
  refine callS [] (vc_NCmp s t) rfl rfl rfl ?_
  rintro _ _ ⟨⟨c, rfl⟩, rfl⟩
  refine ⟨_, _, rfl, ?_⟩
  simp -implicitDefEqProofs only [J6, J7, J8, J9, Ja, Jb, Jc, Jd, Je, Jf, Jg, Jh, Jk, Jm, Jp, Jq, JC, JD, JL, JP, JV, J14, Jg, J1i, J2u, J2E, J2F, J2T, beq_self_eq_true, cond_true, cond_false, true_and, and_self, J30, J38]
  apply vend_of [0]; rfl; rfl
  exact ⟨⟨_, rfl⟩, rfl⟩

theorem vc_mk91 (a : ByteArray × Stx) (H : Srt a.2) : VC Tryz.prog 91 [.agg ((encSm a).map .d)] [] fun r h' => (∃ y, (∃ a', subz a' = subz a ∧ y = encSm a') ∧ r = .agg (y.map .d)) ∧ h' = [] := by
  obtain ⟨xn, ⟨xa1, xa2, xa3, xa4, xa5⟩⟩ := a
  unfold Srt SrtP at H
  simp only [encSm, encSt, stW, List.map_cons, List.map_nil] at H ⊢
  refine VC_of_fn mixed fn91 (by simp) ?_
  show vwp Tryz.prog 0 vc91 _ [(0, .agg [.d (.str xn), .d (.sl (xa1.map encTym)), .d (.sl (xa2.map encVam)), .d (.sl (encSt.subs xa3)), .d (.sl (encSt.funs xa4)), .d (.sl (encSt.sigs xa5))])] []
  unfold vc91
  rw [vwpI_eq]
  simp -implicitDefEqProofs only [J7, Jc, Jd, Je, Jf, Jg, Jh, Ji, Jk, Jm, Jp, Jq, Jv, Jw, Jy, JD, JJ, JK, JL, JP, JS, JU, JV, J12, J16, J1e, J1g, noescs, Jg, J1h, J1i, bt140, bt140, J3d ti140, J3b ti140 rfl, J3c ti9, J3c ti65, J1p, J1q, J1s, J1t, J1A, J1J, J2u, J2v, J2w, J2y, J2A, J2B, J2C, J2E, J2F, J2G, J2H, J2I, J2K, J2P, J2R, J2T, J2W, J2X, ↓reduceIte, reduceCtorEq, beq_self_eq_true, cond_true, cond_false, J30, J32, J35, eq_self, J38, J39, J3a]
  refine callS [] (H) rfl rfl rfl ?_
  rintro _ _ ⟨⟨a, b, c, d, e, hs, rfl⟩, rfl⟩
  refine ⟨_, _, rfl, ?_⟩
  simp -implicitDefEqProofs only [J6, J7, J8, J9, Ja, Jb, Jc, Jd, Je, Jf, Jg, Jh, Ji, Jk, Jm, Jp, Jq, JC, JD, JL, JP, JQ, JS, JV, Jg, J1i, J3b ti140 rfl, J3c ti9, J3f ti140, J3e ti140, J1p, J1q, J1r, J1s, J1t, J1u, J1v, J1w, J1x, J1z, J1A, J1C, J1D, J1K, J2n, J2o, J2p, J2q, J2r, J2s, J2u, J2v, J2w, J2y, J2z, J2A, J2B, J2C, J2D, J2E, J2F, J2G, J2H, J2I, J2L, J2M, J2T, J2W, J2X, ↓reduceIte, reduceCtorEq, beq_self_eq_true, cond_true, cond_false, true_and, and_self, J30, J32, J35, eq_self, J38, J39, J3a]
  apply vend_of []
  · simp only [vres, lk_cons, Nat.reduceBEq, cond_true, cond_false, ti140, vload, List.getElem?_cons_succ, List.getElem?_cons_zero, mkV, List.drop_zero, List.length_cons, List.length_nil, Nat.reduceAdd, Nat.le_refl, if_true, List.take_succ_cons, List.take_zero]; rfl
  · first | rfl | (simp [fin, nodup, handO, lendR, lendV, lendLs, lendL, idx, vone, renL, lendVs, renO, renL.renLs]; exact ⟨rfl, rfl⟩)
  exact ⟨⟨_, ⟨(xn, .mk a b c d e), by simp only [subz, hs], rfl⟩, rfl⟩, rfl⟩

theorem vc_mk94 (a : ByteArray × FnE) (H : Srt a.2.2.1) (H2 : Srt a.2.2.2.2) : VC Tryz.prog 94 [.agg ((encFm a).map .d)] [] fun r h' => (∃ y, (∃ a', funz a' = funz a ∧ y = encFm a') ∧ r = .agg (y.map .d)) ∧ h' = [] := by
  obtain ⟨xn, xl, ⟨xa1, xa2, xa3, xa4, xa5⟩, xm, ⟨xb1, xb2, xb3, xb4, xb5⟩⟩ := a
  unfold Srt SrtP at H H2
  simp only [encFm, encFn, encSt, stW, List.cons_append, List.nil_append, List.map_cons, List.map_nil] at H H2 ⊢
  refine VC_of_fn mixed fn94 (by simp) ?_
  show vwp Tryz.prog 0 vc94 _ [(0, .agg [.d (.str xn), .d (.sl (nums xl)), .d (.sl (xa1.map encTym)), .d (.sl (xa2.map encVam)), .d (.sl (encSt.subs xa3)), .d (.sl (encSt.funs xa4)), .d (.sl (encSt.sigs xa5)), .d (.sl (nums xm)), .d (.sl (xb1.map encTym)), .d (.sl (xb2.map encVam)), .d (.sl (encSt.subs xb3)), .d (.sl (encSt.funs xb4)), .d (.sl (encSt.sigs xb5))])] []
  unfold vc94
  rw [vwpI_eq]
  simp -implicitDefEqProofs only [J7, Jc, Jd, Je, Jf, Jg, Jh, Ji, Jk, Jm, Jp, Jq, Jv, Jw, Jy, JD, JJ, JK, JL, JP, JQ, JS, JU, JV, J12, J16, J1e, J1g, noescs, Jg, J1h, J1i, bt161, bt89, bt161, J3d ti89, J3d ti161, J3b ti87 rfl, J3b ti89 rfl, J3b ti161 rfl, J3c ti9, J3c ti65, J3c ti85, J3c ti89, J3e ti89, J1p, J1q, J1r, J1s, J1t, J1u, J1v, J1w, J1x, J1z, J1A, J1J, J2u, J2v, J2w, J2y, J2z, J2A, J2B, J2C, J2D, J2E, J2F, J2G, J2H, J2I, J2K, J2L, J2M, J2P, J2R, J2T, J2W, J2X, ↓reduceIte, reduceCtorEq, beq_self_eq_true, cond_true, cond_false, J30, J32, J35, eq_self, J38, J39, J3a]
  refine callS [] (H) rfl rfl rfl ?_
  rintro _ _ ⟨⟨a, b, c, d, e, hs, rfl⟩, rfl⟩
  refine ⟨_, _, rfl, ?_⟩
  simp -implicitDefEqProofs only [J7, J8, J9, Ja, Jb, Jd, Jg, Jh, Ji, Jk, Jm, Jp, Jq, JL, JP, JS, JU, JV, J12, J1e, J1g, noescs, Jg, J1i, J3b ti87 rfl, J3b ti89 rfl, J3b ti161 rfl, J3c ti9, J3c ti65, J3c ti85, J1p, J1q, J1A, J1J, J2n, J2o, J2p, J2q, J2r, J2s, J2u, J2v, J2w, J2y, J2A, J2B, J2C, J2D, J2E, J2F, J2G, J2H, J2K, J2P, J2R, J2T, J2W, J2X, ↓reduceIte, reduceCtorEq, beq_self_eq_true, cond_true, cond_false, true_and, and_self, J30, J32, J35, eq_self, J38, J39, J3a]
  refine callS [] (H2) rfl rfl rfl ?_
  rintro _ _ ⟨⟨a2, b2, c2, d2, e2, hs2, rfl⟩, rfl⟩
  refine ⟨_, _, rfl, ?_⟩
  simp -implicitDefEqProofs only [J6, J7, J8, J9, Ja, Jb, Jc, Jd, Je, Jf, Jg, Jh, Ji, Jk, Jm, Jp, Jq, JC, JD, JL, JP, JQ, JS, JV, Jg, J1i, J3b ti87 rfl, J3b ti89 rfl, J3b ti161 rfl, J3c ti9, J3c ti85, J3e ti161, J3f ti87, J3f ti89, J3f ti161, J1p, J1q, J1r, J1s, J1t, J1u, J1v, J1w, J1x, J1z, J1A, J1C, J1D, J1K, J2n, J2o, J2p, J2q, J2r, J2s, J2u, J2v, J2w, J2y, J2z, J2A, J2B, J2C, J2D, J2E, J2F, J2G, J2H, J2I, J2L, J2M, J2T, J2W, J2X, ↓reduceIte, reduceCtorEq, beq_self_eq_true, cond_true, cond_false, true_and, and_self, J30, J32, J35, eq_self, J38, J39, J3a]
  apply vend_of []
  · simp only [vres, lk_cons, Nat.reduceBEq, cond_true, cond_false, ti161, vload, List.getElem?_cons_succ, List.getElem?_cons_zero, mkV, List.drop_zero, List.length_cons, List.length_nil, Nat.reduceAdd, Nat.le_refl, if_true, List.take_succ_cons, List.take_zero]; rfl
  · first | rfl | (simp [fin, nodup, handO, lendR, lendV, lendLs, lendL, idx, vone, renL, lendVs, renO, renL.renLs]; exact ⟨rfl, rfl⟩)
  exact ⟨⟨_, ⟨(xn, xl, .mk a b c d e, xm, .mk a2 b2 c2 d2 e2), by simp only [funz, hs, hs2], rfl⟩, rfl⟩, rfl⟩

theorem vc_mk97 (a : SigE) (H : Srt a.2.2) : VC Tryz.prog 97 [.agg ((encSig a).map .d)] [] fun r h' => (∃ y, (∃ a', sigz a' = sigz a ∧ y = encSig a') ∧ r = .agg (y.map .d)) ∧ h' = [] := by
  obtain ⟨xn, xl, ⟨xa1, xa2, xa3, xa4, xa5⟩⟩ := a
  unfold Srt SrtP at H
  simp only [encSig, encSt, stW, List.map_cons, List.map_nil] at H ⊢
  refine VC_of_fn mixed fn97 (by simp) ?_
  show vwp Tryz.prog 0 vc97 _ [(0, .agg [.d (.str xn), .d (.sl (nums xl)), .d (.sl (xa1.map encTym)), .d (.sl (xa2.map encVam)), .d (.sl (encSt.subs xa3)), .d (.sl (encSt.funs xa4)), .d (.sl (encSt.sigs xa5))])] []
  unfold vc97
  rw [vwpI_eq]
  simp -implicitDefEqProofs only [J7, Jc, Jd, Je, Jf, Jg, Jh, Ji, Jk, Jm, Jp, Jq, Jv, Jw, Jy, JD, JJ, JK, JL, JP, JS, JU, JV, J12, J16, J1e, J1g, noescs, Jg, J1h, J1i, bt162, bt162, J3d ti162, J3b ti87 rfl, J3b ti162 rfl, J3c ti9, J3c ti65, J3c ti85, J1p, J1q, J1s, J1t, J1A, J1J, J2u, J2v, J2w, J2y, J2A, J2B, J2C, J2E, J2F, J2G, J2H, J2I, J2K, J2P, J2R, J2T, J2W, J2X, ↓reduceIte, reduceCtorEq, beq_self_eq_true, cond_true, cond_false, J30, J32, J35, eq_self, J38, J39, J3a]
  refine callS [] (H) rfl rfl rfl ?_
  rintro _ _ ⟨⟨a, b, c, d, e, hs, rfl⟩, rfl⟩
  refine ⟨_, _, rfl, ?_⟩
  simp -implicitDefEqProofs only [J6, J7, J8, J9, Ja, Jb, Jc, Jd, Je, Jf, Jg, Jh, Ji, Jk, Jm, Jp, Jq, JC, JD, JL, JP, JQ, JS, JV, Jg, J1i, J3b ti87 rfl, J3b ti162 rfl, J3c ti9, J3c ti85, J3f ti87, J3f ti162, J3e ti162, J1p, J1q, J1r, J1s, J1t, J1u, J1v, J1w, J1x, J1z, J1A, J1C, J1D, J1K, J2n, J2o, J2p, J2q, J2r, J2s, J2u, J2v, J2w, J2y, J2z, J2A, J2B, J2C, J2D, J2E, J2F, J2G, J2H, J2I, J2L, J2M, J2T, J2W, J2X, ↓reduceIte, reduceCtorEq, beq_self_eq_true, cond_true, cond_false, true_and, and_self, J30, J32, J35, eq_self, J38, J39, J3a]
  apply vend_of []
  · simp only [vres, lk_cons, Nat.reduceBEq, cond_true, cond_false, ti162, vload, List.getElem?_cons_succ, List.getElem?_cons_zero, mkV, List.drop_zero, List.length_cons, List.length_nil, Nat.reduceAdd, Nat.le_refl, if_true, List.take_succ_cons, List.take_zero]; rfl
  · first | rfl | (simp [fin, nodup, handO, lendR, lendV, lendLs, lendL, idx, vone, renL, lendVs, renO, renL.renLs]; exact ⟨rfl, rfl⟩)
  exact ⟨⟨_, ⟨(xn, xl, .mk a b c d e), by simp only [sigz, hs], rfl⟩, rfl⟩, rfl⟩

theorem vc_Sorted : ∀ (N : Nat) (s : Stx), stn s ≤ N → N < 1000000000 → Srt s
  | 0, .mk s1 s2 s3 s4 s5, h, _ => by simp only [stn] at h; omega
  | N + 1, .mk s1 s2 s3 s4 s5, h, hN => by
    have ih := vc_Sorted N
    simp only [stn] at h
    have g1 := goS_sum s3
    have g2 := goF_sum s4
    have g3 := goG_sum s5
    have hl1 := sumN_length (f := tymn) (fun t => by unfold tymn; omega) s1
    have hl2 := sumN_length (f := vamn) (fun t => by unfold vamn; omega) s2
    have hl3 := goS_length s3
    have hl4 := goF_length s4
    have hl5 := goG_length s5
    have c1 := vc_sorted encTym tymn encTym_len sE59 vc_cl128 fn238 fn300 fn278 fn239 fn185 fn127 fn126 fn83 bt187 (by decide) (by decide) (by decide) (by decide) (by decide) (by decide) (by decide) (fm := 85) (sumN tymn s1) (fun a _ => vc_mk85 a) s1 (Nat.le_refl _) (by omega)
    have c2 := vc_sorted encVam vamn encVam_len sE60 vc_cl132 fn241 fn301 fn279 fn242 fn187 fn131 fn130 fn86 bt190 (by decide) (by decide) (by decide) (by decide) (by decide) (by decide) (by decide) (fm := 88) (sumN vamn s2) (fun a _ => vc_mk88 a) s2 (Nat.le_refl _) (by omega)
    have c3 := vc_sorted encSm subz encSm_len sE61 vc_cl135 fn243 fn302 fn280 fn244 fn188 fn134 fn133 fn89 bt193 (by decide) (by decide) (by decide) (by decide) (by decide) (by decide) (by decide) (fm := 91) (sumN subz s3) (fun a ha => vc_mk91 a (ih a.2 (by have := subz_e a; omega) (by omega))) s3 (Nat.le_refl _) (by omega)
    have c4 := vc_sorted encFm funz encFm_len sE62 vc_cl138 fn245 fn303 fn281 fn246 fn189 fn137 fn136 fn92 bt196 (by decide) (by decide) (by decide) (by decide) (by decide) (by decide) (by decide) (fm := 94) (sumN funz s4) (fun a ha => vc_mk94 a (ih a.2.2.1 (by have := funz_e a; omega) (by omega)) (ih a.2.2.2.2 (by have := funz_e a; omega) (by omega))) s4 (Nat.le_refl _) (by omega)
    have c5 := vc_sorted encSig sigz encSig_len sE63 vc_cl141 fn247 fn304 fn282 fn248 fn190 fn140 fn139 fn95 bt199 (by decide) (by decide) (by decide) (by decide) (by decide) (by decide) (by decide) (fm := 97) (sumN sigz s5) (fun a ha => vc_mk97 a (ih a.2.2 (by have := sigz_e a; omega) (by omega))) s5 (Nat.le_refl _) (by omega)
    rw [← encSubs_s] at c3
    rw [← encFuns_m] at c4
    rw [← encSigs_m] at c5
    unfold Srt SrtP
    simp only [stW, encSt, List.map_cons, List.map_nil]
    refine VC_of_fn mixed fn29 (by simp) ?_
    show vwp Tryz.prog 0 vc29 _ [(0, .agg [.d (.sl (s1.map encTym)), .d (.sl (s2.map encVam)), .d (.sl (encSt.subs s3)), .d (.sl (encSt.funs s4)), .d (.sl (encSt.sigs s5))])] []
    unfold vc29
    rw [vwpI_eq]
    simp -implicitDefEqProofs only [J7, Jc, Jd, Je, Jf, Jg, Jh, Ji, Jk, Jm, Jp, Jq, Jv, Jw, Jy, JD, JJ, JK, JL, JP, JS, JU, JV, J12, J16, J1e, J1g, noescs, Jg, J1h, J1i, bt65, bt65, J3d ti65, J3b ti65 rfl, J3c ti59, J3c ti60, J3c ti61, J3c ti62, J3c ti63, J1p, J1q, J1s, J1t, J1A, J1J, J2u, J2v, J2w, J2B, J2C, J2E, J2F, J2G, J2H, J2I, J2K, J2P, J2R, J2T, J2W, J2X, ↓reduceIte, reduceCtorEq, beq_self_eq_true, cond_true, cond_false, J30, J32, J35, eq_self, J38, J3a]
    refine callS [] (c1) rfl rfl rfl ?_
    rintro _ _ ⟨⟨l1, e1, rfl⟩, rfl⟩
    refine ⟨_, _, rfl, ?_⟩
    simp -implicitDefEqProofs only [J7, J8, J9, Ja, Jb, Jd, Jg, Jh, Ji, Jk, Jm, Jp, Jq, JL, JP, JS, JU, JV, J12, J1e, J1g, noescs, Jg, J1i, J3b ti65 rfl, J3c ti60, J3c ti61, J3c ti62, J3c ti63, J1p, J1q, J1A, J1J, J2n, J2o, J2p, J2q, J2s, J2u, J2v, J2w, J2A, J2B, J2C, J2D, J2E, J2F, J2G, J2H, J2K, J2P, J2R, J2T, J2W, J2X, ↓reduceIte, reduceCtorEq, beq_self_eq_true, cond_true, cond_false, true_and, and_self, J30, J32, J35, eq_self, J38]
    refine callS [] (c2) rfl rfl rfl ?_
    rintro _ _ ⟨⟨l2, e2, rfl⟩, rfl⟩
    refine ⟨_, _, rfl, ?_⟩
    simp -implicitDefEqProofs only [J7, J8, J9, Ja, Jb, Jd, Jg, Jh, Ji, Jk, Jm, Jp, Jq, JL, JP, JS, JU, JV, J12, J1e, J1g, noescs, Jg, J1i, J3b ti65 rfl, J3c ti61, J3c ti62, J3c ti63, J1p, J1q, J1A, J1J, J2n, J2o, J2p, J2q, J2s, J2u, J2v, J2w, J2A, J2B, J2C, J2D, J2E, J2F, J2G, J2H, J2K, J2P, J2R, J2T, J2W, J2X, ↓reduceIte, reduceCtorEq, beq_self_eq_true, cond_true, cond_false, true_and, and_self, J30, J32, J35, eq_self, J38]
    refine callS [] (c3) rfl rfl rfl ?_
    rintro _ _ ⟨⟨l3, e3, rfl⟩, rfl⟩
    refine ⟨_, _, rfl, ?_⟩
    simp -implicitDefEqProofs only [J7, J8, J9, Ja, Jb, Jd, Jg, Jh, Ji, Jk, Jm, Jp, Jq, JL, JP, JS, JU, JV, J12, J1e, J1g, noescs, Jg, J1i, J3b ti65 rfl, J3c ti62, J3c ti63, J1p, J1q, J1A, J1J, J2n, J2o, J2p, J2q, J2s, J2u, J2v, J2w, J2A, J2B, J2C, J2D, J2E, J2F, J2G, J2H, J2K, J2P, J2R, J2T, J2W, J2X, ↓reduceIte, reduceCtorEq, beq_self_eq_true, cond_true, cond_false, true_and, and_self, J30, J32, J35, eq_self, J38]
    refine callS [] (c4) rfl rfl rfl ?_
    rintro _ _ ⟨⟨l4, e4, rfl⟩, rfl⟩
    refine ⟨_, _, rfl, ?_⟩
    simp -implicitDefEqProofs only [J7, J8, J9, Ja, Jb, Jd, Jg, Jh, Ji, Jk, Jm, Jp, Jq, JL, JP, JS, JU, JV, J12, J1e, J1g, noescs, Jg, J1i, J3b ti65 rfl, J3c ti63, J1p, J1q, J1A, J1J, J2n, J2o, J2p, J2q, J2s, J2u, J2v, J2w, J2A, J2B, J2C, J2D, J2E, J2F, J2G, J2H, J2K, J2P, J2R, J2T, J2W, J2X, ↓reduceIte, reduceCtorEq, beq_self_eq_true, cond_true, cond_false, true_and, and_self, J30, J32, J35, eq_self, J38]
    refine callS [] (c5) rfl rfl rfl ?_
    rintro _ _ ⟨⟨l5, e5, rfl⟩, rfl⟩
    refine ⟨_, _, rfl, ?_⟩
    simp -implicitDefEqProofs only [J6, J7, J8, J9, Ja, Jb, Jc, Jd, Je, Jf, Jg, Jh, Jk, Jm, Jp, Jq, JC, JD, JL, JP, JQ, JS, JV, Jg, J1i, J3f ti65, J3e ti65, J1r, J1s, J1t, J1u, J1v, J1w, J1x, J1z, J1C, J1D, J1K, J2n, J2o, J2p, J2q, J2s, J2u, J2v, J2w, J2y, J2z, J2A, J2B, J2C, J2D, J2E, J2F, J2G, J2H, J2I, J2L, J2M, J2T, J2W, J2X, ↓reduceIte, beq_self_eq_true, cond_true, cond_false, true_and, and_self, J30, J32, eq_self, J38, J39]
    apply vend_of []
    · simp only [vres, lk_cons, Nat.reduceBEq, cond_true, cond_false, ti65, vload, List.getElem?_cons_succ, List.getElem?_cons_zero, mkV, List.drop_zero, List.length_cons, List.length_nil, Nat.reduceAdd, Nat.le_refl, if_true, List.take_succ_cons, List.take_zero]; rfl
    · first | rfl | (simp [fin, nodup, handO, lendR, lendV, lendLs, lendL, idx, vone, renL, lendVs, renO, renL.renLs]; exact ⟨rfl, rfl⟩)
    refine ⟨⟨l1, l2, l3, l4, l5, ?_, ?_⟩, rfl⟩
    · simp only [stn, goS_sum, goF_sum, goG_sum, e1, e2, e3, e4, e5]
    · rw [encSubs_s, encFuns_m, encSigs_m]

end Go.Vt.Tryz
