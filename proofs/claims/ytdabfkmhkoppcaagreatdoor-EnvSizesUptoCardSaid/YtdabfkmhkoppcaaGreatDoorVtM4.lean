/- The law: order changes no size; an Abs is as great as its structure, and one for each stamp. -/
import Derived.Test.YtdabfkmhkoppcaaGreatDoorVtS5
import Derived.Test.YtdabfkmhkoppcaaGreatDoorVtEnvE
set_option maxRecDepth 100000
set_option linter.unusedSimpArgs false
namespace Go.Vt.Tryz
open Go.Vt renaming opsW_nil → J6, opsW_cons → J7, again_nil → J8, again_cons → J9, obOf_nil → Ja, obOf_cons → Jb, wadd → Jc, ro → Jd, ob_some → Jm, vbool_eq → Jo, vif_tt → Jp, vif_ff → Jq, vD_bool → Jr, vD_int → Js, wp_skip → Ju, wp_ops → Jv, wp_opsW → Jw, wp_seq → Jy, wp_cond → Jz, wp_ret → JC, th_normal → JD, th_ret → JF, ops_nil → JJ, ops_cons → JK, go_none → JL, go_some → JM, cond_tt → JN, cond_ff → JO, put_some → JP, asL → JS, asFn → JU, opd_tmp → JV, opd_int → JW, opd_bool → JX, opd_func → J12, so_move → J13, so_assign → J14, so_pick → J15, so_box → J16, so_nilCheck → J17, so_call → J1e, esc_func → J1g, bobj_none → J1h, lk_cons → J1i, nilC_tmp → J1j, nilC_int → J1k, so_bin → J1o, so_build → J1p, so_load → J1q, so_fieldAddr → J1r, vload → J1s, mkV → J1t, vcells → J1v, known → J1w, splice → J1C, vfieldAddr → J1D, vbuild → J1F, vfill → J1G, vlen → J1I, opds → J1M, opdPairs → J1N, vbin2 → J1O, vbin → J1P, vint → J1Q, vstr → J1R, visNil → J1S, vpick → J1V, vundef → J2d, gb_b → J2e, gb_u → J2f, sb_tf → J2i, sb_ft → J2j, sb_nf → J2l, putBack → J2q, fzIds → J2r, lentVs → J2s, lentV → J2t, lentLs → J2u, lentL → J2v, so_len → J3e
open List renaming any_cons → Je, any_nil → Jf, contains_cons → Jg, contains_nil → Jh, lookup_nil → J2x, getElem?_cons_zero → J2y, getElem?_cons_succ → J2z, take_succ_cons → J2B, take_zero → J2C, take_nil → J2D, drop_succ_cons → J2E, drop_zero → J2F, drop_nil → J2G, length_cons → J2H, length_nil → J2I, append_nil → J2J, nil_append → J2K, cons_append → J2L, map_nil → J2N, set_cons_zero → J2O, set_cons_succ → J2P, all_nil → J2S
open Bool renaming or_true → Ji, or_false → Jk, and_true → J2U, false_eq_true → J38
open Nat renaming reduceBEq → J2W, reduceLeDiff → J2Z, reduceAdd → J30, zero_add → J3b, le_refl → J3c, add_zero → J3d
open Option renaming map_some → J33, bind_some → J35
open Go.Proofs

theorem cnt0 (most : Nat) : cnt most 0 = 0 := by unfold cnt; omega

theorem vc_Size (s : Stx) (hs : stn s < 900000000) (most : Nat) (hm : most < 2000000000000) : VC Tryz.prog 27 [stW s, .one (.d (.int .i64 most))] [] fun r h' => r = .one (.d (.int .i64 (cnt most (stn s)))) ∧ h' = [] := by
  have h := vc_cstr most hm 999999999 s (by omega) (by omega) 0
  simp only [cb, cnt0, Nat.zero_add] at h
  obtain ⟨s1, s2, s3, s4, s5⟩ := s
  simp only [stW, encSt, List.map_cons, List.map_nil] at h ⊢
  have hc : ((most : Int) < 0) = False := by simp
  refine VC_of_fn mixed fn27 (by simp) ?_
  show vwp Tryz.prog 0 vc27 _ [(0, .agg [.d (.sl (s1.map encTym)), .d (.sl (s2.map encVam)), .d (.sl (encSt.subs s3)), .d (.sl (encSt.funs s4)), .d (.sl (encSt.sigs s5))]), (1, .one (.d (.int .i64 most)))] []
  unfold vc27
  rw [vwpI_eq]
  simp -implicitDefEqProofs only [Jg, Jh, Jk, Jm, Jo, Jp, Jr, Ju, Jv, Jy, Jz, JC, JD, JF, JJ, JK, JL, JN, JO, JP, JS, JU, JV, JW, J12, J13, J14, J16, J1e, J1g, noescs, Jg, J1h, J1i, J1k, bt65, bt183, J1o ti3, J1p ti183, J1q ti65, J1s, J1t, J1v, J1w, J1C, J1F, J1G, J1M, J1N, J1O, J1P, J1Q, J1R, J2x, J2y, J2z, J2B, J2C, J2D, J2E, J2F, J2G, J2H, J2I, J2J, J2K, J2L, J2N, J2S, J2U, J2W, J2Z, J30, ↓reduceIte, beq_self_eq_true, cond_true, cond_false, true_and, and_self, J33, J35, decide_false, J38, eq_self, forall_const, false_implies, J3b, J3c, hc]
  refine callS [1] (h) rfl rfl rfl ?_
  rintro _ _ ⟨rfl, rfl⟩
  refine ⟨_, _, rfl, ?_⟩
  simp -implicitDefEqProofs only [Jm, Jv, Jy, JC, JD, JJ, JK, JL, JP, JS, JV, J13, J14, J17, J1i, J1q ti3, J1r ti183 rfl, J1s, J1t, J1D, J1S, J2q, J2r, J2s, J2t, J2u, J2v, J2x, J2y, J2z, J2B, J2D, J2E, J2F, J2G, J2H, J2I, J2J, J2O, J2P, J2W, J2Z, J30, ↓reduceIte, reduceCtorEq, beq_self_eq_true, cond_true, cond_false, J33, J35, J38, J3b, J3d]
  apply vend_of []; rfl; rfl
  exact ⟨rfl, rfl⟩

theorem vc_SizeAbs (l : List Int) (hl : l.length < 900000000) (s : Stx) (hs : stn s < 900000000) (most : Nat) (hm : most < 2000000000000) : VC Tryz.prog 28 [abW l s, .one (.d (.int .i64 most))] [] fun r h' => r = .one (.d (.int .i64 (cnt most (l.length + stn s)))) ∧ h' = [] := by
  have h := vc_cabs hm (vc_cstr most hm 999999999 s (by omega) (by omega)) l (by omega) 0
  simp only [cb, cnt0, Nat.zero_add] at h
  obtain ⟨s1, s2, s3, s4, s5⟩ := s
  simp only [abW, encSt, List.map_cons, List.map_nil] at h ⊢
  have hc : ((most : Int) < 0) = False := by simp
  refine VC_of_fn mixed fn28 (by simp) ?_
  show vwp Tryz.prog 0 vc28 _ [(0, .agg [.d (.sl (nums l)), .d (.sl (s1.map encTym)), .d (.sl (s2.map encVam)), .d (.sl (encSt.subs s3)), .d (.sl (encSt.funs s4)), .d (.sl (encSt.sigs s5))]), (1, .one (.d (.int .i64 most)))] []
  unfold vc28
  rw [vwpI_eq]
  simp -implicitDefEqProofs only [Jg, Jh, Jk, Jm, Jo, Jp, Jr, Ju, Jv, Jy, Jz, JC, JD, JF, JJ, JK, JL, JN, JO, JP, JS, JU, JV, JW, J12, J13, J14, J16, J1e, J1g, noescs, Jg, J1h, J1i, J1k, bt87, bt183, J1o ti3, J1p ti183, J1q ti87, J1s, J1t, J1v, J1w, J1C, J1F, J1G, J1M, J1N, J1O, J1P, J1Q, J1R, J2x, J2y, J2z, J2B, J2C, J2D, J2E, J2F, J2G, J2H, J2I, J2J, J2K, J2L, J2N, J2S, J2U, J2W, J2Z, J30, ↓reduceIte, beq_self_eq_true, cond_true, cond_false, true_and, and_self, J33, J35, decide_false, J38, eq_self, forall_const, false_implies, J3b, J3c, hc]
  refine callS [1] (h) rfl rfl rfl ?_
  rintro _ _ ⟨rfl, rfl⟩
  refine ⟨_, _, rfl, ?_⟩
  simp -implicitDefEqProofs only [Jm, Jv, Jy, JC, JD, JJ, JK, JL, JP, JS, JV, J13, J14, J17, J1i, J1q ti3, J1r ti183 rfl, J1s, J1t, J1D, J1S, J2q, J2r, J2s, J2t, J2u, J2v, J2x, J2y, J2z, J2B, J2D, J2E, J2F, J2G, J2H, J2I, J2J, J2O, J2P, J2W, J2Z, J30, ↓reduceIte, reduceCtorEq, beq_self_eq_true, cond_true, cond_false, J33, J35, J38, J3b, J3d]
  apply vend_of []; rfl; rfl
  exact ⟨rfl, rfl⟩

theorem cnt_le {most n : Nat} (h : n ≤ most + 1) : cnt most n = (n : Int) := by unfold cnt; omega

theorem vc_EnvSizes (l : List Int) (s : Stx) (hl : l.length < 100000000) (hs : stn s < 100000000) : VC Tryz.prog 6 [abW l s] [] fun r h' => r = .one (.d (.bool true)) ∧ h' = [] := by
  have c1 := vc_Size s (by omega) 1099511627776 (by omega)
  have c2 := vc_SizeAbs l (by omega) s (by omega) 1099511627776 (by omega)
  have c3 := vc_Sorted 999999999 s (by omega) (by omega)
  have c4 := fun s2 (h : stn s2 = stn s) => vc_Size s2 (by omega) 1099511627776 (by omega)
  have c5 := vc_Size s (by omega) (stn s) (by omega)
  have c6 := vc_Size s (by omega) (stn s - 1) (by omega)
  have hpos : 1 ≤ stn s := by cases s; simp only [stn]; omega
  rw [cnt_le (by omega)] at c1 c2 c5 c6
  have c7 : ∀ s2, stn s2 = stn s → VC Tryz.prog 27 [stW s2, .one (.d (.int .i64 (1099511627776 : Nat)))] [] fun r h' => r = .one (.d (.int .i64 (stn s))) ∧ h' = [] := by
    intro s2 h
    have := c4 s2 h
    rw [cnt_le (by omega), h] at this
    exact this
  clear c4
  have w1 := wrapA (a := stn s) (b := l.length) (c := l.length + stn s) (by omega) (by omega)
  have w2 := wrapS1 (a := stn s) (c := stn s - 1) (by omega) (by omega)
  have h0 : ((stn s : Int) = 0) = False := by simp; omega
  generalize hN : stn s = N at *
  unfold Srt SrtP at c3
  rw [hN] at c3
  obtain ⟨s1, s2, s3, s4, s5⟩ := s
  simp only [stW, abW, encSt, List.map_cons, List.map_nil] at c1 c2 c3 c5 c6 c7 ⊢
  refine VC_of_fn mixed fn6 (by simp) ?_
  show vwp Tryz.prog 0 vc6 _ [(0, .agg [.d (.sl (nums l)), .d (.sl (s1.map encTym)), .d (.sl (s2.map encVam)), .d (.sl (encSt.subs s3)), .d (.sl (encSt.funs s4)), .d (.sl (encSt.sigs s5))])] []
  unfold vc6
  rw [vwpI_eq]
  simp -implicitDefEqProofs only [Jg, Jh, Jk, Jm, Jp, Jv, Jy, JD, JJ, JK, JL, JP, JS, JU, JV, JW, JX, J12, J14, J16, J1e, J1g, noescs, Jg, J1h, J1i, bt87, J1r ti87 rfl, J1q ti65, J1s, J1t, J1v, J1w, J1D, J1M, J2x, J2y, J2z, J2B, J2D, J2E, J2F, J2H, J2I, J2J, J2K, J2N, J2S, J2U, J2W, J2Z, J30, ↓reduceIte, reduceCtorEq, beq_self_eq_true, cond_true, cond_false, J33, J35, eq_self, J3b, J3c]
  refine callS [] (c1) rfl rfl rfl ?_
  rintro _ _ ⟨rfl, rfl⟩
  refine ⟨_, _, rfl, ?_⟩
  simp -implicitDefEqProofs only [J7, Jc, Jd, Je, Jf, Jg, Jh, Ji, Jk, Jm, Jp, Jq, Js, Jw, Jy, JD, JJ, JK, JL, JP, JS, JU, JV, JW, J12, J13, J14, J1e, J1g, noescs, Jg, J1i, J1j, J1r ti87 rfl, J1q ti85, J1q ti87, J3e ti85, J1o ti3, J1s, J1t, J1D, J1I, J1M, J1O, J1P, J1Q, J1R, J2x, J2y, J2B, J2D, J2F, J2H, J2I, J2J, J2K, J2N, J2S, J2U, J2W, J2Z, J30, ↓reduceIte, reduceCtorEq, beq_self_eq_true, cond_true, cond_false, true_and, J33, J35, J38, eq_self, J3b, J3c, J3d, nums_length, w1]
  refine callS [] (c2) rfl rfl rfl ?_
  rintro _ _ ⟨rfl, rfl⟩
  refine ⟨_, _, rfl, ?_⟩
  simp -implicitDefEqProofs only [J6, J7, J8, J9, Ja, Jb, Jc, Jd, Je, Jf, Jg, Jh, Ji, Jk, Jm, Jo, Jp, Jq, Jr, JC, JD, JL, JM, JP, JS, JU, JV, JX, J12, J13, J14, J15, J1e, J1g, noescs, Jg, J1i, J1j, J1r ti87 rfl, J1q ti65, J1q ti85, J3e ti85, J1o ti3, J1s, J1t, J1D, J1I, J1M, J1O, J1P, J1Q, J1R, J1V, J2d, J2e, J2f, J2j, J2l, J2x, J2y, J2z, J2B, J2D, J2E, J2F, J2H, J2I, J2J, J2K, J2N, J2S, J2U, J2W, J2Z, J30, ↓reduceIte, reduceCtorEq, beq_self_eq_true, cond_true, cond_false, true_and, and_true, and_self, J33, J35, J38, eq_self, forall_const, false_implies, J3b, J3c, J3d, nums_length]
  refine callS [] (c3) rfl rfl rfl ?_
  rintro _ _ ⟨⟨a, b, c, d, e, hs2, rfl⟩, rfl⟩
  refine ⟨_, _, rfl, ?_⟩
  have c8 := c7 (.mk a b c d e) hs2
  simp only [encSt, List.map_cons, List.map_nil] at c8
  simp -implicitDefEqProofs only [J7, J8, J9, Ja, Jb, Jd, Jg, Jh, Jk, Jm, Jp, Jq, JM, JP, JU, JV, JW, J12, J1e, J1g, noescs, Jg, J1i, J1M, J2e, J2q, J2r, J2s, J2t, J2u, J2v, J2x, J2D, J2G, J2I, J2J, J2K, J2N, J2S, J2U, J2W, beq_self_eq_true, cond_true, cond_false, true_and, and_self, eq_self]
  refine callS [] (c8) rfl rfl rfl ?_
  rintro _ _ ⟨rfl, rfl⟩
  refine ⟨_, _, rfl, ?_⟩
  simp -implicitDefEqProofs only [J6, J7, J8, J9, Ja, Jb, Jc, Jd, Je, Jf, Jg, Jh, Jk, Jm, Jo, Jp, Jq, Jr, JC, JD, JL, JM, JP, JS, JU, JV, JX, J12, J13, J14, J15, J1e, J1g, noescs, Jg, J1i, J1j, J1r ti87 rfl, J1q ti65, J1o ti3, J1s, J1t, J1D, J1M, J1O, J1P, J1Q, J1R, J1V, J2d, J2e, J2f, J2j, J2l, J2x, J2y, J2z, J2B, J2D, J2E, J2F, J2H, J2I, J2J, J2K, J2N, J2S, J2U, J2W, J2Z, J30, ↓reduceIte, reduceCtorEq, beq_self_eq_true, cond_true, cond_false, true_and, and_true, and_self, J33, J35, eq_self, forall_const, false_implies, J3b, J3c]
  refine callS [] (c5) rfl rfl rfl ?_
  rintro _ _ ⟨rfl, rfl⟩
  refine ⟨_, _, rfl, ?_⟩
  simp -implicitDefEqProofs only [J6, J7, J8, J9, Ja, Jb, Jc, Jd, Je, Jf, Jg, Jh, Jk, Jm, Jo, Jp, Jq, Jr, Js, JC, JD, JL, JM, JP, JS, JU, JV, JW, JX, J12, J13, J14, J15, J1e, J1g, noescs, Jg, J1i, J1j, J1k, J1r ti87 rfl, J1q ti65, J1o ti3, J1s, J1t, J1D, J1M, J1O, J1P, J1Q, J1R, J1V, J2d, J2e, J2f, J2i, J2j, J2l, J2x, J2y, J2z, J2B, J2D, J2E, J2F, J2H, J2I, J2J, J2K, J2N, J2S, J2U, J2W, J2Z, J30, ↓reduceIte, reduceCtorEq, beq_self_eq_true, cond_true, cond_false, true_and, and_true, and_self, J33, J35, beq_iff_eq, beq_eq_false_iff_ne, eq_self, forall_const, not_false_eq_true, ne_eq, false_implies, J3b, J3c, h0, w2]
  refine callS [] (c6) rfl rfl rfl ?_
  rintro _ _ ⟨rfl, rfl⟩
  refine ⟨_, _, rfl, ?_⟩
  simp -implicitDefEqProofs only [J6, J7, J8, J9, Ja, Jb, Jc, Jd, Je, Jf, Jg, Jh, Jk, Jm, Jo, Jp, Jq, Jr, JC, JD, JL, JM, JP, JU, JV, JX, J12, J13, J14, J15, J1e, J1g, noescs, Jg, J1i, J1j, J1o ti3, J1M, J1O, J1P, J1Q, J1R, J1V, J2d, J2e, J2j, J2x, J2I, J2J, J2N, J2S, J2U, J2W, ↓reduceIte, reduceCtorEq, beq_self_eq_true, cond_true, cond_false, true_and, and_true, and_self, J33, J35, eq_self, forall_const, false_implies]
  refine callS [] (vc_alive) rfl rfl rfl ?_
  rintro _ _ ⟨rfl, rfl⟩
  refine ⟨_, _, rfl, ?_⟩
  simp -implicitDefEqProofs only [J6, J7, J8, J9, Ja, Jb, Jc, Jd, Je, Jf, Jg, Jh, Jk, Jm, Jp, Jq, JC, JD, JL, JP, JV, JX, J14, J15, Jg, J1i, J1V, J2x, J2I, J2W, beq_self_eq_true, cond_true, cond_false, true_and, and_self, J33, J35]
  apply vend_of []; rfl; rfl
  exact ⟨rfl, rfl⟩

end Go.Vt.Tryz
