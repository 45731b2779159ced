/- The environment: structures at a path. -/
import Derived.Test.YtdabfkmhkoppcaaGreatDoorVtL4
set_option maxRecDepth 100000
set_option linter.unusedSimpArgs false
namespace Go.Vt.Tryz
open List renaming any_cons → J0, any_nil → J1, contains_cons → J2, contains_nil → J3, lookup_nil → J8, getElem?_cons_zero → J9, getElem?_cons_succ → Ja, getElem?_nil → Jb, take_succ_cons → Jc, take_zero → Jd, take_nil → Je, drop_succ_cons → Jf, drop_zero → Jg, drop_nil → Jh, length_cons → Ji, length_nil → Jj, append_nil → Jk, nil_append → Jl, cons_append → Jm, map_cons → Jn, map_nil → Jo, set_cons_zero → Jp, set_cons_succ → Jq, set_nil → Jr, all_cons → Js, all_nil → Jt, map_append → Ju
open Bool renaming or_true → J4, true_or → J5, or_false → J6, false_or → J7, and_true → Jv, true_and → Jw, false_eq_true → JJ, not_true → JK, not_false → JL
open Nat renaming reduceBEq → Jx, reduceEqDiff → Jy, reduceLT → Jz, reduceLeDiff → JA, reduceAdd → JB, reduceMul → JC, reduceSub → JD, zero_add → JM, le_refl → JN, add_zero → JO
open Option renaming map_some → JE, map_none → JF, bind_some → JG, bind_none → JH, isSome_some → JI
open Go.Proofs

theorem encSubs_map : ∀ l, encSt.subs l = l.map fun m => D.str m.1 :: encSt m.2
  | [] => rfl
  | (s, x) :: r => by simp [encSt.subs, encSubs_map r]

def encSm (m : ByteArray × Stx) : List D := .str m.1 :: encSt m.2
theorem kndSub : Knd SubE encSub (·.1) 13 := ⟨fun a => ⟨_, rfl⟩, fun a => by obtain ⟨n, ⟨a, b, c, d, e⟩, ⟨f, g, h, i, j, k, l⟩⟩ := a; rfl⟩
theorem kndSm : Knd (ByteArray × Stx) encSm (·.1) 6 := ⟨fun a => ⟨_, rfl⟩, fun a => by obtain ⟨n, ⟨a, b, c, d, e⟩⟩ := a; rfl⟩

def farSub (s : ByteArray) (x : SubE) : Option SubE := (lastOf (·.1) x.2.1.subs s).map fun m => (s, m.2, selT s x.2.2)

def zSm : List L := [.d (.str (ByteArray.mk (Array.mk []))), .nils, .nils, .nils, .nils, .nils]

theorem lst49 : Lst 48 67 137 49 115 177 13 zSub where
  S := ⟨_, _, _, ti48, rfl⟩
  E := ⟨_, _, ti67, rfl⟩
  F := ⟨_, ti137⟩
  bS := bt48
  bE := bt67
  bF := bt137
  last := fn49
  back := fn115
  itr := ⟨Tryz.f177, _, Tryz.func177, rfl, rfl, rfl, by kernel_rfl, by kernel_rfl, rfl⟩
  nB := by kernel_rfl
  zl := rfl
  zr := fun _ => rfl
  zd := fun _ _ => rfl

theorem lst52 : Lst 61 140 143 52 116 178 6 zSm where
  S := ⟨_, _, _, ti61, rfl⟩
  E := ⟨_, _, ti140, rfl⟩
  F := ⟨_, ti143⟩
  bS := bt61
  bE := bt140
  bF := bt143
  last := fn52
  back := fn116
  itr := ⟨Tryz.f178, _, Tryz.func178, rfl, rfl, rfl, by kernel_rfl, by kernel_rfl, rfl⟩
  nB := by kernel_rfl
  zl := rfl
  zr := fun _ => rfl
  zd := fun _ _ => rfl

theorem kinSub : Kin 48 67 137 138 144 49 115 177 50 48 47 51 14 3 where
  eq := fn50
  near := fn48
  look := fn47
  whole := fn14
  nl := by kernel_rfl
  no := by kernel_rfl

theorem vc_farSub (x : SubE) (s : ByteArray) (hx : x.2.1.subs.length < 1000000000) : VC Tryz.prog 51 [.agg ((encSub x).map .d), .one (.d (.str s))] [] fun r h' => FarR encSub 13 (farSub s x) r ∧ h' = [] := by
  obtain ⟨xn, ⟨x1, x2, x3, x4, x5⟩, ⟨y1, y2, y3, y4, y5, y6, y7⟩⟩ := x
  have hl := vc_lastN kndSm lst52 fn53 x3 hx s
  have hsel := vc_sel s (.mk y1 y2 y3 y4 y5 y6 y7)
  rw [show x3.map encSm = encSt.subs x3 from (encSubs_map x3).symm] at hl
  simp only [encSub, encSt, encTm, List.map_cons, List.map_nil, List.cons_append, List.nil_append]
  simp only [tmV, encTm, List.map_cons, List.map_nil, selT] at hsel
  refine VC_of_fn mixed fn51 (by simp) ?_
  show vwp Tryz.prog 0 vc51 _ [(0, .agg [.d (.str xn), .d (.sl (x1.map encTym)), .d (.sl (x2.map encVam)), .d (.sl (encSt.subs x3)), .d (.sl (encSt.funs x4)), .d (.sl (encSt.sigs x5)), .d (.int .i64 y1), .d (.int .i64 y2), .d (.int .i64 y3), .d (.str y4), .d (.sl (txts y5)), .d (.sl (encTt.encs y6)), .d (.sl (encTm.encs y7))]), (1, .one (.d (.str s)))] []
  unfold vc51
  rw [vwpI_eq]
  simp -implicitDefEqProofs only [kn_run, opsB_leaf, opsB_no, opsB_ro, opsB_alt, wp_opsB, opsW_nil, opsW_cons, again_nil, again_cons, obOf_nil, obOf_cons, wadd, ro, J0, J1, J2, J3, J4, J5, J6, J7, ob_some, ob_none, vbool_eq, vif_tt, vif_ff, vD_bool, vD_int, vD_str, wp_skip, wp_ops, wp_opsW, wp_both, wp_seq, wp_cond, wp_block, wp_exit, wp_ret, th_normal, th_exit, th_ret, bl_normal, bl_ret, bl_exit, ops_nil, ops_cons, go_none, go_some, cond_tt, cond_ff, put_some, put_none, asB, asL, asI, asFn, opd_tmp, opd_int, opd_bool, opd_str, opd_nils, opd_nilp, opd_nilf, opd_func, so_move, so_assign, so_pick, so_box, so_nilCheck, so_not, so_neg, so_makeFunc, so_extract, so_max, so_min, so_call, esc_tmp, esc_func, noescs, J2, bobj_none, lk_cons, nilC_tmp, nilC_int, nilC_bool, nilC_str, nilC_nilp, bt9, bt67, bt67, bt140, so_alloc ti67, so_alloc ti140, so_fieldAddr ti65 rfl, so_fieldAddr ti67 rfl, so_fieldAddr ti140 rfl, so_load ti9, so_load ti39, so_load ti61, so_load ti65, so_store ti67, so_store ti140, so_build ti67, vload, mkV, vstore, vcells, known, toDs, toD, fzLs, fzL, fzOne, AObj.freeze, splice, vfieldAddr, vindexAddr, vbuild, vfill, vbr, vlen, vslice, vbound, opdO, opds, opdPairs, vbin2, vbin, vint, vstr, visNil, visNilP, vfield, vpick, vrowsOf, vcaps, capOk, vrows, fzVs, vapp, vcellsOf, vappendP, vappend, allLen, zok, zrows, vcopy, nil_nils, nil_d, nil_own, arrVer, vundef, gb_b, gb_u, sb_tt, sb_ff, sb_tf, sb_ft, sb_nt, sb_nf, bq_tt, bq_ff, bq_tf, bq_ft, putBack, fzIds, lentVs, lentV, lentLs, lentL, idx, J8, J9, Ja, Jb, Jc, Jd, Je, Jf, Jg, Jh, Ji, Jj, Jk, Jl, Jm, Jn, Jo, Jp, Jq, Jr, Js, Jt, Ju, Jv, Jw, Jx, Jy, Jz, JA, JB, JC, JD, ↓reduceIte, reduceCtorEq, beq_self_eq_true, cond_true, cond_false, true_and, and_true, false_and, and_false, and_self, JE, JF, JG, JH, JI, decide_true, decide_false, decide_eq_true_eq, decide_eq_false_iff_not, beq_iff_eq, bne_iff_ne, beq_eq_false_iff_ne, bne_eq_false_iff_eq, JJ, eq_self, forall_const, not_true_eq_false, not_false_eq_true, ne_eq, false_implies, implies_true, true_implies, JK, JL, JM, JN, JO, gt_iff_lt, ge_iff_le]
  cases e : lastOf (·.1) x3 s with
  | none =>
    rw [e] at hl
    simp only [nearR, zSm] at hl
    refine callS [1] (hl) rfl rfl rfl ?_
    rintro _ _ ⟨rfl, rfl⟩
    refine ⟨_, _, rfl, ?_⟩
    simp -implicitDefEqProofs only [kn_run, opsB_leaf, opsB_no, opsB_ro, opsB_alt, wp_opsB, opsW_nil, opsW_cons, again_nil, again_cons, obOf_nil, obOf_cons, wadd, ro, J0, J1, J2, J3, J4, J5, J6, J7, ob_some, ob_none, vbool_eq, vif_tt, vif_ff, vD_bool, vD_int, vD_str, wp_skip, wp_ops, wp_opsW, wp_both, wp_seq, wp_cond, wp_block, wp_exit, wp_ret, th_normal, th_exit, th_ret, bl_normal, bl_ret, bl_exit, ops_nil, ops_cons, go_none, go_some, cond_tt, cond_ff, put_some, put_none, asB, asL, asI, asFn, opd_tmp, opd_int, opd_bool, opd_str, opd_nils, opd_nilp, opd_nilf, opd_func, so_move, so_assign, so_pick, so_box, so_nilCheck, so_not, so_neg, so_makeFunc, so_extract, so_max, so_min, so_call, esc_tmp, esc_func, noescs, J2, bobj_none, lk_cons, nilC_tmp, nilC_int, nilC_bool, nilC_str, nilC_nilp, bt9, bt67, bt67, bt140, so_alloc ti67, so_alloc ti140, so_fieldAddr ti65 rfl, so_fieldAddr ti67 rfl, so_fieldAddr ti140 rfl, so_load ti9, so_load ti39, so_load ti61, so_load ti65, so_store ti67, so_store ti140, so_build ti67, vload, mkV, vstore, vcells, known, toDs, toD, fzLs, fzL, fzOne, AObj.freeze, splice, vfieldAddr, vindexAddr, vbuild, vfill, vbr, vlen, vslice, vbound, opdO, opds, opdPairs, vbin2, vbin, vint, vstr, visNil, visNilP, vfield, vpick, vrowsOf, vcaps, capOk, vrows, fzVs, vapp, vcellsOf, vappendP, vappend, allLen, zok, zrows, vcopy, nil_nils, nil_d, nil_own, arrVer, vundef, gb_b, gb_u, sb_tt, sb_ff, sb_tf, sb_ft, sb_nt, sb_nf, bq_tt, bq_ff, bq_tf, bq_ft, putBack, fzIds, lentVs, lentV, lentLs, lentL, idx, J8, J9, Ja, Jb, Jc, Jd, Je, Jf, Jg, Jh, Ji, Jj, Jk, Jl, Jm, Jn, Jo, Jp, Jq, Jr, Js, Jt, Ju, Jv, Jw, Jx, Jy, Jz, JA, JB, JC, JD, ↓reduceIte, reduceCtorEq, beq_self_eq_true, cond_true, cond_false, true_and, and_true, false_and, and_false, and_self, JE, JF, JG, JH, JI, decide_true, decide_false, decide_eq_true_eq, decide_eq_false_iff_not, beq_iff_eq, bne_iff_ne, beq_eq_false_iff_ne, bne_eq_false_iff_eq, JJ, eq_self, forall_const, not_true_eq_false, not_false_eq_true, ne_eq, false_implies, implies_true, true_implies, JK, JL, JM, JN, JO, gt_iff_lt, ge_iff_le]
    refine callS [] (hsel) rfl rfl rfl ?_
    rintro _ _ ⟨rfl, rfl⟩
    refine ⟨_, _, rfl, ?_⟩
    simp -implicitDefEqProofs only [kn_run, opsB_leaf, opsB_no, opsB_ro, opsB_alt, wp_opsB, opsW_nil, opsW_cons, again_nil, again_cons, obOf_nil, obOf_cons, wadd, ro, J0, J1, J2, J3, J4, J5, J6, J7, ob_some, ob_none, vbool_eq, vif_tt, vif_ff, vD_bool, vD_int, vD_str, wp_skip, wp_ops, wp_opsW, wp_both, wp_seq, wp_cond, wp_block, wp_exit, wp_ret, th_normal, th_exit, th_ret, bl_normal, bl_ret, bl_exit, ops_nil, ops_cons, go_none, go_some, cond_tt, cond_ff, put_some, put_none, asB, asL, asI, asFn, opd_tmp, opd_int, opd_bool, opd_str, opd_nils, opd_nilp, opd_nilf, opd_func, so_move, so_assign, so_pick, so_box, so_nilCheck, so_not, so_neg, so_makeFunc, so_extract, so_max, so_min, so_call, esc_tmp, esc_func, noescs, J2, bobj_none, lk_cons, nilC_tmp, nilC_int, nilC_bool, nilC_str, nilC_nilp, bt9, bt67, bt67, bt140, so_alloc ti67, so_alloc ti140, so_fieldAddr ti65 rfl, so_fieldAddr ti67 rfl, so_fieldAddr ti140 rfl, so_load ti9, so_load ti39, so_load ti61, so_load ti65, so_store ti67, so_store ti140, so_build ti67, vload, mkV, vstore, vcells, known, toDs, toD, fzLs, fzL, fzOne, AObj.freeze, splice, vfieldAddr, vindexAddr, vbuild, vfill, vbr, vlen, vslice, vbound, opdO, opds, opdPairs, vbin2, vbin, vint, vstr, visNil, visNilP, vfield, vpick, vrowsOf, vcaps, capOk, vrows, fzVs, vapp, vcellsOf, vappendP, vappend, allLen, zok, zrows, vcopy, nil_nils, nil_d, nil_own, arrVer, vundef, gb_b, gb_u, sb_tt, sb_ff, sb_tf, sb_ft, sb_nt, sb_nf, bq_tt, bq_ff, bq_tf, bq_ft, putBack, fzIds, lentVs, lentV, lentLs, lentL, idx, J8, J9, Ja, Jb, Jc, Jd, Je, Jf, Jg, Jh, Ji, Jj, Jk, Jl, Jm, Jn, Jo, Jp, Jq, Jr, Js, Jt, Ju, Jv, Jw, Jx, Jy, Jz, JA, JB, JC, JD, ↓reduceIte, reduceCtorEq, beq_self_eq_true, cond_true, cond_false, true_and, and_true, false_and, and_false, and_self, JE, JF, JG, JH, JI, decide_true, decide_false, decide_eq_true_eq, decide_eq_false_iff_not, beq_iff_eq, bne_iff_ne, beq_eq_false_iff_ne, bne_eq_false_iff_eq, JJ, eq_self, forall_const, not_true_eq_false, not_false_eq_true, ne_eq, false_implies, implies_true, true_implies, JK, JL, JM, JN, JO, gt_iff_lt, ge_iff_le]
    apply vend_of []; rfl; rfl
    rw [show farSub s (xn, .mk x1 x2 x3 x4 x5, .mk y1 y2 y3 y4 y5 y6 y7) = none by simp [farSub, Stx.subs, e]]
    exact ⟨⟨_, _, rfl, rfl, fun _ => rfl, rfl⟩, rfl⟩
  | some m =>
    rw [e] at hl
    obtain ⟨mn, ⟨m1, m2, m3, m4, m5⟩⟩ := m
    simp only [nearR, encSm, encSt, List.map_cons, List.map_nil] at hl
    refine callS [1] (hl) rfl rfl rfl ?_
    rintro _ _ ⟨rfl, rfl⟩
    refine ⟨_, _, rfl, ?_⟩
    simp -implicitDefEqProofs only [kn_run, opsB_leaf, opsB_no, opsB_ro, opsB_alt, wp_opsB, opsW_nil, opsW_cons, again_nil, again_cons, obOf_nil, obOf_cons, wadd, ro, J0, J1, J2, J3, J4, J5, J6, J7, ob_some, ob_none, vbool_eq, vif_tt, vif_ff, vD_bool, vD_int, vD_str, wp_skip, wp_ops, wp_opsW, wp_both, wp_seq, wp_cond, wp_block, wp_exit, wp_ret, th_normal, th_exit, th_ret, bl_normal, bl_ret, bl_exit, ops_nil, ops_cons, go_none, go_some, cond_tt, cond_ff, put_some, put_none, asB, asL, asI, asFn, opd_tmp, opd_int, opd_bool, opd_str, opd_nils, opd_nilp, opd_nilf, opd_func, so_move, so_assign, so_pick, so_box, so_nilCheck, so_not, so_neg, so_makeFunc, so_extract, so_max, so_min, so_call, esc_tmp, esc_func, noescs, J2, bobj_none, lk_cons, nilC_tmp, nilC_int, nilC_bool, nilC_str, nilC_nilp, bt9, bt67, bt67, bt140, so_alloc ti67, so_alloc ti140, so_fieldAddr ti65 rfl, so_fieldAddr ti67 rfl, so_fieldAddr ti140 rfl, so_load ti9, so_load ti39, so_load ti61, so_load ti65, so_store ti67, so_store ti140, so_build ti67, vload, mkV, vstore, vcells, known, toDs, toD, fzLs, fzL, fzOne, AObj.freeze, splice, vfieldAddr, vindexAddr, vbuild, vfill, vbr, vlen, vslice, vbound, opdO, opds, opdPairs, vbin2, vbin, vint, vstr, visNil, visNilP, vfield, vpick, vrowsOf, vcaps, capOk, vrows, fzVs, vapp, vcellsOf, vappendP, vappend, allLen, zok, zrows, vcopy, nil_nils, nil_d, nil_own, arrVer, vundef, gb_b, gb_u, sb_tt, sb_ff, sb_tf, sb_ft, sb_nt, sb_nf, bq_tt, bq_ff, bq_tf, bq_ft, putBack, fzIds, lentVs, lentV, lentLs, lentL, idx, J8, J9, Ja, Jb, Jc, Jd, Je, Jf, Jg, Jh, Ji, Jj, Jk, Jl, Jm, Jn, Jo, Jp, Jq, Jr, Js, Jt, Ju, Jv, Jw, Jx, Jy, Jz, JA, JB, JC, JD, ↓reduceIte, reduceCtorEq, beq_self_eq_true, cond_true, cond_false, true_and, and_true, false_and, and_false, and_self, JE, JF, JG, JH, JI, decide_true, decide_false, decide_eq_true_eq, decide_eq_false_iff_not, beq_iff_eq, bne_iff_ne, beq_eq_false_iff_ne, bne_eq_false_iff_eq, JJ, eq_self, forall_const, not_true_eq_false, not_false_eq_true, ne_eq, false_implies, implies_true, true_implies, JK, JL, JM, JN, JO, gt_iff_lt, ge_iff_le]
    refine callS [] (hsel) rfl rfl rfl ?_
    rintro _ _ ⟨rfl, rfl⟩
    refine ⟨_, _, rfl, ?_⟩
    simp -implicitDefEqProofs only [kn_run, opsB_leaf, opsB_no, opsB_ro, opsB_alt, wp_opsB, opsW_nil, opsW_cons, again_nil, again_cons, obOf_nil, obOf_cons, wadd, ro, J0, J1, J2, J3, J4, J5, J6, J7, ob_some, ob_none, vbool_eq, vif_tt, vif_ff, vD_bool, vD_int, vD_str, wp_skip, wp_ops, wp_opsW, wp_both, wp_seq, wp_cond, wp_block, wp_exit, wp_ret, th_normal, th_exit, th_ret, bl_normal, bl_ret, bl_exit, ops_nil, ops_cons, go_none, go_some, cond_tt, cond_ff, put_some, put_none, asB, asL, asI, asFn, opd_tmp, opd_int, opd_bool, opd_str, opd_nils, opd_nilp, opd_nilf, opd_func, so_move, so_assign, so_pick, so_box, so_nilCheck, so_not, so_neg, so_makeFunc, so_extract, so_max, so_min, so_call, esc_tmp, esc_func, noescs, J2, bobj_none, lk_cons, nilC_tmp, nilC_int, nilC_bool, nilC_str, nilC_nilp, bt9, bt67, bt67, bt140, so_alloc ti67, so_alloc ti140, so_fieldAddr ti65 rfl, so_fieldAddr ti67 rfl, so_fieldAddr ti140 rfl, so_load ti9, so_load ti39, so_load ti61, so_load ti65, so_store ti67, so_store ti140, so_build ti67, vload, mkV, vstore, vcells, known, toDs, toD, fzLs, fzL, fzOne, AObj.freeze, splice, vfieldAddr, vindexAddr, vbuild, vfill, vbr, vlen, vslice, vbound, opdO, opds, opdPairs, vbin2, vbin, vint, vstr, visNil, visNilP, vfield, vpick, vrowsOf, vcaps, capOk, vrows, fzVs, vapp, vcellsOf, vappendP, vappend, allLen, zok, zrows, vcopy, nil_nils, nil_d, nil_own, arrVer, vundef, gb_b, gb_u, sb_tt, sb_ff, sb_tf, sb_ft, sb_nt, sb_nf, bq_tt, bq_ff, bq_tf, bq_ft, putBack, fzIds, lentVs, lentV, lentLs, lentL, idx, J8, J9, Ja, Jb, Jc, Jd, Je, Jf, Jg, Jh, Ji, Jj, Jk, Jl, Jm, Jn, Jo, Jp, Jq, Jr, Js, Jt, Ju, Jv, Jw, Jx, Jy, Jz, JA, JB, JC, JD, ↓reduceIte, reduceCtorEq, beq_self_eq_true, cond_true, cond_false, true_and, and_true, false_and, and_false, and_self, JE, JF, JG, JH, JI, decide_true, decide_false, decide_eq_true_eq, decide_eq_false_iff_not, beq_iff_eq, bne_iff_ne, beq_eq_false_iff_ne, bne_eq_false_iff_eq, JJ, eq_self, forall_const, not_true_eq_false, not_false_eq_true, ne_eq, false_implies, implies_true, true_implies, JK, JL, JM, JN, JO, gt_iff_lt, ge_iff_le]
    apply vend_of []; rfl; rfl
    rw [show farSub s (xn, .mk x1 x2 x3 x4 x5, .mk y1 y2 y3 y4 y5 y6 y7) = some (s, .mk m1 m2 m3 m4 m5, selT s (.mk y1 y2 y3 y4 y5 y6 y7)) by simp [farSub, Stx.subs, e]]
    exact ⟨⟨_, _, rfl, rfl, fun _ => rfl, rfl, rfl⟩, rfl⟩

/-- The structure at a path. -/
def subAt (subs : List SubE) : List ByteArray → Option SubE
  | [] => none
  | [s] => lastOf (·.1) subs s
  | s :: t :: r => (subAt subs (t :: r)).bind (farSub s)

theorem lookS_rev {α : Type} (subs : List SubE) (near : Option α) (far : ByteArray → SubE → Option α) : ∀ p : List ByteArray, lookS p.reverse near (subAt subs p.tail) (far (p.reverse.getLastD ByteArray.empty)) = match p with | [] => none | [_] => near | s :: r => (subAt subs r).bind (far s)
  | [] => rfl
  | [s] => rfl
  | s :: t :: r => by
    have h1 : (s :: t :: r).reverse.getLastD ByteArray.empty = s := by simp [List.getLastD_eq_getLast?]
    rw [h1]
    have h2 : 2 ≤ ((s :: t :: r).reverse).length := by simp
    generalize (s :: t :: r).reverse = q at h2
    rcases q with _ | ⟨a, _ | ⟨b, c⟩⟩
    · simp at h2
    · simp at h2
    · rfl

/-! ### How great it is -/

def sumN {α : Type} (f : α → Nat) : List α → Nat
  | [] => 0
  | a :: r => f a + sumN f r
theorem sumN_mem {α : Type} {f : α → Nat} : ∀ {l : List α} {a : α}, a ∈ l → f a ≤ sumN f l
  | b :: r, a, h => by
    rcases List.mem_cons.1 h with rfl | h
    · simp [sumN]
    · have := sumN_mem (f := f) h; simp only [sumN]; omega
theorem sumN_length {α : Type} {f : α → Nat} (hf : ∀ a, 1 ≤ f a) : ∀ l : List α, l.length ≤ sumN f l
  | [] => Nat.le_refl _
  | a :: r => by have := sumN_length hf r; have := hf a; simp only [sumN, List.length_cons]; omega

def ctn (c : Ct) : Nat := 1 + tyn.go c.args
def tymn (m : Tym) : Nat := 1 + tyn m.t + sumN ctn m.cts
def vamn (m : Vam) : Nat := 1 + tyn m.s.t
def stn : Stx → Nat
  | .mk ts vs ss fs gs => 1 + sumN tymn ts + sumN vamn vs + goS ss + goF fs + goG gs
  where
  goS : List (ByteArray × Stx) → Nat
    | [] => 0
    | (_, x) :: r => 1 + stn x + goS r
  goF : List (ByteArray × List Int × Stx × List Int × Stx) → Nat
    | [] => 0
    | (_, l, x, m, y) :: r => 1 + l.length + stn x + m.length + stn y + goF r
  goG : List (ByteArray × List Int × Stx) → Nat
    | [] => 0
    | (_, l, x) :: r => 1 + l.length + stn x + goG r

theorem stn_mem : ∀ {l : List (ByteArray × Stx)} {m : ByteArray × Stx}, m ∈ l → stn m.2 ≤ stn.goS l
  | (a, b) :: r, m, h => by
    rcases List.mem_cons.1 h with rfl | h
    · simp [stn.goS]; omega
    · have := stn_mem h; simp only [stn.goS]; omega
theorem stn_memF : ∀ {l : List (ByteArray × List Int × Stx × List Int × Stx)} {m : ByteArray × List Int × Stx × List Int × Stx}, m ∈ l → m.2.1.length + stn m.2.2.1 + m.2.2.2.1.length + stn m.2.2.2.2 ≤ stn.goF l
  | (a, b, c, d, e) :: r, m, h => by
    rcases List.mem_cons.1 h with rfl | h
    · simp [stn.goF]; omega
    · have := stn_memF h; simp only [stn.goF]; omega
theorem stn_memG : ∀ {l : List (ByteArray × List Int × Stx)} {m : ByteArray × List Int × Stx}, m ∈ l → m.2.1.length + stn m.2.2 ≤ stn.goG l
  | (a, b, c) :: r, m, h => by
    rcases List.mem_cons.1 h with rfl | h
    · simp [stn.goG]; omega
    · have := stn_memG h; simp only [stn.goG]; omega
theorem goS_length : ∀ l : List (ByteArray × Stx), l.length ≤ stn.goS l
  | [] => Nat.le_refl _
  | (a, b) :: r => by have := goS_length r; simp only [stn.goS, List.length_cons]; omega
theorem goF_length : ∀ l : List (ByteArray × List Int × Stx × List Int × Stx), l.length ≤ stn.goF l
  | [] => Nat.le_refl _
  | (a, b, c, d, e) :: r => by have := goF_length r; simp only [stn.goF, List.length_cons]; omega
theorem goG_length : ∀ l : List (ByteArray × List Int × Stx), l.length ≤ stn.goG l
  | [] => Nat.le_refl _
  | (a, b, c) :: r => by have := goG_length r; simp only [stn.goG, List.length_cons]; omega

theorem lastOf_mem {α : Type} {nm : α → ByteArray} {l : List α} {s : ByteArray} {a : α} (h : lastOf nm l s = some a) : a ∈ l ∧ nm a = s := by
  unfold lastOf at h
  refine ⟨List.mem_reverse.1 (List.mem_of_find?_eq_some h), ?_⟩
  have := List.find?_some h
  simpa using this

theorem subAt_small {subs : List SubE} {B : Nat} (hB : ∀ x ∈ subs, stn x.2.1 ≤ B) : ∀ (p : List ByteArray) (x : SubE), subAt subs p = some x → stn x.2.1 ≤ B
  | [], _, h => by cases h
  | [s], x, h => hB x (lastOf_mem h).1
  | s :: t :: r, x, h => by
    unfold subAt at h
    cases e : subAt subs (t :: r) with
    | none => rw [e] at h; cases h
    | some y =>
      rw [e] at h
      have hy := subAt_small hB (t :: r) y e
      simp only [Option.bind_some, farSub] at h
      cases e2 : lastOf (·.1) y.2.1.subs s with
      | none => rw [e2] at h; cases h
      | some m =>
        rw [e2] at h
        cases h
        have hm := stn_mem (lastOf_mem e2).1
        obtain ⟨yn, ⟨a, b, c, d, f⟩, yt⟩ := y
        simp only [stn, Stx.subs] at hy hm ⊢
        omega

theorem subs_small {x : Stx} {B : Nat} (h : stn x ≤ B) : x.subs.length ≤ B ∧ x.vals.length ≤ B ∧ x.types.length ≤ B ∧ x.funs.length ≤ B ∧ x.sigs.length ≤ B := by
  obtain ⟨a, b, c, d, e⟩ := x
  simp only [stn] at h
  simp only [Stx.subs, Stx.vals, Stx.types, Stx.funs, Stx.sigs]
  have h1 := sumN_length (f := tymn) (fun m => by simp [tymn]; omega) a
  have h2 := sumN_length (f := vamn) (fun m => by simp [vamn]) b
  have h3 := goS_length c
  have h4 := goF_length d
  have h5 := goG_length e
  omega

/-- **The structure at a path.** -/
theorem vc_Sub {d0 d1 d2 d4 d5 : D} {subs : List SubE} (hl : subs.length < 1000000000) (hB : ∀ x ∈ subs, stn x.2.1 ≤ 999999990) : ∀ p : List ByteArray, p.length < 1000000000 →
    VC Tryz.prog 14 [.agg [.d d0, .d d1, .d d2, .d (.sl (subs.map encSub)), .d d4, .d d5], .one (.d (.sl (txts p.reverse)))] [] fun r h' => r = resR encSub zSub (subAt subs p) ∧ h' = [] := by
  intro p
  induction p with
  | nil =>
    intro hp
    exact vc_wholeG kndSub lst49 kinSub [] hp subs hl rfl (subAt subs []) (fun h => by simp at h) farSub (fun x s h => by cases h)
  | cons s r ih =>
    intro hp
    simp only [List.length_cons] at hp
    have ih := ih (by omega)
    have := vc_wholeG (d0 := d0) (d1 := d1) (d2 := d2) (d4 := d4) (d5 := d5) kndSub lst49 kinSub (s :: r).reverse (by simpa using hp) subs hl rfl (subAt subs r) (fun _ => by
      rw [show (s :: r).reverse.dropLast = r.reverse by simp]
      exact ih) farSub (fun x s h => vc_farSub x s (by have := (subs_small (subAt_small hB r x h)).1; omega))
    rw [show lookS (s :: r).reverse (lastOf (·.1) subs ((s :: r).reverse.headD ByteArray.empty)) (subAt subs r) (farSub ((s :: r).reverse.getLastD ByteArray.empty)) = subAt subs (s :: r) from ?_] at this
    · exact this
    · have := lookS_rev subs (lastOf (·.1) subs ((s :: r).reverse.headD ByteArray.empty)) farSub (s :: r)
      simp only [List.tail_cons] at this
      rw [this]
      cases r with
      | nil => rfl
      | cons t r => rfl

end Go.Vt.Tryz
