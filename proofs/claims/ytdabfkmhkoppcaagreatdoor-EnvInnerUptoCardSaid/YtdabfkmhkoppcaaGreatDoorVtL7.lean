/- The environment: values and types at a path. -/
import Derived.Test.YtdabfkmhkoppcaaGreatDoorVtL6
set_option maxRecDepth 100000
set_option linter.unusedSimpArgs false
namespace Go.Vt.Tryz
open List renaming any_cons → J0, any_nil → J1, contains_cons → J2, contains_nil → J3, lookup_nil → J8, getElem?_cons_zero → J9, getElem?_cons_succ → Ja, getElem?_nil → Jb, take_succ_cons → Jc, take_zero → Jd, take_nil → Je, drop_succ_cons → Jf, drop_zero → Jg, drop_nil → Jh, length_cons → Ji, length_nil → Jj, append_nil → Jk, nil_append → Jl, cons_append → Jm, map_cons → Jn, map_nil → Jo, set_cons_zero → Jp, set_cons_succ → Jq, set_nil → Jr, all_cons → Js, all_nil → Jt, map_append → Ju
open Bool renaming or_true → J4, true_or → J5, or_false → J6, false_or → J7, and_true → Jv, true_and → Jw, false_eq_true → JJ, not_true → JK, not_false → JL
open Nat renaming reduceBEq → Jx, reduceEqDiff → Jy, reduceLT → Jz, reduceLeDiff → JA, reduceAdd → JB, reduceMul → JC, reduceSub → JD, zero_add → JM, le_refl → JN, add_zero → JO
open Option renaming map_some → JE, map_none → JF, bind_some → JG, bind_none → JH, isSome_some → JI
open Go.Proofs

/-- What stands at a path (its last name first). -/
def atP {α : Type} (nm : α → ByteArray) (l : List α) (subs : List SubE) (far : ByteArray → SubE → Option α) : List ByteArray → Option α
  | [] => none
  | [s] => lastOf nm l s
  | s :: t :: r => (subAt subs (t :: r)).bind (far s)

section
variable {α : Type} {enc : α → List D} {nm : α → ByteArray} {k : Nat} {tS tE tF : TypeId} {fl fB fI : FuncId} {zs : List L} {d0 d1 d2 d4 d5 : D}

theorem vc_At {tN tR : TypeId} {fc fn fo ff fv : FuncId} {j : Nat} (hk : Knd α enc nm k) (H : Lst tS tE tF fl fB fI k zs) (Q : Kin tS tE tF tN tR fl fB fI fc fn fo ff fv j)
    (l : List α) (hl : l.length < 1000000000) {subs : List SubE} (hs : subs.length < 1000000000) (hB : ∀ x ∈ subs, stn x.2.1 ≤ 999999990) (hj : [L.d d0, .d d1, .d d2, .d (.sl (subs.map encSub)), .d d4, .d d5][j]? = some (.d (.sl (l.map enc))))
    (far : ByteArray → SubE → Option α) (hfar : ∀ x s, stn x.2.1 ≤ 999999990 → VC Tryz.prog ff [.agg ((encSub x).map .d), .one (.d (.str s))] [] fun r h' => FarR enc k (far s x) r ∧ h' = []) (p : List ByteArray) (hp : p.length < 1000000000) :
    VC Tryz.prog fv [.agg [.d d0, .d d1, .d d2, .d (.sl (subs.map encSub)), .d d4, .d d5], .one (.d (.sl (txts p.reverse)))] [] fun r h' => r = resR enc zs (atP nm l subs far p) ∧ h' = [] := by
  have := vc_wholeG (d0 := d0) (d1 := d1) (d2 := d2) (d3 := .sl (subs.map encSub)) (d4 := d4) (d5 := d5) hk H Q p.reverse (by simpa using hp) l hl hj (subAt subs p.tail) (fun _ => by
    rw [show p.reverse.dropLast = p.tail.reverse by cases p <;> simp]
    exact vc_Sub hs hB p.tail (by rw [List.length_tail]; omega)) far (fun x s h => hfar x s (subAt_small hB p.tail x h))
  rw [lookS_rev subs (lastOf nm l (p.reverse.headD ByteArray.empty)) far p] at this
  rcases p with _ | ⟨s, _ | ⟨t, r⟩⟩
  · exact this
  · exact this
  · exact this
end

/-! ### Values -/

abbrev ValE := ByteArray × Sc × Tm
def encVal (x : ValE) : List D := .str x.1 :: (encSc x.2.1 ++ encTm x.2.2)
theorem kndVal : Knd ValE encVal (·.1) 12 := ⟨fun a => ⟨_, rfl⟩, fun a => by obtain ⟨n, ⟨a, ⟨b, c, d⟩⟩, ⟨f, g, h, i, j, k, l⟩⟩ := a; rfl⟩
theorem kndVam : Knd Vam encVam (·.name) 5 := ⟨fun a => ⟨_, rfl⟩, fun a => by obtain ⟨n, ⟨a, ⟨b, c, d⟩⟩⟩ := a; rfl⟩
def farVal (s : ByteArray) (x : SubE) : Option ValE := (lastOf (·.name) x.2.1.vals s).map fun m => (s, m.s, selT s x.2.2)

def z39 : List L := [L.d (D.str (ByteArray.mk (Array.mk []))), L.d (D.int IntKind.i64 (0)), L.d (D.int IntKind.i64 (0)), L.d (D.int IntKind.i64 (0)), L.nils, L.d (D.int IntKind.i64 (0)), L.d (D.int IntKind.i64 (0)), L.d (D.int IntKind.i64 (0)), L.d (D.str (ByteArray.mk (Array.mk []))), L.nils, L.nils, L.nils]
theorem lst39 : Lst 45 42 123 39 112 168 12 z39 where
  S := ⟨_, _, _, ti45, rfl⟩
  E := ⟨_, _, ti42, rfl⟩
  F := ⟨_, ti123⟩
  bS := bt45
  bE := bt42
  bF := bt123
  last := fn39
  back := fn112
  itr := ⟨Tryz.f168, _, Tryz.func168, rfl, rfl, rfl, by kernel_rfl, by kernel_rfl, rfl⟩
  nB := by kernel_rfl
  zl := rfl
  zr := fun _ => rfl
  zd := fun _ _ => rfl

def z42 : List L := [L.d (D.str (ByteArray.mk (Array.mk []))), L.d (D.int IntKind.i64 (0)), L.d (D.int IntKind.i64 (0)), L.d (D.int IntKind.i64 (0)), L.nils]
theorem lst42 : Lst 60 126 129 42 113 169 5 z42 where
  S := ⟨_, _, _, ti60, rfl⟩
  E := ⟨_, _, ti126, rfl⟩
  F := ⟨_, ti129⟩
  bS := bt60
  bE := bt126
  bF := bt129
  last := fn42
  back := fn113
  itr := ⟨Tryz.f169, _, Tryz.func169, rfl, rfl, rfl, by kernel_rfl, by kernel_rfl, rfl⟩
  nB := by kernel_rfl
  zl := rfl
  zr := fun _ => rfl
  zd := fun _ _ => rfl

theorem kinVal : Kin 45 42 123 124 131 39 112 168 40 38 37 41 10 0 where
  eq := fn40
  near := fn38
  look := fn37
  whole := fn10
  nl := by kernel_rfl
  no := by kernel_rfl

theorem vc_farVal (x : SubE) (s : ByteArray) (hx : stn x.2.1 ≤ 999999990) : VC Tryz.prog 41 [.agg ((encSub x).map .d), .one (.d (.str s))] [] fun r h' => FarR encVal 12 (farVal s x) r ∧ h' = [] := by
  have hx := (subs_small hx).2.1
  obtain ⟨xn, ⟨x1, x2, x3, x4, x5⟩, ⟨y1, y2, y3, y4, y5, y6, y7⟩⟩ := x
  have hl := vc_lastN kndVam lst42 fn43 x2 (by simp only [Stx.subs, Stx.vals, Stx.types, Stx.funs, Stx.sigs] at hx; omega) s
  simp only [encSub, encSt, encTm, List.map_cons, List.map_nil, List.cons_append, List.nil_append]
  have hsel := vc_sel s (.mk y1 y2 y3 y4 y5 y6 y7)
  simp only [tmV, encTm, List.map_cons, List.map_nil, selT] at hsel
  refine VC_of_fn mixed fn41 (by simp) ?_
  show vwp Tryz.prog 0 vc41 _ [(0, .agg [.d (.str xn), .d (.sl (x1.map encTym)), .d (.sl (x2.map encVam)), .d (.sl (encSt.subs x3)), .d (.sl (encSt.funs x4)), .d (.sl (encSt.sigs x5)), .d (.int .i64 y1), .d (.int .i64 y2), .d (.int .i64 y3), .d (.str y4), .d (.sl (txts y5)), .d (.sl (encTt.encs y6)), .d (.sl (encTm.encs y7))]), (1, .one (.d (.str s)))] []
  unfold vc41
  rw [vwpI_eq]
  simp -implicitDefEqProofs only [kn_run, opsB_leaf, opsB_no, opsB_ro, opsB_alt, wp_opsB, opsW_nil, opsW_cons, again_nil, again_cons, obOf_nil, obOf_cons, wadd, ro, J0, J1, J2, J3, J4, J5, J6, J7, ob_some, ob_none, vbool_eq, vif_tt, vif_ff, vD_bool, vD_int, vD_str, wp_skip, wp_ops, wp_opsW, wp_both, wp_seq, wp_cond, wp_block, wp_exit, wp_ret, th_normal, th_exit, th_ret, bl_normal, bl_ret, bl_exit, ops_nil, ops_cons, go_none, go_some, cond_tt, cond_ff, put_some, put_none, asB, asL, asI, asFn, opd_tmp, opd_int, opd_bool, opd_str, opd_nils, opd_nilp, opd_nilf, opd_func, so_move, so_assign, so_pick, so_box, so_nilCheck, so_not, so_neg, so_makeFunc, so_extract, so_max, so_min, so_call, esc_tmp, esc_func, noescs, J2, bobj_none, lk_cons, nilC_tmp, nilC_int, nilC_bool, nilC_str, nilC_nilp, bt9, bt67, bt42, bt126, so_alloc ti42, so_alloc ti126, so_fieldAddr ti65 rfl, so_fieldAddr ti67 rfl, so_fieldAddr ti126 rfl, so_load ti9, so_load ti34, so_load ti39, so_load ti60, so_store ti42, so_store ti126, so_build ti42, vload, mkV, vstore, vcells, known, toDs, toD, fzLs, fzL, fzOne, AObj.freeze, splice, vfieldAddr, vindexAddr, vbuild, vfill, vbr, vlen, vslice, vbound, opdO, opds, opdPairs, vbin2, vbin, vint, vstr, visNil, visNilP, vfield, vpick, vrowsOf, vcaps, capOk, vrows, fzVs, vapp, vcellsOf, vappendP, vappend, allLen, zok, zrows, vcopy, nil_nils, nil_d, nil_own, arrVer, vundef, gb_b, gb_u, sb_tt, sb_ff, sb_tf, sb_ft, sb_nt, sb_nf, bq_tt, bq_ff, bq_tf, bq_ft, putBack, fzIds, lentVs, lentV, lentLs, lentL, idx, J8, J9, Ja, Jb, Jc, Jd, Je, Jf, Jg, Jh, Ji, Jj, Jk, Jl, Jm, Jn, Jo, Jp, Jq, Jr, Js, Jt, Ju, Jv, Jw, Jx, Jy, Jz, JA, JB, JC, JD, ↓reduceIte, reduceCtorEq, beq_self_eq_true, cond_true, cond_false, true_and, and_true, false_and, and_false, and_self, JE, JF, JG, JH, JI, decide_true, decide_false, decide_eq_true_eq, decide_eq_false_iff_not, beq_iff_eq, bne_iff_ne, beq_eq_false_iff_ne, bne_eq_false_iff_eq, JJ, eq_self, forall_const, not_true_eq_false, not_false_eq_true, ne_eq, false_implies, implies_true, true_implies, JK, JL, JM, JN, JO, gt_iff_lt, ge_iff_le]
  cases e : lastOf (·.name) x2 s with
  | none =>
    rw [e] at hl
    simp only [nearR, z42] at hl
    refine callS [1] (hl) rfl rfl rfl ?_
    rintro _ _ ⟨rfl, rfl⟩
    refine ⟨_, _, rfl, ?_⟩
    simp -implicitDefEqProofs only [kn_run, opsB_leaf, opsB_no, opsB_ro, opsB_alt, wp_opsB, opsW_nil, opsW_cons, again_nil, again_cons, obOf_nil, obOf_cons, wadd, ro, J0, J1, J2, J3, J4, J5, J6, J7, ob_some, ob_none, vbool_eq, vif_tt, vif_ff, vD_bool, vD_int, vD_str, wp_skip, wp_ops, wp_opsW, wp_both, wp_seq, wp_cond, wp_block, wp_exit, wp_ret, th_normal, th_exit, th_ret, bl_normal, bl_ret, bl_exit, ops_nil, ops_cons, go_none, go_some, cond_tt, cond_ff, put_some, put_none, asB, asL, asI, asFn, opd_tmp, opd_int, opd_bool, opd_str, opd_nils, opd_nilp, opd_nilf, opd_func, so_move, so_assign, so_pick, so_box, so_nilCheck, so_not, so_neg, so_makeFunc, so_extract, so_max, so_min, so_call, esc_tmp, esc_func, noescs, J2, bobj_none, lk_cons, nilC_tmp, nilC_int, nilC_bool, nilC_str, nilC_nilp, bt9, bt67, bt42, bt126, so_alloc ti42, so_alloc ti126, so_fieldAddr ti65 rfl, so_fieldAddr ti67 rfl, so_fieldAddr ti126 rfl, so_load ti9, so_load ti34, so_load ti39, so_load ti60, so_store ti42, so_store ti126, so_build ti42, vload, mkV, vstore, vcells, known, toDs, toD, fzLs, fzL, fzOne, AObj.freeze, splice, vfieldAddr, vindexAddr, vbuild, vfill, vbr, vlen, vslice, vbound, opdO, opds, opdPairs, vbin2, vbin, vint, vstr, visNil, visNilP, vfield, vpick, vrowsOf, vcaps, capOk, vrows, fzVs, vapp, vcellsOf, vappendP, vappend, allLen, zok, zrows, vcopy, nil_nils, nil_d, nil_own, arrVer, vundef, gb_b, gb_u, sb_tt, sb_ff, sb_tf, sb_ft, sb_nt, sb_nf, bq_tt, bq_ff, bq_tf, bq_ft, putBack, fzIds, lentVs, lentV, lentLs, lentL, idx, J8, J9, Ja, Jb, Jc, Jd, Je, Jf, Jg, Jh, Ji, Jj, Jk, Jl, Jm, Jn, Jo, Jp, Jq, Jr, Js, Jt, Ju, Jv, Jw, Jx, Jy, Jz, JA, JB, JC, JD, ↓reduceIte, reduceCtorEq, beq_self_eq_true, cond_true, cond_false, true_and, and_true, false_and, and_false, and_self, JE, JF, JG, JH, JI, decide_true, decide_false, decide_eq_true_eq, decide_eq_false_iff_not, beq_iff_eq, bne_iff_ne, beq_eq_false_iff_ne, bne_eq_false_iff_eq, JJ, eq_self, forall_const, not_true_eq_false, not_false_eq_true, ne_eq, false_implies, implies_true, true_implies, JK, JL, JM, JN, JO, gt_iff_lt, ge_iff_le]
    refine callS [] (hsel) rfl rfl rfl ?_
    rintro _ _ ⟨rfl, rfl⟩
    refine ⟨_, _, rfl, ?_⟩
    simp -implicitDefEqProofs only [kn_run, opsB_leaf, opsB_no, opsB_ro, opsB_alt, wp_opsB, opsW_nil, opsW_cons, again_nil, again_cons, obOf_nil, obOf_cons, wadd, ro, J0, J1, J2, J3, J4, J5, J6, J7, ob_some, ob_none, vbool_eq, vif_tt, vif_ff, vD_bool, vD_int, vD_str, wp_skip, wp_ops, wp_opsW, wp_both, wp_seq, wp_cond, wp_block, wp_exit, wp_ret, th_normal, th_exit, th_ret, bl_normal, bl_ret, bl_exit, ops_nil, ops_cons, go_none, go_some, cond_tt, cond_ff, put_some, put_none, asB, asL, asI, asFn, opd_tmp, opd_int, opd_bool, opd_str, opd_nils, opd_nilp, opd_nilf, opd_func, so_move, so_assign, so_pick, so_box, so_nilCheck, so_not, so_neg, so_makeFunc, so_extract, so_max, so_min, so_call, esc_tmp, esc_func, noescs, J2, bobj_none, lk_cons, nilC_tmp, nilC_int, nilC_bool, nilC_str, nilC_nilp, bt9, bt67, bt42, bt126, so_alloc ti42, so_alloc ti126, so_fieldAddr ti65 rfl, so_fieldAddr ti67 rfl, so_fieldAddr ti126 rfl, so_load ti9, so_load ti34, so_load ti39, so_load ti60, so_store ti42, so_store ti126, so_build ti42, vload, mkV, vstore, vcells, known, toDs, toD, fzLs, fzL, fzOne, AObj.freeze, splice, vfieldAddr, vindexAddr, vbuild, vfill, vbr, vlen, vslice, vbound, opdO, opds, opdPairs, vbin2, vbin, vint, vstr, visNil, visNilP, vfield, vpick, vrowsOf, vcaps, capOk, vrows, fzVs, vapp, vcellsOf, vappendP, vappend, allLen, zok, zrows, vcopy, nil_nils, nil_d, nil_own, arrVer, vundef, gb_b, gb_u, sb_tt, sb_ff, sb_tf, sb_ft, sb_nt, sb_nf, bq_tt, bq_ff, bq_tf, bq_ft, putBack, fzIds, lentVs, lentV, lentLs, lentL, idx, J8, J9, Ja, Jb, Jc, Jd, Je, Jf, Jg, Jh, Ji, Jj, Jk, Jl, Jm, Jn, Jo, Jp, Jq, Jr, Js, Jt, Ju, Jv, Jw, Jx, Jy, Jz, JA, JB, JC, JD, ↓reduceIte, reduceCtorEq, beq_self_eq_true, cond_true, cond_false, true_and, and_true, false_and, and_false, and_self, JE, JF, JG, JH, JI, decide_true, decide_false, decide_eq_true_eq, decide_eq_false_iff_not, beq_iff_eq, bne_iff_ne, beq_eq_false_iff_ne, bne_eq_false_iff_eq, JJ, eq_self, forall_const, not_true_eq_false, not_false_eq_true, ne_eq, false_implies, implies_true, true_implies, JK, JL, JM, JN, JO, gt_iff_lt, ge_iff_le]
    apply vend_of []; rfl; rfl
    rw [show farVal s (xn, .mk x1 x2 x3 x4 x5, .mk y1 y2 y3 y4 y5 y6 y7) = none by simp [farVal, Stx.vals, Stx.types, Stx.funs, Stx.sigs, e]]
    exact ⟨⟨_, _, rfl, rfl, fun _ => rfl, rfl⟩, rfl⟩
  | some m =>
    rw [e] at hl
    obtain ⟨mn, ⟨m1, ⟨m2, m3, m4⟩⟩⟩ := m
    simp only [nearR, encVam, encSc, encTy, List.map_cons, List.map_nil, List.cons_append, List.nil_append] at hl
    refine callS [1] (hl) rfl rfl rfl ?_
    rintro _ _ ⟨rfl, rfl⟩
    refine ⟨_, _, rfl, ?_⟩
    simp -implicitDefEqProofs only [kn_run, opsB_leaf, opsB_no, opsB_ro, opsB_alt, wp_opsB, opsW_nil, opsW_cons, again_nil, again_cons, obOf_nil, obOf_cons, wadd, ro, J0, J1, J2, J3, J4, J5, J6, J7, ob_some, ob_none, vbool_eq, vif_tt, vif_ff, vD_bool, vD_int, vD_str, wp_skip, wp_ops, wp_opsW, wp_both, wp_seq, wp_cond, wp_block, wp_exit, wp_ret, th_normal, th_exit, th_ret, bl_normal, bl_ret, bl_exit, ops_nil, ops_cons, go_none, go_some, cond_tt, cond_ff, put_some, put_none, asB, asL, asI, asFn, opd_tmp, opd_int, opd_bool, opd_str, opd_nils, opd_nilp, opd_nilf, opd_func, so_move, so_assign, so_pick, so_box, so_nilCheck, so_not, so_neg, so_makeFunc, so_extract, so_max, so_min, so_call, esc_tmp, esc_func, noescs, J2, bobj_none, lk_cons, nilC_tmp, nilC_int, nilC_bool, nilC_str, nilC_nilp, bt9, bt67, bt42, bt126, so_alloc ti42, so_alloc ti126, so_fieldAddr ti65 rfl, so_fieldAddr ti67 rfl, so_fieldAddr ti126 rfl, so_load ti9, so_load ti34, so_load ti39, so_load ti60, so_store ti42, so_store ti126, so_build ti42, vload, mkV, vstore, vcells, known, toDs, toD, fzLs, fzL, fzOne, AObj.freeze, splice, vfieldAddr, vindexAddr, vbuild, vfill, vbr, vlen, vslice, vbound, opdO, opds, opdPairs, vbin2, vbin, vint, vstr, visNil, visNilP, vfield, vpick, vrowsOf, vcaps, capOk, vrows, fzVs, vapp, vcellsOf, vappendP, vappend, allLen, zok, zrows, vcopy, nil_nils, nil_d, nil_own, arrVer, vundef, gb_b, gb_u, sb_tt, sb_ff, sb_tf, sb_ft, sb_nt, sb_nf, bq_tt, bq_ff, bq_tf, bq_ft, putBack, fzIds, lentVs, lentV, lentLs, lentL, idx, J8, J9, Ja, Jb, Jc, Jd, Je, Jf, Jg, Jh, Ji, Jj, Jk, Jl, Jm, Jn, Jo, Jp, Jq, Jr, Js, Jt, Ju, Jv, Jw, Jx, Jy, Jz, JA, JB, JC, JD, ↓reduceIte, reduceCtorEq, beq_self_eq_true, cond_true, cond_false, true_and, and_true, false_and, and_false, and_self, JE, JF, JG, JH, JI, decide_true, decide_false, decide_eq_true_eq, decide_eq_false_iff_not, beq_iff_eq, bne_iff_ne, beq_eq_false_iff_ne, bne_eq_false_iff_eq, JJ, eq_self, forall_const, not_true_eq_false, not_false_eq_true, ne_eq, false_implies, implies_true, true_implies, JK, JL, JM, JN, JO, gt_iff_lt, ge_iff_le]
    refine callS [] (hsel) rfl rfl rfl ?_
    rintro _ _ ⟨rfl, rfl⟩
    refine ⟨_, _, rfl, ?_⟩
    simp -implicitDefEqProofs only [kn_run, opsB_leaf, opsB_no, opsB_ro, opsB_alt, wp_opsB, opsW_nil, opsW_cons, again_nil, again_cons, obOf_nil, obOf_cons, wadd, ro, J0, J1, J2, J3, J4, J5, J6, J7, ob_some, ob_none, vbool_eq, vif_tt, vif_ff, vD_bool, vD_int, vD_str, wp_skip, wp_ops, wp_opsW, wp_both, wp_seq, wp_cond, wp_block, wp_exit, wp_ret, th_normal, th_exit, th_ret, bl_normal, bl_ret, bl_exit, ops_nil, ops_cons, go_none, go_some, cond_tt, cond_ff, put_some, put_none, asB, asL, asI, asFn, opd_tmp, opd_int, opd_bool, opd_str, opd_nils, opd_nilp, opd_nilf, opd_func, so_move, so_assign, so_pick, so_box, so_nilCheck, so_not, so_neg, so_makeFunc, so_extract, so_max, so_min, so_call, esc_tmp, esc_func, noescs, J2, bobj_none, lk_cons, nilC_tmp, nilC_int, nilC_bool, nilC_str, nilC_nilp, bt9, bt67, bt42, bt126, so_alloc ti42, so_alloc ti126, so_fieldAddr ti65 rfl, so_fieldAddr ti67 rfl, so_fieldAddr ti126 rfl, so_load ti9, so_load ti34, so_load ti39, so_load ti60, so_store ti42, so_store ti126, so_build ti42, vload, mkV, vstore, vcells, known, toDs, toD, fzLs, fzL, fzOne, AObj.freeze, splice, vfieldAddr, vindexAddr, vbuild, vfill, vbr, vlen, vslice, vbound, opdO, opds, opdPairs, vbin2, vbin, vint, vstr, visNil, visNilP, vfield, vpick, vrowsOf, vcaps, capOk, vrows, fzVs, vapp, vcellsOf, vappendP, vappend, allLen, zok, zrows, vcopy, nil_nils, nil_d, nil_own, arrVer, vundef, gb_b, gb_u, sb_tt, sb_ff, sb_tf, sb_ft, sb_nt, sb_nf, bq_tt, bq_ff, bq_tf, bq_ft, putBack, fzIds, lentVs, lentV, lentLs, lentL, idx, J8, J9, Ja, Jb, Jc, Jd, Je, Jf, Jg, Jh, Ji, Jj, Jk, Jl, Jm, Jn, Jo, Jp, Jq, Jr, Js, Jt, Ju, Jv, Jw, Jx, Jy, Jz, JA, JB, JC, JD, ↓reduceIte, reduceCtorEq, beq_self_eq_true, cond_true, cond_false, true_and, and_true, false_and, and_false, and_self, JE, JF, JG, JH, JI, decide_true, decide_false, decide_eq_true_eq, decide_eq_false_iff_not, beq_iff_eq, bne_iff_ne, beq_eq_false_iff_ne, bne_eq_false_iff_eq, JJ, eq_self, forall_const, not_true_eq_false, not_false_eq_true, ne_eq, false_implies, implies_true, true_implies, JK, JL, JM, JN, JO, gt_iff_lt, ge_iff_le]
    apply vend_of []; rfl; rfl
    rw [show farVal s (xn, .mk x1 x2 x3 x4 x5, .mk y1 y2 y3 y4 y5 y6 y7) = some (s, ⟨m1, .mk m2 m3 m4⟩, selT s (.mk y1 y2 y3 y4 y5 y6 y7)) by simp [farVal, Stx.vals, Stx.types, Stx.funs, Stx.sigs, e]]
    exact ⟨⟨_, _, rfl, rfl, fun _ => rfl, rfl, rfl⟩, rfl⟩

/-! ### Types -/

theorem kndTym : Knd Tym encTym (·.name) 5 := ⟨fun a => ⟨_, rfl⟩, fun a => by obtain ⟨n, ⟨b, c, d⟩, e⟩ := a; rfl⟩
abbrev encTyp := encTym
def farTyp (s : ByteArray) (x : SubE) : Option Tym := (lastOf (·.name) x.2.1.types s).map fun m => ⟨s, m.t, m.cts⟩

def z56 : List L := [L.d (D.str (ByteArray.mk (Array.mk []))), L.d (D.int IntKind.i64 (0)), L.d (D.int IntKind.i64 (0)), L.nils, L.nils]
theorem lst56 : Lst 47 72 148 56 117 179 5 z56 where
  S := ⟨_, _, _, ti47, rfl⟩
  E := ⟨_, _, ti72, rfl⟩
  F := ⟨_, ti148⟩
  bS := bt47
  bE := bt72
  bF := bt148
  last := fn56
  back := fn117
  itr := ⟨Tryz.f179, _, Tryz.func179, rfl, rfl, rfl, by kernel_rfl, by kernel_rfl, rfl⟩
  nB := by kernel_rfl
  zl := rfl
  zr := fun _ => rfl
  zd := fun _ _ => rfl

def z59 : List L := [L.d (D.str (ByteArray.mk (Array.mk []))), L.d (D.int IntKind.i64 (0)), L.d (D.int IntKind.i64 (0)), L.nils, L.nils]
theorem lst59 : Lst 59 133 152 59 118 180 5 z59 where
  S := ⟨_, _, _, ti59, rfl⟩
  E := ⟨_, _, ti133, rfl⟩
  F := ⟨_, ti152⟩
  bS := bt59
  bE := bt133
  bF := bt152
  last := fn59
  back := fn118
  itr := ⟨Tryz.f180, _, Tryz.func180, rfl, rfl, rfl, by kernel_rfl, by kernel_rfl, rfl⟩
  nB := by kernel_rfl
  zl := rfl
  zr := fun _ => rfl
  zd := fun _ _ => rfl

theorem kinTyp : Kin 47 72 148 149 153 56 117 179 57 55 54 58 15 2 where
  eq := fn57
  near := fn55
  look := fn54
  whole := fn15
  nl := by kernel_rfl
  no := by kernel_rfl

theorem vc_farTyp (x : SubE) (s : ByteArray) (hx : stn x.2.1 ≤ 999999990) : VC Tryz.prog 58 [.agg ((encSub x).map .d), .one (.d (.str s))] [] fun r h' => FarR encTyp 5 (farTyp s x) r ∧ h' = [] := by
  have hx := (subs_small hx).2.2.1
  obtain ⟨xn, ⟨x1, x2, x3, x4, x5⟩, ⟨y1, y2, y3, y4, y5, y6, y7⟩⟩ := x
  have hl := vc_lastN kndTym lst59 fn60 x1 (by simp only [Stx.subs, Stx.vals, Stx.types, Stx.funs, Stx.sigs] at hx; omega) s
  simp only [encSub, encSt, encTm, List.map_cons, List.map_nil, List.cons_append, List.nil_append]
  refine VC_of_fn mixed fn58 (by simp) ?_
  show vwp Tryz.prog 0 vc58 _ [(0, .agg [.d (.str xn), .d (.sl (x1.map encTym)), .d (.sl (x2.map encVam)), .d (.sl (encSt.subs x3)), .d (.sl (encSt.funs x4)), .d (.sl (encSt.sigs x5)), .d (.int .i64 y1), .d (.int .i64 y2), .d (.int .i64 y3), .d (.str y4), .d (.sl (txts y5)), .d (.sl (encTt.encs y6)), .d (.sl (encTm.encs y7))]), (1, .one (.d (.str s)))] []
  unfold vc58
  rw [vwpI_eq]
  simp -implicitDefEqProofs only [kn_run, opsB_leaf, opsB_no, opsB_ro, opsB_alt, wp_opsB, opsW_nil, opsW_cons, again_nil, again_cons, obOf_nil, obOf_cons, wadd, ro, J0, J1, J2, J3, J4, J5, J6, J7, ob_some, ob_none, vbool_eq, vif_tt, vif_ff, vD_bool, vD_int, vD_str, wp_skip, wp_ops, wp_opsW, wp_both, wp_seq, wp_cond, wp_block, wp_exit, wp_ret, th_normal, th_exit, th_ret, bl_normal, bl_ret, bl_exit, ops_nil, ops_cons, go_none, go_some, cond_tt, cond_ff, put_some, put_none, asB, asL, asI, asFn, opd_tmp, opd_int, opd_bool, opd_str, opd_nils, opd_nilp, opd_nilf, opd_func, so_move, so_assign, so_pick, so_box, so_nilCheck, so_not, so_neg, so_makeFunc, so_extract, so_max, so_min, so_call, esc_tmp, esc_func, noescs, J2, bobj_none, lk_cons, nilC_tmp, nilC_int, nilC_bool, nilC_str, nilC_nilp, bt9, bt67, bt72, bt133, so_alloc ti72, so_alloc ti133, so_fieldAddr ti65 rfl, so_fieldAddr ti67 rfl, so_fieldAddr ti133 rfl, so_load ti9, so_load ti32, so_load ti59, so_load ti70, so_store ti72, so_store ti133, so_build ti72, vload, mkV, vstore, vcells, known, toDs, toD, fzLs, fzL, fzOne, AObj.freeze, splice, vfieldAddr, vindexAddr, vbuild, vfill, vbr, vlen, vslice, vbound, opdO, opds, opdPairs, vbin2, vbin, vint, vstr, visNil, visNilP, vfield, vpick, vrowsOf, vcaps, capOk, vrows, fzVs, vapp, vcellsOf, vappendP, vappend, allLen, zok, zrows, vcopy, nil_nils, nil_d, nil_own, arrVer, vundef, gb_b, gb_u, sb_tt, sb_ff, sb_tf, sb_ft, sb_nt, sb_nf, bq_tt, bq_ff, bq_tf, bq_ft, putBack, fzIds, lentVs, lentV, lentLs, lentL, idx, J8, J9, Ja, Jb, Jc, Jd, Je, Jf, Jg, Jh, Ji, Jj, Jk, Jl, Jm, Jn, Jo, Jp, Jq, Jr, Js, Jt, Ju, Jv, Jw, Jx, Jy, Jz, JA, JB, JC, JD, ↓reduceIte, reduceCtorEq, beq_self_eq_true, cond_true, cond_false, true_and, and_true, false_and, and_false, and_self, JE, JF, JG, JH, JI, decide_true, decide_false, decide_eq_true_eq, decide_eq_false_iff_not, beq_iff_eq, bne_iff_ne, beq_eq_false_iff_ne, bne_eq_false_iff_eq, JJ, eq_self, forall_const, not_true_eq_false, not_false_eq_true, ne_eq, false_implies, implies_true, true_implies, JK, JL, JM, JN, JO, gt_iff_lt, ge_iff_le]
  cases e : lastOf (·.name) x1 s with
  | none =>
    rw [e] at hl
    simp only [nearR, z59] at hl
    refine callS [1] (hl) rfl rfl rfl ?_
    rintro _ _ ⟨rfl, rfl⟩
    refine ⟨_, _, rfl, ?_⟩
    simp -implicitDefEqProofs only [kn_run, opsB_leaf, opsB_no, opsB_ro, opsB_alt, wp_opsB, opsW_nil, opsW_cons, again_nil, again_cons, obOf_nil, obOf_cons, wadd, ro, J0, J1, J2, J3, J4, J5, J6, J7, ob_some, ob_none, vbool_eq, vif_tt, vif_ff, vD_bool, vD_int, vD_str, wp_skip, wp_ops, wp_opsW, wp_both, wp_seq, wp_cond, wp_block, wp_exit, wp_ret, th_normal, th_exit, th_ret, bl_normal, bl_ret, bl_exit, ops_nil, ops_cons, go_none, go_some, cond_tt, cond_ff, put_some, put_none, asB, asL, asI, asFn, opd_tmp, opd_int, opd_bool, opd_str, opd_nils, opd_nilp, opd_nilf, opd_func, so_move, so_assign, so_pick, so_box, so_nilCheck, so_not, so_neg, so_makeFunc, so_extract, so_max, so_min, so_call, esc_tmp, esc_func, noescs, J2, bobj_none, lk_cons, nilC_tmp, nilC_int, nilC_bool, nilC_str, nilC_nilp, bt9, bt67, bt72, bt133, so_alloc ti72, so_alloc ti133, so_fieldAddr ti65 rfl, so_fieldAddr ti67 rfl, so_fieldAddr ti133 rfl, so_load ti9, so_load ti32, so_load ti59, so_load ti70, so_store ti72, so_store ti133, so_build ti72, vload, mkV, vstore, vcells, known, toDs, toD, fzLs, fzL, fzOne, AObj.freeze, splice, vfieldAddr, vindexAddr, vbuild, vfill, vbr, vlen, vslice, vbound, opdO, opds, opdPairs, vbin2, vbin, vint, vstr, visNil, visNilP, vfield, vpick, vrowsOf, vcaps, capOk, vrows, fzVs, vapp, vcellsOf, vappendP, vappend, allLen, zok, zrows, vcopy, nil_nils, nil_d, nil_own, arrVer, vundef, gb_b, gb_u, sb_tt, sb_ff, sb_tf, sb_ft, sb_nt, sb_nf, bq_tt, bq_ff, bq_tf, bq_ft, putBack, fzIds, lentVs, lentV, lentLs, lentL, idx, J8, J9, Ja, Jb, Jc, Jd, Je, Jf, Jg, Jh, Ji, Jj, Jk, Jl, Jm, Jn, Jo, Jp, Jq, Jr, Js, Jt, Ju, Jv, Jw, Jx, Jy, Jz, JA, JB, JC, JD, ↓reduceIte, reduceCtorEq, beq_self_eq_true, cond_true, cond_false, true_and, and_true, false_and, and_false, and_self, JE, JF, JG, JH, JI, decide_true, decide_false, decide_eq_true_eq, decide_eq_false_iff_not, beq_iff_eq, bne_iff_ne, beq_eq_false_iff_ne, bne_eq_false_iff_eq, JJ, eq_self, forall_const, not_true_eq_false, not_false_eq_true, ne_eq, false_implies, implies_true, true_implies, JK, JL, JM, JN, JO, gt_iff_lt, ge_iff_le]
    apply vend_of []; rfl; rfl
    rw [show farTyp s (xn, .mk x1 x2 x3 x4 x5, .mk y1 y2 y3 y4 y5 y6 y7) = none by simp [farTyp, Stx.vals, Stx.types, Stx.funs, Stx.sigs, e]]
    exact ⟨⟨_, _, rfl, rfl, fun _ => rfl, rfl⟩, rfl⟩
  | some m =>
    rw [e] at hl
    obtain ⟨mn, ⟨m2, m3, m4⟩, m5⟩ := m
    simp only [nearR, encTym, encTy, List.map_cons, List.map_nil, List.cons_append, List.nil_append] at hl
    refine callS [1] (hl) rfl rfl rfl ?_
    rintro _ _ ⟨rfl, rfl⟩
    refine ⟨_, _, rfl, ?_⟩
    simp -implicitDefEqProofs only [kn_run, opsB_leaf, opsB_no, opsB_ro, opsB_alt, wp_opsB, opsW_nil, opsW_cons, again_nil, again_cons, obOf_nil, obOf_cons, wadd, ro, J0, J1, J2, J3, J4, J5, J6, J7, ob_some, ob_none, vbool_eq, vif_tt, vif_ff, vD_bool, vD_int, vD_str, wp_skip, wp_ops, wp_opsW, wp_both, wp_seq, wp_cond, wp_block, wp_exit, wp_ret, th_normal, th_exit, th_ret, bl_normal, bl_ret, bl_exit, ops_nil, ops_cons, go_none, go_some, cond_tt, cond_ff, put_some, put_none, asB, asL, asI, asFn, opd_tmp, opd_int, opd_bool, opd_str, opd_nils, opd_nilp, opd_nilf, opd_func, so_move, so_assign, so_pick, so_box, so_nilCheck, so_not, so_neg, so_makeFunc, so_extract, so_max, so_min, so_call, esc_tmp, esc_func, noescs, J2, bobj_none, lk_cons, nilC_tmp, nilC_int, nilC_bool, nilC_str, nilC_nilp, bt9, bt67, bt72, bt133, so_alloc ti72, so_alloc ti133, so_fieldAddr ti65 rfl, so_fieldAddr ti67 rfl, so_fieldAddr ti133 rfl, so_load ti9, so_load ti32, so_load ti59, so_load ti70, so_store ti72, so_store ti133, so_build ti72, vload, mkV, vstore, vcells, known, toDs, toD, fzLs, fzL, fzOne, AObj.freeze, splice, vfieldAddr, vindexAddr, vbuild, vfill, vbr, vlen, vslice, vbound, opdO, opds, opdPairs, vbin2, vbin, vint, vstr, visNil, visNilP, vfield, vpick, vrowsOf, vcaps, capOk, vrows, fzVs, vapp, vcellsOf, vappendP, vappend, allLen, zok, zrows, vcopy, nil_nils, nil_d, nil_own, arrVer, vundef, gb_b, gb_u, sb_tt, sb_ff, sb_tf, sb_ft, sb_nt, sb_nf, bq_tt, bq_ff, bq_tf, bq_ft, putBack, fzIds, lentVs, lentV, lentLs, lentL, idx, J8, J9, Ja, Jb, Jc, Jd, Je, Jf, Jg, Jh, Ji, Jj, Jk, Jl, Jm, Jn, Jo, Jp, Jq, Jr, Js, Jt, Ju, Jv, Jw, Jx, Jy, Jz, JA, JB, JC, JD, ↓reduceIte, reduceCtorEq, beq_self_eq_true, cond_true, cond_false, true_and, and_true, false_and, and_false, and_self, JE, JF, JG, JH, JI, decide_true, decide_false, decide_eq_true_eq, decide_eq_false_iff_not, beq_iff_eq, bne_iff_ne, beq_eq_false_iff_ne, bne_eq_false_iff_eq, JJ, eq_self, forall_const, not_true_eq_false, not_false_eq_true, ne_eq, false_implies, implies_true, true_implies, JK, JL, JM, JN, JO, gt_iff_lt, ge_iff_le]
    apply vend_of []; rfl; rfl
    rw [show farTyp s (xn, .mk x1 x2 x3 x4 x5, .mk y1 y2 y3 y4 y5 y6 y7) = some ⟨s, .mk m2 m3 m4, m5⟩ by simp [farTyp, Stx.vals, Stx.types, Stx.funs, Stx.sigs, e]]
    exact ⟨⟨_, _, rfl, rfl, fun _ => rfl, rfl, rfl⟩, rfl⟩

end Go.Vt.Tryz
