/- The environment laws: lists of numbers, constructors, structures are the same as themselves. -/
import Derived.Test.YtdabfkmhkoppcaaGreatDoorVtLA
set_option maxRecDepth 100000
set_option linter.unusedSimpArgs false
namespace Go.Vt.Tryz
open Go.Vt renaming ob_some → Jm, vbool_eq → Jo, vif_tt → Jp, vif_ff → Jq, vD_bool → Jr, vD_int → Js, wp_skip → Ju, wp_ops → Jv, wp_seq → Jy, wp_cond → Jz, wp_block → JA, wp_exit → JB, wp_ret → JC, th_normal → JD, th_exit → JE, th_ret → JF, bl_normal → JG, bl_ret → JH, bl_exit → JI, ops_nil → JJ, ops_cons → JK, go_none → JL, go_some → JM, cond_tt → JN, cond_ff → JO, put_some → JP, asB → JR, asL → JS, asI → JT, asFn → JU, opd_tmp → JV, opd_int → JW, opd_bool → JX, opd_func → J12, so_move → J13, so_assign → J14, so_pick → J15, so_not → J18, so_call → J1e, esc_func → J1g, lk_cons → J1i, nilC_tmp → J1j, nilC_int → J1k, so_len → J1o, so_bin → J1p, so_indexAddr → J1q, so_load → J1r, vload → J1s, mkV → J1t, vfieldAddr → J1D, vindexAddr → J1E, vlen → J1I, opds → J1M, vbin2 → J1O, vbin → J1P, vint → J1Q, vstr → J1R, vpick → J1V, vundef → J2d, gb_b → J2e, sb_tf → J2i, so_fieldAddr → J3e
open List renaming contains_cons → Jg, contains_nil → Jh, lookup_nil → J2x, getElem?_cons_zero → J2y, getElem?_cons_succ → J2z, getElem?_nil → J2A, take_succ_cons → J2B, take_nil → J2D, drop_succ_cons → J2E, drop_zero → J2F, length_cons → J2H, length_nil → J2I, append_nil → J2J, nil_append → J2K, map_cons → J2M, map_nil → J2N, all_nil → J2S
open Bool renaming or_false → Jk, and_true → J2U, false_eq_true → J38, not_true → J39
open Nat renaming reduceBEq → J2W, reduceAdd → J30, zero_add → J3b, le_refl → J3c
open Option renaming map_some → J33, bind_some → J35
open Go.Proofs

theorem vc_ints23 (l : List Int) (hp : l.length < 1000000000) : VC Tryz.prog 23 [.one (.d (.sl (nums l))), .one (.d (.sl (nums l)))] [] fun r h' => r = .one (.d (.bool true)) ∧ h' = [] := by
  refine VC_of_fn mixed fn23 (by simp) ?_
  show vwp Tryz.prog 0 vc23 _ [(0, .one (.d (.sl (nums l)))), (1, .one (.d (.sl (nums l))))] []
  unfold vc23
  rw [vwpI_eq]
  simp -implicitDefEqProofs only [Jm, Jo, Jr, Ju, Jv, Jy, Jz, JA, JC, JD, JF, JJ, JK, JL, JN, JO, JP, JV, JW, JX, J13, J14, J1i, J1j, J1o ti85, J1p ti3, J1I, J1O, J1P, J1Q, J1R, J2x, J2A, J2I, J2W, ↓reduceIte, reduceCtorEq, beq_self_eq_true, cond_true, cond_false, true_and, J33, J35, bne_iff_ne, bne_eq_false_iff_eq, eq_self, forall_const, not_true_eq_false, ne_eq, false_implies, nums_length]
  refine loopI (α := Nat) (fun i => [(5, .one (.d (.int .i64 i))), (0, .one (.d (.sl (nums l)))), (1, .one (.d (.sl (nums l))))]) (fun _ => [])
    (fun i => i ≤ l.length) (fun i => l.length - i) 0
    (keepI [] _ (WkH.refl _) rfl rfl rfl ⟨⟨_, WkV.refl _, rfl⟩, ⟨_, WkV.refl _, rfl⟩, ⟨_, WkV.refl _, rfl⟩, trivial⟩) (Nat.zero_le _) ?_
  intro i hi
  have hw : IntKind.i64.wrap ((i : Int) + 1) = ((i + 1 : Nat) : Int) := wrap_nat (by omega)
  simp -implicitDefEqProofs only [Jm, Jo, Jp, Jr, Ju, Jv, Jy, Jz, JA, JB, JC, JD, JE, JI, JJ, JK, JL, JN, JO, JP, JS, JT, JV, JX, J13, J14, J1i, J1j, J1o ti85, J1p ti3, J1q ti85 rfl, J1E, J1I, J1O, J1P, J1Q, J1R, J2x, J2A, J2I, J2W, ↓reduceIte, reduceCtorEq, beq_self_eq_true, cond_true, cond_false, J33, J35, decide_eq_true_eq, decide_eq_false_iff_not, eq_self, nums_length]
  refine ⟨fun h5 => ?_, fun h5 => ?_⟩
  · have hi' : i < l.length := by omega
    obtain ⟨u, hu⟩ : ∃ u, l[i]? = some u := ⟨l[i], List.getElem?_eq_getElem hi'⟩
    have hg := nums_get hu
    simp -implicitDefEqProofs only [Jm, Jo, Jr, Js, Ju, Jv, Jy, Jz, JC, JD, JF, JG, JH, JJ, JK, JL, JN, JO, JP, JS, JT, JV, JW, JX, J13, J14, J1i, J1j, J1k, J1p ti3, J1q ti85 rfl, J1r ti3, J1s, J1t, J1E, J1O, J1P, J1Q, J1R, J2x, J2A, J2H, J2I, J2M, J2N, J2W, ↓reduceIte, beq_self_eq_true, cond_true, cond_false, true_and, J33, J35, bne_iff_ne, bne_eq_false_iff_eq, J38, eq_self, forall_const, not_true_eq_false, ne_eq, false_implies, J3b, hg, hw, Int.natCast_nonneg, Int.toNat_natCast]
    refine ⟨i + 1, by omega, by omega, ?_⟩
    exact (keepI [] _ (WkH.refl _) rfl rfl rfl ⟨⟨_, WkV.refl _, rfl⟩, ⟨_, WkV.refl _, rfl⟩, ⟨_, WkV.refl _, rfl⟩, trivial⟩)
  · apply vend_of []; rfl; rfl
    exact ⟨rfl, rfl⟩

theorem vc_ints66 (l : List Int) (hp : l.length < 1000000000) : VC Tryz.prog 66 [.one (.d (.sl (nums l))), .one (.d (.sl (nums l)))] [] fun r h' => r = .one (.d (.bool true)) ∧ h' = [] := by
  refine VC_of_fn mixed fn66 (by simp) ?_
  show vwp Tryz.prog 0 vc66 _ [(0, .one (.d (.sl (nums l)))), (1, .one (.d (.sl (nums l))))] []
  unfold vc66
  rw [vwpI_eq]
  simp -implicitDefEqProofs only [Jm, Jo, Jr, Ju, Jv, Jy, Jz, JA, JC, JD, JF, JJ, JK, JL, JN, JO, JP, JV, JW, JX, J13, J14, J1i, J1j, J1o ti85, J1p ti3, J1I, J1O, J1P, J1Q, J1R, J2x, J2A, J2I, J2W, ↓reduceIte, reduceCtorEq, beq_self_eq_true, cond_true, cond_false, true_and, J33, J35, bne_iff_ne, bne_eq_false_iff_eq, eq_self, forall_const, not_true_eq_false, ne_eq, false_implies, nums_length]
  refine loopI (α := Nat) (fun i => [(5, .one (.d (.int .i64 i))), (0, .one (.d (.sl (nums l)))), (1, .one (.d (.sl (nums l))))]) (fun _ => [])
    (fun i => i ≤ l.length) (fun i => l.length - i) 0
    (keepI [] _ (WkH.refl _) rfl rfl rfl ⟨⟨_, WkV.refl _, rfl⟩, ⟨_, WkV.refl _, rfl⟩, ⟨_, WkV.refl _, rfl⟩, trivial⟩) (Nat.zero_le _) ?_
  intro i hi
  have hw : IntKind.i64.wrap ((i : Int) + 1) = ((i + 1 : Nat) : Int) := wrap_nat (by omega)
  simp -implicitDefEqProofs only [Jm, Jo, Jp, Jr, Ju, Jv, Jy, Jz, JA, JB, JC, JD, JE, JI, JJ, JK, JL, JN, JO, JP, JS, JT, JV, JX, J13, J14, J1i, J1j, J1o ti85, J1p ti3, J1q ti85 rfl, J1E, J1I, J1O, J1P, J1Q, J1R, J2x, J2A, J2I, J2W, ↓reduceIte, reduceCtorEq, beq_self_eq_true, cond_true, cond_false, J33, J35, decide_eq_true_eq, decide_eq_false_iff_not, eq_self, nums_length]
  refine ⟨fun h5 => ?_, fun h5 => ?_⟩
  · have hi' : i < l.length := by omega
    obtain ⟨u, hu⟩ : ∃ u, l[i]? = some u := ⟨l[i], List.getElem?_eq_getElem hi'⟩
    have hg := nums_get hu
    simp -implicitDefEqProofs only [Jm, Jo, Jr, Js, Ju, Jv, Jy, Jz, JC, JD, JF, JG, JH, JJ, JK, JL, JN, JO, JP, JS, JT, JV, JW, JX, J13, J14, J1i, J1j, J1k, J1p ti3, J1q ti85 rfl, J1r ti3, J1s, J1t, J1E, J1O, J1P, J1Q, J1R, J2x, J2A, J2H, J2I, J2M, J2N, J2W, ↓reduceIte, beq_self_eq_true, cond_true, cond_false, true_and, J33, J35, bne_iff_ne, bne_eq_false_iff_eq, J38, eq_self, forall_const, not_true_eq_false, ne_eq, false_implies, J3b, hg, hw, Int.natCast_nonneg, Int.toNat_natCast]
    refine ⟨i + 1, by omega, by omega, ?_⟩
    exact (keepI [] _ (WkH.refl _) rfl rfl rfl ⟨⟨_, WkV.refl _, rfl⟩, ⟨_, WkV.refl _, rfl⟩, ⟨_, WkV.refl _, rfl⟩, trivial⟩)
  · apply vend_of []; rfl; rfl
    exact ⟨rfl, rfl⟩

theorem vc_sameCtors (l : List Ct) (hp : sumN ctn l < 1000000000) : VC Tryz.prog 65 [.one (.d (.sl (l.map encCt))), .one (.d (.sl (l.map encCt)))] [] fun r h' => r = .one (.d (.bool true)) ∧ h' = [] := by
  have hlen := sumN_length (f := ctn) (fun c => by simp [ctn]) l
  refine VC_of_fn mixed fn65 (by simp) ?_
  show vwp Tryz.prog 0 vc65 _ [(0, .one (.d (.sl (l.map encCt)))), (1, .one (.d (.sl (l.map encCt))))] []
  unfold vc65
  rw [vwpI_eq]
  simp -implicitDefEqProofs only [Jm, Jo, Jr, Ju, Jv, Jy, Jz, JA, JC, JD, JF, JJ, JK, JL, JN, JO, JP, JV, JW, JX, J13, J14, J1i, J1j, J1o ti70, J1p ti3, J1I, J1O, J1P, J1Q, J1R, J2x, J2A, J2I, J2W, ↓reduceIte, reduceCtorEq, beq_self_eq_true, cond_true, cond_false, true_and, J33, J35, bne_iff_ne, bne_eq_false_iff_eq, eq_self, forall_const, not_true_eq_false, ne_eq, false_implies, List.length_map]
  refine loopI (α := Nat) (fun i => [(5, .one (.d (.int .i64 i))), (0, .one (.d (.sl (l.map encCt)))), (1, .one (.d (.sl (l.map encCt))))]) (fun _ => [])
    (fun i => i ≤ l.length) (fun i => l.length - i) 0
    (keepI [] _ (WkH.refl _) rfl rfl rfl ⟨⟨_, WkV.refl _, rfl⟩, ⟨_, WkV.refl _, rfl⟩, ⟨_, WkV.refl _, rfl⟩, trivial⟩) (Nat.zero_le _) ?_
  intro i hi
  have hw : IntKind.i64.wrap ((i : Int) + 1) = ((i + 1 : Nat) : Int) := wrap_nat (by omega)
  simp -implicitDefEqProofs only [Jm, Jo, Jp, Jr, Ju, Jv, Jy, Jz, JA, JB, JC, JD, JE, JI, JJ, JK, JL, JN, JO, JP, JS, JT, JV, JX, J13, J14, J1i, J1j, J1o ti70, J1p ti3, J1q ti70 rfl, J1E, J1I, J1O, J1P, J1Q, J1R, J2x, J2A, J2I, J2W, ↓reduceIte, reduceCtorEq, beq_self_eq_true, cond_true, cond_false, J33, J35, decide_eq_true_eq, decide_eq_false_iff_not, eq_self, List.length_map]
  refine ⟨fun h5 => ?_, fun h5 => ?_⟩
  · have hi' : i < l.length := by omega
    obtain ⟨u, hu⟩ : ∃ u, l[i]? = some u := ⟨l[i], List.getElem?_eq_getElem hi'⟩
    have hmem := List.mem_of_getElem? hu
    have hnu := sumN_mem (f := ctn) hmem
    have hg : (l.map encCt)[i]? = some (encCt u) := by rw [List.getElem?_map, hu]; rfl
    obtain ⟨un, uc⟩ := u
    simp only [ctn] at hnu
    have hcl := length_tyn uc
    simp only [encCt] at hg
    simp -implicitDefEqProofs only [Jm, Jo, Jp, Jq, Jr, Ju, Jv, Jy, Jz, JA, JC, JD, JF, JH, JJ, JK, JL, JM, JN, JO, JP, JS, JT, JV, JW, JX, J13, J14, J15, J1i, J1j, J1o ti30, J1p ti3, J1p ti9, J1q ti70 rfl, J3e ti156 rfl, J1r ti9, J1r ti30, J1s, J1t, J1D, J1E, J1I, J1O, J1P, J1Q, J1R, J1V, J2d, J2e, J2i, J2x, J2y, J2z, J2A, J2E, J2F, J2H, J2I, J2M, J2N, J2W, J30, ↓reduceIte, reduceCtorEq, beq_self_eq_true, cond_true, cond_false, true_and, J33, J35, decide_true, bne_iff_ne, bne_eq_false_iff_eq, J38, eq_self, forall_const, not_true_eq_false, ne_eq, false_implies, J39, J3b, hg, Int.natCast_nonneg, Int.toNat_natCast, encsTy_length]
    refine loopI (α := Nat) (fun k => [(6, .one (.d (.int .i64 k))), (5, .one (.d (.int .i64 i))), (0, .one (.d (.sl (l.map encCt)))), (1, .one (.d (.sl (l.map encCt))))]) (fun _ => [])
      (fun k => k ≤ uc.length) (fun k => uc.length - k) 0
      (keepI [] _ (WkH.refl _) rfl rfl rfl ⟨⟨_, WkV.refl _, rfl⟩, ⟨_, WkV.refl _, rfl⟩, ⟨_, WkV.refl _, rfl⟩, ⟨_, WkV.refl _, rfl⟩, trivial⟩) (Nat.zero_le _) ?_
    intro k hk
    have hwk : IntKind.i64.wrap ((k : Int) + 1) = ((k + 1 : Nat) : Int) := wrap_nat (by omega)
    simp -implicitDefEqProofs only [Jm, Jo, Jp, Jr, Js, Ju, Jv, Jy, Jz, JA, JB, JD, JE, JG, JI, JJ, JK, JL, JN, JO, JP, JS, JT, JV, JW, J13, J14, J1i, J1j, J1k, J1o ti30, J1p ti3, J1q ti30 rfl, J1q ti70 rfl, J3e ti156 rfl, J1r ti30, J1s, J1t, J1D, J1E, J1I, J1O, J1P, J1Q, J1R, J2x, J2y, J2z, J2A, J2E, J2F, J2H, J2I, J2M, J2N, J2W, J30, ↓reduceIte, reduceCtorEq, beq_self_eq_true, cond_true, cond_false, J33, J35, decide_eq_true_eq, decide_eq_false_iff_not, J38, eq_self, J3b, hg, Int.natCast_nonneg, Int.toNat_natCast, encsTy_length]
    refine ⟨fun h6 => ?_, fun h6 => ?_⟩
    · have hk' : k < uc.length := by omega
      obtain ⟨t, ht⟩ : ∃ t, uc[k]? = some t := ⟨uc[k], List.getElem?_eq_getElem hk'⟩
      have hmt := tyn_mem (List.mem_of_getElem? ht)
      have iu := vc_same8 t (by omega)
      have hgt : (encTy.encs uc)[k]? = some (encTy t) := by rw [encsTy, List.getElem?_map, ht]; rfl
      obtain ⟨tk, tn, tc⟩ := t
      simp only [tyV, encTy, List.map_cons, List.map_nil] at iu hgt
      simp -implicitDefEqProofs only [Jg, Jh, Jk, Jm, Jp, JK, JL, JP, JS, JT, JU, JV, J12, J13, J1e, J1g, noescs, Jg, J1i, J1q ti30 rfl, J1q ti70 rfl, J3e ti156 rfl, J1r ti30, J1r ti32, J1s, J1t, J1D, J1E, J1M, J2x, J2y, J2z, J2A, J2B, J2D, J2E, J2F, J2H, J2I, J2J, J2K, J2M, J2N, J2S, J2U, J2W, J30, ↓reduceIte, reduceCtorEq, beq_self_eq_true, cond_true, cond_false, J33, J35, J38, eq_self, J3b, J3c, hg, hgt, Int.natCast_nonneg, Int.toNat_natCast]
      refine callS [] (iu) rfl rfl rfl ?_
      rintro _ _ ⟨rfl, rfl⟩
      refine ⟨_, _, rfl, ?_⟩
      simp -implicitDefEqProofs only [Jm, Js, Ju, Jv, Jz, JD, JG, JJ, JK, JL, JO, JP, JR, JV, JW, J13, J14, J18, J1i, J1k, J1p ti3, J1O, J1P, J1Q, J1R, J2x, J2W, ↓reduceIte, beq_self_eq_true, cond_true, cond_false, J33, J35, eq_self, J39, hwk]
      refine ⟨k + 1, by omega, by omega, ?_⟩
      exact (keepI [] _ (WkH.refl _) rfl rfl rfl ⟨⟨_, WkV.refl _, rfl⟩, ⟨_, WkV.refl _, rfl⟩, ⟨_, WkV.refl _, rfl⟩, ⟨_, WkV.refl _, rfl⟩, trivial⟩)
    · simp -implicitDefEqProofs only [hw]
      refine ⟨i + 1, by omega, by omega, ?_⟩
      exact (keepI [] _ (WkH.refl _) rfl rfl rfl ⟨⟨_, WkV.refl _, rfl⟩, ⟨_, WkV.refl _, rfl⟩, ⟨_, WkV.refl _, rfl⟩, trivial⟩)
  · apply vend_of []; rfl; rfl
    exact ⟨rfl, rfl⟩

end Go.Vt.Tryz
set_option maxRecDepth 100000
set_option linter.unusedSimpArgs false
namespace Go.Vt.Tryz
open Go.Vt renaming ob_some → Jm, vbool_eq → Jo, vif_tt → Jp, vif_ff → Jq, vD_bool → Jr, vD_int → Js, wp_skip → Ju, wp_ops → Jv, wp_seq → Jy, wp_cond → Jz, wp_block → JA, wp_exit → JB, wp_ret → JC, th_normal → JD, th_exit → JE, th_ret → JF, bl_normal → JG, bl_ret → JH, bl_exit → JI, ops_nil → JJ, ops_cons → JK, go_none → JL, go_some → JM, cond_tt → JN, cond_ff → JO, put_some → JP, put_none → JQ, asB → JR, asL → JS, asI → JT, asFn → JU, opd_tmp → JV, opd_int → JW, opd_bool → JX, opd_func → J12, so_move → J13, so_assign → J14, so_pick → J15, so_box → J16, so_not → J18, so_call → J1e, esc_func → J1g, bobj_none → J1h, lk_cons → J1i, nilC_tmp → J1j, nilC_int → J1k, so_fieldAddr → J1o, so_load → J1p, vload → J1q, mkV → J1r, vstore → J1s, vcells → J1t, known → J1u, toDs → J1v, toD → J1w, fzLs → J1x, fzL → J1y, splice → J1A, vfieldAddr → J1B, vindexAddr → J1C, vlen → J1G, opds → J1K, vbin2 → J1M, vbin → J1N, vint → J1O, vstr → J1P, vpick → J1T, vundef → J2b, gb_b → J2c, sb_tf → J2g, so_len → J3c, so_bin → J3d, so_indexAddr → J3e, so_alloc → J3f, so_store → J3g
open List renaming contains_cons → Jg, contains_nil → Jh, lookup_nil → J2v, getElem?_cons_zero → J2w, getElem?_cons_succ → J2x, take_succ_cons → J2z, take_zero → J2A, take_nil → J2B, drop_succ_cons → J2C, drop_zero → J2D, drop_nil → J2E, length_cons → J2F, length_nil → J2G, append_nil → J2H, nil_append → J2I, cons_append → J2J, map_cons → J2K, map_nil → J2L, set_cons_zero → J2M, set_cons_succ → J2N, all_nil → J2Q
open Bool renaming or_false → Jk, and_true → J2S, false_eq_true → J36, not_true → J37
open Nat renaming reduceBEq → J2U, reduceEqDiff → J2V, reduceLeDiff → J2X, reduceAdd → J2Y, zero_add → J39, le_refl → J3a, add_zero → J3b
open Option renaming map_some → J31, bind_some → J33
open Go.Proofs

theorem encSubs_sm : ∀ l, encSt.subs l = l.map encSm := encSubs_map

def stV (x : Stx) : V := .agg ((encSt x).map .d)
def abV (l : List Int) (x : Stx) : V := .agg ((L.d (.sl (nums l))) :: (encSt x).map .d)

theorem vc_sameAb (l : List Int) (x : Stx) (hl : l.length < 1000000000) (ih : VC Tryz.prog 20 [stV x, stV x] [] fun r h' => r = .one (.d (.bool true)) ∧ h' = []) :
    VC Tryz.prog 24 [abV l x, abV l x] [] fun r h' => r = .one (.d (.bool true)) ∧ h' = [] := by
  have hi := vc_ints66 l hl
  obtain ⟨x1, x2, x3, x4, x5⟩ := x
  simp only [stV, abV, encSt, List.map_cons, List.map_nil] at ih ⊢
  refine VC_of_fn mixed fn24 (by simp) ?_
  show vwp Tryz.prog 0 vc24 _ [(0, .agg [.d (.sl (nums l)), .d (.sl (x1.map encTym)), .d (.sl (x2.map encVam)), .d (.sl (encSt.subs x3)), .d (.sl (encSt.funs x4)), .d (.sl (encSt.sigs x5))]), (1, .agg [.d (.sl (nums l)), .d (.sl (x1.map encTym)), .d (.sl (x2.map encVam)), .d (.sl (encSt.subs x3)), .d (.sl (encSt.funs x4)), .d (.sl (encSt.sigs x5))])] []
  unfold vc24
  rw [vwpI_eq]
  simp -implicitDefEqProofs only [Jg, Jh, Jk, Jm, Jp, Jv, Jy, JD, JJ, JK, JL, JP, JS, JU, JV, JX, J12, J14, J16, J1e, J1g, noescs, Jg, J1h, J1i, bt87, J1o ti87 rfl, J1p ti85, J1q, J1r, J1t, J1u, J1B, J1K, J2v, J2w, J2x, J2D, J2F, J2G, J2H, J2I, J2J, J2L, J2Q, J2S, J2U, J2X, J2Y, ↓reduceIte, reduceCtorEq, beq_self_eq_true, cond_true, cond_false, J31, J33, J36, eq_self, J39, J3b]
  refine callS [] (hi) rfl rfl rfl ?_
  rintro _ _ ⟨rfl, rfl⟩
  refine ⟨_, _, rfl, ?_⟩
  simp -implicitDefEqProofs only [Jg, Jh, Jk, Jm, Jp, JK, JL, JM, JP, JS, JU, JV, J12, J13, J1e, J1g, noescs, Jg, J1i, J1o ti87 rfl, J1p ti65, J1q, J1r, J1B, J1K, J2c, J2v, J2w, J2x, J2z, J2B, J2C, J2D, J2F, J2G, J2H, J2I, J2L, J2Q, J2S, J2U, J2X, J2Y, ↓reduceIte, reduceCtorEq, beq_self_eq_true, cond_true, cond_false, J31, J33, eq_self, J39, J3a]
  refine callS [] (ih) rfl rfl rfl ?_
  rintro _ _ ⟨rfl, rfl⟩
  refine ⟨_, _, rfl, ?_⟩
  simp -implicitDefEqProofs only [Jm, JC, JD, JJ, JK, JL, JP, JV, JX, J14, J15, J1i, J1T, J2v, J2G, J2U, beq_self_eq_true, cond_true, cond_false, J31, J33]
  apply vend_of []; rfl; rfl
  exact ⟨rfl, rfl⟩

set_option maxHeartbeats 4000000 in
theorem vc_sameStr : ∀ x : Stx, stn x < 1000000000 → VC Tryz.prog 20 [stV x, stV x] [] fun r h' => r = .one (.d (.bool true)) ∧ h' = [] := by
  intro x
  induction x using Stx.ind with
  | h x1 x2 x3 x4 x5 ih3 ih4 ih5 =>
  intro hp
  have hsz := subs_small (x := .mk x1 x2 x3 x4 x5) (Nat.le_of_lt hp)
  simp only [Stx.subs, Stx.vals, Stx.types, Stx.funs, Stx.sigs] at hsz
  obtain ⟨z3, z2, z1, z4, z5⟩ := hsz
  have hp0 := hp
  simp only [stn] at hp
  have l3 : (encSt.subs x3).length = x3.length := by rw [encSubs_map, List.length_map]
  have l4 : (encSt.funs x4).length = x4.length := by rw [encFuns_m, List.length_map]
  have l5 : (encSt.sigs x5).length = x5.length := by rw [encSigs_m, List.length_map]
  simp only [stV, encSt, List.map_cons, List.map_nil]
  refine VC_of_fn mixed fn20 (by simp) ?_
  show vwp Tryz.prog 0 vc20 _ [(0, .agg [.d (.sl (x1.map encTym)), .d (.sl (x2.map encVam)), .d (.sl (encSt.subs x3)), .d (.sl (encSt.funs x4)), .d (.sl (encSt.sigs x5))]), (1, .agg [.d (.sl (x1.map encTym)), .d (.sl (x2.map encVam)), .d (.sl (encSt.subs x3)), .d (.sl (encSt.funs x4)), .d (.sl (encSt.sigs x5))])] []
  unfold vc20
  rw [vwpI_eq]
  simp -implicitDefEqProofs only [Jm, Jo, Jp, Jq, Jr, Ju, Jv, Jy, Jz, JA, JC, JD, JF, JJ, JK, JL, JM, JN, JO, JP, JS, JV, JW, JX, J13, J14, J15, J16, J1h, J1i, J1j, bt65, J1o ti65 rfl, J1p ti59, J1p ti60, J1p ti61, J1p ti62, J1p ti63, J3c ti59, J3c ti60, J3c ti61, J3c ti62, J3c ti63, J3d ti3, J1q, J1r, J1t, J1u, J1B, J1G, J1M, J1N, J1O, J1P, J1T, J2b, J2c, J2g, J2v, J2w, J2x, J2C, J2D, J2F, J2G, J2I, J2J, J2U, J2X, J2Y, ↓reduceIte, reduceCtorEq, beq_self_eq_true, cond_true, cond_false, true_and, J31, J33, bne_iff_ne, bne_eq_false_iff_eq, J36, eq_self, forall_const, not_true_eq_false, ne_eq, false_implies, J39, J3b, List.length_map, l3, l4, l5]
  refine loopI (α := Nat) (fun i => [(5, .one (.d (.int .i64 i))), (3, .one (.ptr 1 0)), (2, .one (.ptr 0 0))])
    (fun _ => [.box [.d (.sl (x1.map encTym)), .d (.sl (x2.map encVam)), .d (.sl (encSt.subs x3)), .d (.sl (encSt.funs x4)), .d (.sl (encSt.sigs x5))], .box [.d (.sl (x1.map encTym)), .d (.sl (x2.map encVam)), .d (.sl (encSt.subs x3)), .d (.sl (encSt.funs x4)), .d (.sl (encSt.sigs x5))]])
    (fun i => i ≤ x1.length) (fun i => x1.length - i) 0
    (keepI [0, 1] _ (WkH.refl _) rfl rfl rfl ⟨⟨_, WkV.refl _, rfl⟩, ⟨_, WkV.refl _, rfl⟩, ⟨_, WkV.refl _, rfl⟩, trivial⟩) (Nat.zero_le _) ?_
  intro i hi
  have hw : IntKind.i64.wrap ((i : Int) + 1) = ((i + 1 : Nat) : Int) := wrap_nat (by omega)
  simp -implicitDefEqProofs only [Jm, Jo, Jp, Jr, Ju, Jv, Jy, Jz, JA, JB, JD, JE, JI, JJ, JK, JL, JN, JO, JP, JS, JT, JV, JW, J13, J14, J1i, J1j, J1o ti65 rfl, J1p ti59, J3c ti59, J3d ti3, J3e ti59 rfl, J1q, J1r, J1B, J1C, J1G, J1M, J1N, J1O, J1P, J2v, J2w, J2D, J2F, J2G, J2U, J2V, J2X, J2Y, ↓reduceIte, reduceCtorEq, beq_self_eq_true, cond_true, cond_false, true_and, false_and, J31, J33, decide_eq_true_eq, decide_eq_false_iff_not, J36, eq_self, J39, J3b, List.length_map]
  refine ⟨fun h6 => ?_, fun h6 => ?_⟩
  · have hi' : i < x1.length := by omega
    obtain ⟨u, hu⟩ : ∃ u, x1[i]? = some u := ⟨x1[i], List.getElem?_eq_getElem hi'⟩
    have hmem := List.mem_of_getElem? hu
    have hnu := sumN_mem (f := tymn) hmem
    have hnu2 : tymn u = 1 + tyn u.t + sumN ctn u.cts := rfl
    have iu := vc_same8 u.t (by omega)
    have iv := vc_sameCtors u.cts (by omega)
    have hg : (x1.map encTym)[i]? = some (encTym u) := by rw [List.getElem?_map, hu]; rfl
    obtain ⟨un, ⟨u1, u2, u3⟩, uc⟩ := u
    simp only [tyV, encTy, List.map_cons, List.map_nil] at iu iv
    simp only [encTym, encTy, List.cons_append, List.nil_append] at hg
    simp -implicitDefEqProofs only [Jg, Jh, Jk, Jm, Jo, Jp, Jq, Jr, Jv, Jy, Jz, JC, JD, JF, JH, JJ, JK, JL, JM, JN, JP, JS, JT, JU, JV, JX, J12, J13, J14, J15, J1e, J1g, noescs, Jg, J1i, J1j, J1o ti65 rfl, J1o ti133 rfl, J1p ti9, J1p ti32, J1p ti59, J3d ti9, J3e ti59 rfl, J1q, J1r, J1B, J1C, J1K, J1M, J1N, J1O, J1P, J1T, J2b, J2c, J2g, J2v, J2w, J2x, J2z, J2A, J2C, J2D, J2F, J2G, J2H, J2I, J2K, J2L, J2Q, J2S, J2U, J2V, J2X, J2Y, ↓reduceIte, reduceCtorEq, beq_self_eq_true, cond_true, cond_false, true_and, false_and, J31, J33, decide_true, J36, eq_self, forall_const, false_implies, J37, J39, J3b, hg, Int.natCast_nonneg, Int.toNat_natCast]
    refine callS [] (iu) rfl rfl rfl ?_
    rintro _ _ ⟨rfl, rfl⟩
    refine ⟨_, _, rfl, ?_⟩
    simp -implicitDefEqProofs only [Jg, Jh, Jk, Jm, Jp, JK, JL, JM, JP, JR, JS, JT, JU, JV, JX, J12, J13, J15, J18, J1e, J1g, noescs, Jg, J1i, J1o ti65 rfl, J1o ti133 rfl, J1p ti59, J1p ti70, J3e ti59 rfl, J1q, J1r, J1B, J1C, J1K, J1T, J2c, J2v, J2w, J2x, J2C, J2D, J2F, J2G, J2H, J2I, J2K, J2L, J2Q, J2S, J2U, J2V, J2X, J2Y, ↓reduceIte, reduceCtorEq, beq_self_eq_true, cond_true, cond_false, true_and, false_and, J31, J33, J36, eq_self, J37, J39, J3b, hg, Int.natCast_nonneg, Int.toNat_natCast]
    refine callS [] (iv) rfl rfl rfl ?_
    rintro _ _ ⟨rfl, rfl⟩
    refine ⟨_, _, rfl, ?_⟩
    simp -implicitDefEqProofs only [Jm, Jp, Js, Ju, Jv, Jz, JD, JG, JJ, JK, JL, JM, JO, JP, JR, JV, JW, JX, J13, J14, J15, J18, J1i, J1k, J3d ti3, J1M, J1N, J1O, J1P, J1T, J2c, J2v, J2U, ↓reduceIte, beq_self_eq_true, cond_true, cond_false, J31, J33, eq_self, J37, hw]
    refine ⟨i + 1, by omega, by omega, ?_⟩
    exact (keepI [0, 1] _ (WkH.refl _) rfl rfl rfl ⟨⟨_, WkV.refl _, rfl⟩, ⟨_, WkV.refl _, rfl⟩, ⟨_, WkV.refl _, rfl⟩, trivial⟩)
  refine loopI (α := Nat) (fun i => [(6, .one (.d (.int .i64 i))), (3, .one (.ptr 1 0)), (2, .one (.ptr 0 0))])
    (fun _ => [.box [.d (.sl (x1.map encTym)), .d (.sl (x2.map encVam)), .d (.sl (encSt.subs x3)), .d (.sl (encSt.funs x4)), .d (.sl (encSt.sigs x5))], .box [.d (.sl (x1.map encTym)), .d (.sl (x2.map encVam)), .d (.sl (encSt.subs x3)), .d (.sl (encSt.funs x4)), .d (.sl (encSt.sigs x5))]])
    (fun i => i ≤ x2.length) (fun i => x2.length - i) 0
    (keepI [0, 1] _ (WkH.refl _) rfl rfl rfl ⟨⟨_, WkV.refl _, rfl⟩, ⟨_, WkV.refl _, rfl⟩, ⟨_, WkV.refl _, rfl⟩, trivial⟩) (Nat.zero_le _) ?_
  intro i hi
  have hw : IntKind.i64.wrap ((i : Int) + 1) = ((i + 1 : Nat) : Int) := wrap_nat (by omega)
  simp -implicitDefEqProofs only [Jm, Jo, Jp, Jr, Ju, Jv, Jy, Jz, JA, JB, JD, JE, JI, JJ, JK, JL, JN, JO, JP, JS, JT, JV, JW, J13, J14, J1i, J1j, J1o ti65 rfl, J1p ti60, J3c ti60, J3d ti3, J3e ti60 rfl, J1q, J1r, J1B, J1C, J1G, J1M, J1N, J1O, J1P, J2v, J2w, J2x, J2C, J2D, J2F, J2G, J2U, J2V, J2X, J2Y, ↓reduceIte, reduceCtorEq, beq_self_eq_true, cond_true, cond_false, true_and, false_and, J31, J33, decide_eq_true_eq, decide_eq_false_iff_not, J36, eq_self, J39, List.length_map]
  refine ⟨fun h6 => ?_, fun h6 => ?_⟩
  · have hi' : i < x2.length := by omega
    obtain ⟨u, hu⟩ : ∃ u, x2[i]? = some u := ⟨x2[i], List.getElem?_eq_getElem hi'⟩
    have hmem := List.mem_of_getElem? hu
    have hnu := sumN_mem (f := vamn) hmem
    have hnu2 : vamn u = 1 + tyn u.s.t := rfl
    have iu := vc_sameScheme u.s (by omega)
    have hg : (x2.map encVam)[i]? = some (encVam u) := by rw [List.getElem?_map, hu]; rfl
    obtain ⟨un, ⟨u0, ⟨u1, u2, u3⟩⟩⟩ := u
    simp only [scV, encSc, encTy, List.map_cons, List.map_nil] at iu
    simp only [encVam, encSc, encTy] at hg
    simp -implicitDefEqProofs only [Jg, Jh, Jk, Jm, Jo, Jp, Jq, Jr, Jv, Jy, Jz, JC, JD, JF, JH, JJ, JK, JL, JM, JN, JP, JS, JT, JU, JV, JX, J12, J13, J14, J15, J1e, J1g, noescs, Jg, J1i, J1j, J1o ti65 rfl, J1o ti126 rfl, J1p ti9, J1p ti34, J1p ti60, J3d ti9, J3e ti60 rfl, J1q, J1r, J1B, J1C, J1K, J1M, J1N, J1O, J1P, J1T, J2b, J2c, J2g, J2v, J2w, J2x, J2z, J2B, J2C, J2D, J2F, J2G, J2H, J2I, J2K, J2L, J2Q, J2S, J2U, J2V, J2X, J2Y, ↓reduceIte, reduceCtorEq, beq_self_eq_true, cond_true, cond_false, true_and, false_and, J31, J33, decide_true, J36, eq_self, forall_const, false_implies, J37, J39, J3a, J3b, hg, Int.natCast_nonneg, Int.toNat_natCast]
    refine callS [] (iu) rfl rfl rfl ?_
    rintro _ _ ⟨rfl, rfl⟩
    refine ⟨_, _, rfl, ?_⟩
    simp -implicitDefEqProofs only [Jm, Jp, Js, Ju, Jv, Jz, JD, JG, JJ, JK, JL, JM, JO, JP, JR, JV, JW, JX, J13, J14, J15, J18, J1i, J1k, J3d ti3, J1M, J1N, J1O, J1P, J1T, J2c, J2v, J2U, ↓reduceIte, beq_self_eq_true, cond_true, cond_false, J31, J33, eq_self, J37, hw]
    refine ⟨i + 1, by omega, by omega, ?_⟩
    exact (keepI [0, 1] _ (WkH.refl _) rfl rfl rfl ⟨⟨_, WkV.refl _, rfl⟩, ⟨_, WkV.refl _, rfl⟩, ⟨_, WkV.refl _, rfl⟩, trivial⟩)
  refine loopI (α := Nat) (fun i => [(7, .one (.d (.int .i64 i))), (3, .one (.ptr 1 0)), (2, .one (.ptr 0 0))])
    (fun _ => [.box [.d (.sl (x1.map encTym)), .d (.sl (x2.map encVam)), .d (.sl (encSt.subs x3)), .d (.sl (encSt.funs x4)), .d (.sl (encSt.sigs x5))], .box [.d (.sl (x1.map encTym)), .d (.sl (x2.map encVam)), .d (.sl (encSt.subs x3)), .d (.sl (encSt.funs x4)), .d (.sl (encSt.sigs x5))]])
    (fun i => i ≤ x3.length) (fun i => x3.length - i) 0
    (keepI [0, 1] _ (WkH.refl _) rfl rfl rfl ⟨⟨_, WkV.refl _, rfl⟩, ⟨_, WkV.refl _, rfl⟩, ⟨_, WkV.refl _, rfl⟩, trivial⟩) (Nat.zero_le _) ?_
  intro i hi
  have hw : IntKind.i64.wrap ((i : Int) + 1) = ((i + 1 : Nat) : Int) := wrap_nat (by omega)
  simp -implicitDefEqProofs only [Jm, Jo, Jp, Jr, Ju, Jv, Jy, Jz, JA, JB, JD, JE, JI, JJ, JK, JL, JN, JO, JP, JS, JT, JV, JW, J13, J14, J1i, J1j, J1o ti65 rfl, J1p ti61, J3c ti61, J3d ti3, J3e ti61 rfl, J1q, J1r, J1B, J1C, J1G, J1M, J1N, J1O, J1P, J2v, J2w, J2x, J2C, J2D, J2F, J2G, J2U, J2V, J2X, J2Y, ↓reduceIte, reduceCtorEq, beq_self_eq_true, cond_true, cond_false, true_and, false_and, J31, J33, decide_eq_true_eq, decide_eq_false_iff_not, J36, eq_self, J39, l3]
  refine ⟨fun h6 => ?_, fun h6 => ?_⟩
  · have hi' : i < x3.length := by omega
    obtain ⟨u, hu⟩ : ∃ u, x3[i]? = some u := ⟨x3[i], List.getElem?_eq_getElem hi'⟩
    have hmem := List.mem_of_getElem? hu
    have hnu := stn_mem hmem
    have iu := ih3 u hmem (by omega)
    have hg : (encSt.subs x3)[i]? = some (encSm u) := by rw [encSubs_sm, List.getElem?_map, hu]; rfl
    obtain ⟨un, ⟨u1, u2, u3, u4, u5⟩⟩ := u
    simp only [stV, encSt, List.map_cons, List.map_nil] at iu
    simp only [encSm, encSt] at hg
    simp -implicitDefEqProofs only [Jg, Jh, Jk, Jm, Jo, Jp, Jq, Jr, Jv, Jy, Jz, JC, JD, JF, JH, JJ, JK, JL, JM, JN, JP, JS, JT, JU, JV, JX, J12, J13, J14, J15, J1e, J1g, noescs, Jg, J1i, J1j, J1o ti65 rfl, J1o ti140 rfl, J1p ti9, J1p ti61, J1p ti65, J3d ti9, J3e ti61 rfl, J1q, J1r, J1B, J1C, J1K, J1M, J1N, J1O, J1P, J1T, J2b, J2c, J2g, J2v, J2w, J2x, J2z, J2B, J2C, J2D, J2F, J2G, J2H, J2I, J2K, J2L, J2Q, J2S, J2U, J2V, J2X, J2Y, ↓reduceIte, reduceCtorEq, beq_self_eq_true, cond_true, cond_false, true_and, false_and, J31, J33, decide_true, J36, eq_self, forall_const, false_implies, J37, J39, J3a, J3b, hg, Int.natCast_nonneg, Int.toNat_natCast]
    refine callS [] (iu) rfl rfl rfl ?_
    rintro _ _ ⟨rfl, rfl⟩
    refine ⟨_, _, rfl, ?_⟩
    simp -implicitDefEqProofs only [Jm, Jp, Js, Ju, Jv, Jz, JD, JG, JJ, JK, JL, JM, JO, JP, JR, JV, JW, JX, J13, J14, J15, J18, J1i, J1k, J3d ti3, J1M, J1N, J1O, J1P, J1T, J2c, J2v, J2U, ↓reduceIte, beq_self_eq_true, cond_true, cond_false, J31, J33, eq_self, J37, hw]
    refine ⟨i + 1, by omega, by omega, ?_⟩
    exact (keepI [0, 1] _ (WkH.refl _) rfl rfl rfl ⟨⟨_, WkV.refl _, rfl⟩, ⟨_, WkV.refl _, rfl⟩, ⟨_, WkV.refl _, rfl⟩, trivial⟩)
  refine loopI (α := Nat) (fun i => [(8, .one (.d (.int .i64 i))), (3, .one (.ptr 1 0)), (2, .one (.ptr 0 0))])
    (fun _ => [.box [.d (.sl (x1.map encTym)), .d (.sl (x2.map encVam)), .d (.sl (encSt.subs x3)), .d (.sl (encSt.funs x4)), .d (.sl (encSt.sigs x5))], .box [.d (.sl (x1.map encTym)), .d (.sl (x2.map encVam)), .d (.sl (encSt.subs x3)), .d (.sl (encSt.funs x4)), .d (.sl (encSt.sigs x5))]])
    (fun i => i ≤ x4.length) (fun i => x4.length - i) 0
    (keepI [0, 1] _ (WkH.refl _) rfl rfl rfl ⟨⟨_, WkV.refl _, rfl⟩, ⟨_, WkV.refl _, rfl⟩, ⟨_, WkV.refl _, rfl⟩, trivial⟩) (Nat.zero_le _) ?_
  intro i hi
  have hw : IntKind.i64.wrap ((i : Int) + 1) = ((i + 1 : Nat) : Int) := wrap_nat (by omega)
  simp -implicitDefEqProofs only [Jm, Jo, Jp, Jr, Ju, Jv, Jy, Jz, JA, JB, JD, JE, JI, JJ, JK, JL, JN, JO, JP, JS, JT, JV, JW, J13, J14, J1i, J1j, J1o ti65 rfl, J1p ti62, J3c ti62, J3d ti3, J3e ti62 rfl, J1q, J1r, J1B, J1C, J1G, J1M, J1N, J1O, J1P, J2v, J2w, J2x, J2C, J2D, J2F, J2G, J2U, J2V, J2X, J2Y, ↓reduceIte, reduceCtorEq, beq_self_eq_true, cond_true, cond_false, true_and, false_and, J31, J33, decide_eq_true_eq, decide_eq_false_iff_not, J36, eq_self, J39, l4]
  refine ⟨fun h6 => ?_, fun h6 => ?_⟩
  · have hi' : i < x4.length := by omega
    obtain ⟨u, hu⟩ : ∃ u, x4[i]? = some u := ⟨x4[i], List.getElem?_eq_getElem hi'⟩
    have hmem := List.mem_of_getElem? hu
    have hnu := stn_memF hmem
    have ia := vc_ints66 u.2.1 (by omega)
    have iu := (ih4 u hmem).1 (by omega)
    have iv := vc_sameAb u.2.2.2.1 u.2.2.2.2 (by omega) ((ih4 u hmem).2 (by omega))
    have hg : (encSt.funs x4)[i]? = some (encFm u) := by rw [encFuns_m, List.getElem?_map, hu]; rfl
    obtain ⟨un, l1, ⟨u1, u2, u3, u4, u5⟩, l2, ⟨w1, w2, w3, w4, w5⟩⟩ := u
    simp only [stV, abV, encSt, List.map_cons, List.map_nil] at iu iv
    simp only [encFm, encFn, encSt, List.cons_append, List.nil_append] at hg
    simp -implicitDefEqProofs only [Jg, Jh, Jk, Jm, Jo, Jp, Jq, Jr, Jv, Jy, Jz, JC, JD, JF, JH, JJ, JK, JL, JM, JN, JP, JQ, JS, JT, JU, JV, JX, J12, J13, J14, J15, J1e, J1g, noescs, Jg, J1h, J1i, J1j, J1o ti65 rfl, J1o ti89 rfl, J1o ti161 rfl, J1p ti9, J1p ti62, J1p ti85, J1p ti89, J3d ti9, J3e ti62 rfl, bt89, J3f ti89, J3g ti89, J1q, J1r, J1s, J1t, J1u, J1v, J1w, J1x, J1y, J1A, J1B, J1C, J1K, J1M, J1N, J1O, J1P, J1T, J2b, J2c, J2g, J2v, J2w, J2x, J2z, J2A, J2B, J2C, J2D, J2E, J2F, J2G, J2H, J2I, J2J, J2K, J2L, J2M, J2N, J2Q, J2S, J2U, J2V, J2X, J2Y, ↓reduceIte, reduceCtorEq, beq_self_eq_true, cond_true, cond_false, true_and, false_and, J31, J33, decide_true, J36, eq_self, forall_const, false_implies, J37, J39, J3a, J3b, hg, Int.natCast_nonneg, Int.toNat_natCast]
    refine callS [] (ia) rfl rfl rfl ?_
    rintro _ _ ⟨rfl, rfl⟩
    refine ⟨_, _, rfl, ?_⟩
    simp -implicitDefEqProofs only [Jg, Jh, Jk, Jm, Jp, JK, JL, JM, JP, JR, JS, JU, JV, JX, J12, J13, J15, J18, J1e, J1g, noescs, Jg, J1i, J1o ti89 rfl, J1p ti65, J1q, J1r, J1B, J1K, J1T, J2c, J2v, J2w, J2x, J2z, J2A, J2C, J2D, J2F, J2G, J2H, J2I, J2L, J2Q, J2S, J2U, J2X, J2Y, ↓reduceIte, reduceCtorEq, beq_self_eq_true, cond_true, cond_false, J31, J33, eq_self, J37, J39]
    refine callS [] (iu) rfl rfl rfl ?_
    rintro _ _ ⟨rfl, rfl⟩
    refine ⟨_, _, rfl, ?_⟩
    simp -implicitDefEqProofs only [Jg, Jh, Jk, Jm, Jp, JK, JL, JM, JP, JR, JS, JU, JV, JX, J12, J13, J15, J18, J1e, J1g, noescs, Jg, J1i, J1o ti89 rfl, J1p ti87, J1q, J1r, J1B, J1K, J1T, J2c, J2v, J2w, J2x, J2z, J2B, J2C, J2D, J2F, J2G, J2H, J2I, J2L, J2Q, J2S, J2U, J2X, J2Y, ↓reduceIte, reduceCtorEq, beq_self_eq_true, cond_true, cond_false, J31, J33, eq_self, J37, J39, J3a]
    refine callS [] (iv) rfl rfl rfl ?_
    rintro _ _ ⟨rfl, rfl⟩
    refine ⟨_, _, rfl, ?_⟩
    simp -implicitDefEqProofs only [Jm, Jp, Js, Ju, Jv, Jz, JD, JG, JJ, JK, JL, JM, JO, JP, JR, JV, JW, JX, J13, J14, J15, J18, J1i, J1k, J3d ti3, J1M, J1N, J1O, J1P, J1T, J2c, J2v, J2U, ↓reduceIte, beq_self_eq_true, cond_true, cond_false, J31, J33, eq_self, J37, hw]
    refine ⟨i + 1, by omega, by omega, ?_⟩
    exact (keepI [0, 1] _ (WkH.refl _) rfl rfl rfl ⟨⟨_, WkV.refl _, rfl⟩, ⟨_, WkV.refl _, rfl⟩, ⟨_, WkV.refl _, rfl⟩, trivial⟩)
  refine loopI (α := Nat) (fun i => [(11, .one (.d (.int .i64 i))), (3, .one (.ptr 1 0)), (2, .one (.ptr 0 0))])
    (fun _ => [.box [.d (.sl (x1.map encTym)), .d (.sl (x2.map encVam)), .d (.sl (encSt.subs x3)), .d (.sl (encSt.funs x4)), .d (.sl (encSt.sigs x5))], .box [.d (.sl (x1.map encTym)), .d (.sl (x2.map encVam)), .d (.sl (encSt.subs x3)), .d (.sl (encSt.funs x4)), .d (.sl (encSt.sigs x5))]])
    (fun i => i ≤ x5.length) (fun i => x5.length - i) 0
    (keepI [0, 1] _ (WkH.refl _) rfl rfl rfl ⟨⟨_, WkV.refl _, rfl⟩, ⟨_, WkV.refl _, rfl⟩, ⟨_, WkV.refl _, rfl⟩, trivial⟩) (Nat.zero_le _) ?_
  intro i hi
  have hw : IntKind.i64.wrap ((i : Int) + 1) = ((i + 1 : Nat) : Int) := wrap_nat (by omega)
  simp -implicitDefEqProofs only [Jm, Jo, Jp, Jr, Ju, Jv, Jy, Jz, JA, JB, JC, JD, JE, JI, JJ, JK, JL, JN, JO, JP, JS, JT, JV, JX, J13, J14, J1i, J1j, J1o ti65 rfl, J1p ti63, J3c ti63, J3d ti3, J3e ti63 rfl, J1q, J1r, J1B, J1C, J1G, J1M, J1N, J1O, J1P, J2v, J2w, J2x, J2C, J2D, J2F, J2G, J2U, J2V, J2X, J2Y, ↓reduceIte, reduceCtorEq, beq_self_eq_true, cond_true, cond_false, true_and, false_and, J31, J33, decide_eq_true_eq, decide_eq_false_iff_not, J36, eq_self, J39, l5]
  refine ⟨fun h6 => ?_, fun h6 => ?_⟩
  · have hi' : i < x5.length := by omega
    obtain ⟨u, hu⟩ : ∃ u, x5[i]? = some u := ⟨x5[i], List.getElem?_eq_getElem hi'⟩
    have hmem := List.mem_of_getElem? hu
    have hnu := stn_memG hmem
    have iv := vc_sameAb u.2.1 u.2.2 (by omega) (ih5 u hmem (by omega))
    have hg : (encSt.sigs x5)[i]? = some (encSig u) := by rw [encSigs_m, List.getElem?_map, hu]; rfl
    obtain ⟨un, l1, ⟨u1, u2, u3, u4, u5⟩⟩ := u
    simp only [abV, encSt, List.map_cons, List.map_nil] at iv
    simp only [encSig, encSt] at hg
    simp -implicitDefEqProofs only [Jg, Jh, Jk, Jm, Jo, Jp, Jq, Jr, Jv, Jy, Jz, JC, JD, JF, JH, JJ, JK, JL, JM, JN, JP, JS, JT, JU, JV, JX, J12, J13, J14, J15, J1e, J1g, noescs, Jg, J1i, J1j, J1o ti65 rfl, J1o ti162 rfl, J1p ti9, J1p ti63, J1p ti87, J3d ti9, J3e ti63 rfl, J1q, J1r, J1B, J1C, J1K, J1M, J1N, J1O, J1P, J1T, J2b, J2c, J2g, J2v, J2w, J2x, J2z, J2B, J2C, J2D, J2F, J2G, J2H, J2I, J2K, J2L, J2Q, J2S, J2U, J2V, J2X, J2Y, ↓reduceIte, reduceCtorEq, beq_self_eq_true, cond_true, cond_false, true_and, false_and, J31, J33, decide_true, J36, eq_self, forall_const, false_implies, J37, J39, J3a, J3b, hg, Int.natCast_nonneg, Int.toNat_natCast]
    refine callS [] (iv) rfl rfl rfl ?_
    rintro _ _ ⟨rfl, rfl⟩
    refine ⟨_, _, rfl, ?_⟩
    simp -implicitDefEqProofs only [Jm, Jp, Js, Ju, Jv, Jz, JD, JG, JJ, JK, JL, JM, JO, JP, JR, JV, JW, JX, J13, J14, J15, J18, J1i, J1k, J3d ti3, J1M, J1N, J1O, J1P, J1T, J2c, J2v, J2U, ↓reduceIte, beq_self_eq_true, cond_true, cond_false, J31, J33, eq_self, J37, hw]
    refine ⟨i + 1, by omega, by omega, ?_⟩
    exact (keepI [0, 1] _ (WkH.refl _) rfl rfl rfl ⟨⟨_, WkV.refl _, rfl⟩, ⟨_, WkV.refl _, rfl⟩, ⟨_, WkV.refl _, rfl⟩, trivial⟩)
  apply vend_of []; rfl; rfl
  exact ⟨rfl, rfl⟩

end Go.Vt.Tryz
