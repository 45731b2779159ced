/- The environment laws: an environment copied is what it was. -/
import Derived.Test.YtdabfkmhkoppcaaGreatDoorVtL7
set_option maxRecDepth 100000
set_option linter.unusedSimpArgs false
namespace Go.Vt.Tryz
open Go.Vt renaming opsW_nil → J6, opsW_cons → J7, again_nil → J8, again_cons → J9, obOf_nil → Ja, obOf_cons → Jb, wadd → Jc, ro → Jd, ob_some → Jm, vbool_eq → Jo, vif_tt → Jp, vif_ff → Jq, vD_bool → Jr, vD_int → Js, wp_skip → Ju, wp_ops → Jv, wp_opsW → Jw, wp_seq → Jy, wp_cond → Jz, wp_block → JA, wp_exit → JB, wp_ret → JC, th_normal → JD, th_exit → JE, bl_normal → JG, bl_exit → JI, ops_nil → JJ, ops_cons → JK, go_none → JL, cond_tt → JN, cond_ff → JO, put_some → JP, put_none → JQ, asL → JS, asI → JT, opd_tmp → JV, opd_int → JW, so_move → J13, so_assign → J14, so_box → J16, bobj_none → J1h, lk_cons → J1i, nilC_tmp → J1j, nilC_int → J1k, so_alloc → J1o, so_fieldAddr → J1p, so_load → J1q, so_len → J1r, so_bin → J1s, so_indexAddr → J1t, so_build → J1u, so_buildSlice → J1v, so_append → J1w, so_store → J1x, vload → J1y, mkV → J1z, vstore → J1A, vcells → J1B, known → J1C, toDs → J1D, toD → J1E, fzLs → J1F, fzL → J1G, fzOne → J1H, splice → J1I, vfieldAddr → J1J, vindexAddr → J1K, vbuild → J1L, vfill → J1M, vbr → J1N, vlen → J1O, opdPairs → J1T, vbin2 → J1U, vbin → J1V, vint → J1W, vstr → J1X, vrowsOf → J22, vrows → J25, fzVs → J26, vapp → J27, vcellsOf → J28, vappendP → J29, vappend → J2a, allLen → J2b, zok → J2c
open List renaming any_cons → Je, any_nil → Jf, contains_cons → Jg, contains_nil → Jh, lookup_nil → J2D, getElem?_cons_zero → J2E, getElem?_cons_succ → J2F, take_succ_cons → J2H, take_zero → J2I, take_nil → J2J, drop_succ_cons → J2K, drop_zero → J2L, drop_nil → J2M, length_cons → J2N, length_nil → J2O, append_nil → J2P, nil_append → J2Q, cons_append → J2R, map_cons → J2S, map_nil → J2T, set_cons_zero → J2U, set_cons_succ → J2V, all_cons → J2X, all_nil → J2Y
open Bool renaming or_true → Ji, or_false → Jk, and_true → J30, true_and → J31, false_eq_true → J3e
open Nat renaming reduceBEq → J32, reduceEqDiff → J33, reduceLeDiff → J35, reduceAdd → J36, reduceMul → J37, zero_add → J3h, le_refl → J3i, add_zero → J3j
open Option renaming map_some → J39, bind_some → J3b, isSome_some → J3d
open Go.Proofs

structure ConE where
  name : ByteArray
  t : Ty
  args : List Ty
  n : Int
  all : List Ct
  x : Tm
  out : Tm
def encCon (c : ConE) : List D := .str c.name :: (encTy c.t ++ (.sl (encTy.encs c.args) :: .int .i64 c.n :: .sl (c.all.map encCt) :: (encTm c.x ++ encTm c.out)))
abbrev FnE := List Int × Stx × List Int × Stx
def encFn (x : FnE) : List D := .sl (nums x.1) :: (encSt x.2.1 ++ (.sl (nums x.2.2.1) :: encSt x.2.2.2))
abbrev FunE := ByteArray × FnE × Tm
def encFun (x : FunE) : List D := .str x.1 :: (encFn x.2.1 ++ encTm x.2.2)
abbrev SigE := ByteArray × List Int × Stx
def encSig (x : SigE) : List D := .str x.1 :: (.sl (nums x.2.1) :: encSt x.2.2)

def envV (vals : List ValE) (cons : List ConE) (typs : List Tym) (subs : List SubE) (funs : List FunE) (sigs : List SigE) : V :=
  .agg [.d (.sl (vals.map encVal)), .d (.sl (cons.map encCon)), .d (.sl (typs.map encTym)), .d (.sl (subs.map encSub)), .d (.sl (funs.map encFun)), .d (.sl (sigs.map encSig))]

theorem take_succ_of {l : List (List D)} {i : Nat} {u : List D} (h : l[i]? = some u) : l.take i ++ [u] = l.take (i + 1) := by
  rw [List.take_add_one, h]; rfl

set_option maxHeartbeats 4000000 in
theorem vc_Own (vals : List ValE) (cons : List ConE) (typs : List Tym) (subs : List SubE) (funs : List FunE) (sigs : List SigE) (h0 : vals.length < 1000000000) (h1 : cons.length < 1000000000) (h2 : typs.length < 1000000000) (h3 : subs.length < 1000000000) (h4 : funs.length < 1000000000) (h5 : sigs.length < 1000000000) :
    VC Tryz.prog 9 [envV vals cons typs subs funs sigs] [] fun r h' => r = envV vals cons typs subs funs sigs ∧ h' = [] := by
  unfold envV
  refine VC_of_fn mixed fn9 (by simp) ?_
  show vwp Tryz.prog 0 vc9 _ [(0, .agg [.d (.sl (vals.map encVal)), .d (.sl (cons.map encCon)), .d (.sl (typs.map encTym)), .d (.sl (subs.map encSub)), .d (.sl (funs.map encFun)), .d (.sl (sigs.map encSig))])] []
  unfold vc9
  rw [vwpI_eq]
  simp -implicitDefEqProofs only [Jm, Jv, Jy, JA, JD, JJ, JK, JL, JP, JV, JW, J14, J16, J1h, J1i, bt29, bt52, J1o ti52, J1B, J1C, J2D, J2N, J2O, J2Q, J2R, J36, ↓reduceIte, beq_self_eq_true, cond_true, J39, J3b, eq_self, J3h]
  refine loopI (α := Nat) (fun i => [(4, .one (.d (.int .i64 i))), (3, .one (.ptr 2 0)), (2, .one (.ptr 1 0)), (1, .one (.ptr 0 0))])
    (fun i => [.box [.d (.sl (vals.map encVal)), .d (.sl (cons.map encCon)), .d (.sl (typs.map encTym)), .d (.sl (subs.map encSub)), .d (.sl (funs.map encFun)), .d (.sl (sigs.map encSig))], .box [.nils, .nils, .nils, .nils, .nils, .nils], .box [.own 3 i i, .nils, .nils, .nils, .nils, .nils], .arr false 12 i ((vals.map encVal).take i)])
    (fun i => i ≤ vals.length) (fun i => vals.length - i) 0
    (keepG [] [(2, 0, 12)] [0, 1, 2, 3] _ rfl rfl (WkH.refl _) rfl rfl rfl ⟨⟨_, WkV.refl _, rfl⟩, ⟨_, WkV.refl _, rfl⟩, ⟨_, WkV.refl _, rfl⟩, ⟨_, WkV.refl _, rfl⟩, trivial⟩) (Nat.zero_le _) ?_
  intro i hi
  have hw : IntKind.i64.wrap ((i : Int) + 1) = ((i + 1 : Nat) : Int) := wrap_nat (by omega)
  simp -implicitDefEqProofs only [J7, Jc, Jd, Je, Jf, Jg, Jh, Ji, Jk, Jm, Jo, Jp, Jr, Ju, Jv, Jw, Jy, Jz, JA, JB, JD, JE, JI, JJ, JK, JL, JN, JO, JP, JS, JT, JV, JW, J13, J14, Jg, J1i, J1j, J1p ti29 rfl, J1p ti52 rfl, J1q ti22, J1q ti45, J1r ti22, J1s ti3, J1t ti22 rfl, J1y, J1z, J1J, J1K, J1O, J1U, J1V, J1W, J1X, J2D, J2E, J2F, J2L, J2N, J2O, J32, J33, J35, J36, ↓reduceIte, reduceCtorEq, beq_self_eq_true, cond_true, cond_false, true_and, false_and, J39, J3b, decide_eq_true_eq, decide_eq_false_iff_not, J3e, eq_self, J3h, J3j, List.length_map]
  refine ⟨fun g1 => ?_, fun g1 => ?_⟩
  · have hi' : i < vals.length := by omega
    obtain ⟨u, hu⟩ : ∃ u, vals[i]? = some u := ⟨vals[i], List.getElem?_eq_getElem hi'⟩
    have hg : (vals.map encVal)[i]? = some (encVal u) := by rw [List.getElem?_map, hu]; rfl
    obtain ⟨un, ⟨u0, ⟨u1, u2, u3⟩⟩, ⟨v1, v2, v3, v4, v5, v6, v7⟩⟩ := u
    simp only [encVal, encSc, encTy, encTm, List.cons_append, List.nil_append] at hg
    have hcap : (i + 1) * 176 ≤ maxBytes ∧ i + 1 ≤ maxBytes := by simp [maxBytes]; omega
    have htk : ((vals.map encVal).take i).take i = (vals.map encVal).take i := by rw [List.take_take, Nat.min_self]
    simp -implicitDefEqProofs only [J6, J7, J8, J9, Ja, Jb, Jc, Jd, Je, Jf, Jg, Jh, Ji, Jk, Jm, Jp, Jq, Js, Jv, JD, JG, JJ, JK, JL, JP, JQ, JS, JT, JV, JW, J13, J14, Jg, J1i, J1k, J1p ti29 rfl, J1p ti41 rfl, J1p ti52 rfl, J1q ti9, J1q ti22, J1q ti34, J1q ti39, J1q ti45, J1s ti3, J1t ti22 rfl, J1u ti42, J1v ti45 rfl, J1w ti45 rfl, J1x ti45, J1y, J1z, J1A, J1B, J1C, J1D, J1E, J1F, J1G, J1H, AObj.freeze, J1I, J1J, J1K, J1L, J1M, J1N, J1T, J1U, J1V, J1W, J1X, J22, J25, J26, J27, J28, J29, J2a, J2b, J2c, J2D, J2E, J2F, J2H, J2I, J2J, J2K, J2L, J2M, J2N, J2O, J2P, J2Q, J2R, J2S, J2T, J2U, J2V, J2X, J2Y, J30, J31, J32, J33, J35, J36, J37, ↓reduceIte, reduceCtorEq, beq_self_eq_true, cond_true, cond_false, true_and, and_true, false_and, and_self, J39, J3b, J3d, bne_iff_ne, J3e, eq_self, not_false_eq_true, ne_eq, J3h, J3i, J3j, hg, hw, hcap, htk, Int.natCast_nonneg, Int.toNat_natCast]
    have happ := take_succ_of hg
    simp only [happ]
    refine ⟨i + 1, by omega, by omega, ?_⟩
    exact (keepI [0, 1, 2, 3] _ (WkH.refl _) rfl rfl rfl ⟨⟨_, WkV.refl _, rfl⟩, ⟨_, WkV.refl _, rfl⟩, ⟨_, WkV.refl _, rfl⟩, ⟨_, WkV.refl _, rfl⟩, trivial⟩)
  have : i = vals.length := by omega
  subst this
  refine loopI (α := Nat) (fun i => [(5, .one (.d (.int .i64 i))), (3, .one (.ptr 2 0)), (2, .one (.ptr 1 0)), (1, .one (.ptr 0 0))])
    (fun i => [.box [.d (.sl (vals.map encVal)), .d (.sl (cons.map encCon)), .d (.sl (typs.map encTym)), .d (.sl (subs.map encSub)), .d (.sl (funs.map encFun)), .d (.sl (sigs.map encSig))], .box [.nils, .nils, .nils, .nils, .nils, .nils], .box [.own 3 vals.length vals.length, .own 4 i i, .nils, .nils, .nils, .nils], .arr false 12 vals.length ((vals.map encVal).take vals.length), .arr false 21 i ((cons.map encCon).take i)])
    (fun i => i ≤ cons.length) (fun i => cons.length - i) 0
    (keepG [] [(2, 1, 21)] [0, 1, 2, 3, 4] _ rfl rfl (WkH.refl _) rfl rfl rfl ⟨⟨_, WkV.refl _, rfl⟩, ⟨_, WkV.refl _, rfl⟩, ⟨_, WkV.refl _, rfl⟩, ⟨_, WkV.refl _, rfl⟩, trivial⟩) (Nat.zero_le _) ?_
  intro i hi
  have hw : IntKind.i64.wrap ((i : Int) + 1) = ((i + 1 : Nat) : Int) := wrap_nat (by omega)
  simp -implicitDefEqProofs only [Jm, Jo, Jp, Jr, Ju, Jv, Jy, Jz, JA, JB, JD, JE, JI, JJ, JK, JL, JN, JO, JP, JS, JT, JV, JW, J13, J14, J1i, J1j, J1p ti29 rfl, J1q ti23, J1r ti23, J1s ti3, J1t ti23 rfl, J1y, J1z, J1J, J1K, J1O, J1U, J1V, J1W, J1X, J2D, J2E, J2F, J2K, J2L, J2N, J2O, J32, J33, J35, J36, ↓reduceIte, reduceCtorEq, beq_self_eq_true, cond_true, cond_false, true_and, false_and, J39, J3b, decide_eq_true_eq, decide_eq_false_iff_not, J3e, eq_self, J3h, List.length_map]
  refine ⟨fun g1 => ?_, fun g1 => ?_⟩
  · have hi' : i < cons.length := by omega
    obtain ⟨u, hu⟩ : ∃ u, cons[i]? = some u := ⟨cons[i], List.getElem?_eq_getElem hi'⟩
    have hg : (cons.map encCon)[i]? = some (encCon u) := by rw [List.getElem?_map, hu]; rfl
    obtain ⟨un, ⟨u1, u2, u3⟩, ua, ui, ul, ⟨v1, v2, v3, v4, v5, v6, v7⟩, ⟨w1, w2, w3, w4, w5, w6, w7⟩⟩ := u
    simp only [encCon, encTy, encTm, List.cons_append, List.nil_append] at hg
    have hcap : (i + 1) * 336 ≤ maxBytes ∧ i + 1 ≤ maxBytes := by simp [maxBytes]; omega
    have htk : ((cons.map encCon).take i).take i = (cons.map encCon).take i := by rw [List.take_take, Nat.min_self]
    simp -implicitDefEqProofs only [Jm, Js, Jv, JD, JG, JJ, JK, JL, JP, JQ, JS, JV, JW, J13, J14, J1h, J1i, J1k, bt118, J1o ti118, J1p ti52 rfl, J1p ti118 rfl, J1q ti3, J1q ti9, J1q ti30, J1q ti32, J1q ti39, J1q ti46, J1q ti70, J1q ti118, J1s ti3, J1u ti119, J1v ti46 rfl, J1w ti46 rfl, J1x ti46, J1x ti118, J1y, J1z, J1A, J1B, J1C, J1D, J1E, J1F, J1G, J1H, AObj.freeze, J1I, J1J, J1L, J1M, J1N, J1T, J1U, J1V, J1W, J1X, J22, J25, J26, J27, J28, J29, J2a, J2b, J2c, J2D, J2E, J2F, J2H, J2I, J2J, J2K, J2L, J2M, J2N, J2O, J2P, J2Q, J2R, J2S, J2T, J2U, J2V, J2X, J2Y, J30, J31, J32, J33, J35, J36, J37, ↓reduceIte, reduceCtorEq, beq_self_eq_true, cond_true, cond_false, true_and, and_true, false_and, and_self, J39, J3b, J3d, bne_iff_ne, J3e, eq_self, not_false_eq_true, ne_eq, J3h, J3i, J3j, hg, hw, hcap, htk, Int.natCast_nonneg, Int.toNat_natCast]
    have happ := take_succ_of hg
    simp only [happ]
    refine ⟨i + 1, by omega, by omega, ?_⟩
    exact (keepI [0, 1, 2, 3, 4] _ (WkH.refl _) rfl rfl rfl ⟨⟨_, WkV.refl _, rfl⟩, ⟨_, WkV.refl _, rfl⟩, ⟨_, WkV.refl _, rfl⟩, ⟨_, WkV.refl _, rfl⟩, trivial⟩)
  have : i = cons.length := by omega
  subst this
  refine loopI (α := Nat) (fun i => [(7, .one (.d (.int .i64 i))), (3, .one (.ptr 2 0)), (2, .one (.ptr 1 0)), (1, .one (.ptr 0 0))])
    (fun i => [.box [.d (.sl (vals.map encVal)), .d (.sl (cons.map encCon)), .d (.sl (typs.map encTym)), .d (.sl (subs.map encSub)), .d (.sl (funs.map encFun)), .d (.sl (sigs.map encSig))], .box [.nils, .nils, .nils, .nils, .nils, .nils], .box [.own 3 vals.length vals.length, .own 4 cons.length cons.length, .own 5 i i, .nils, .nils, .nils], .arr false 12 vals.length ((vals.map encVal).take vals.length), .arr false 21 cons.length ((cons.map encCon).take cons.length), .arr false 5 i ((typs.map encTym).take i)])
    (fun i => i ≤ typs.length) (fun i => typs.length - i) 0
    (keepG [] [(2, 2, 5)] [0, 1, 2, 3, 4, 5] _ rfl rfl (WkH.refl _) rfl rfl rfl ⟨⟨_, WkV.refl _, rfl⟩, ⟨_, WkV.refl _, rfl⟩, ⟨_, WkV.refl _, rfl⟩, ⟨_, WkV.refl _, rfl⟩, trivial⟩) (Nat.zero_le _) ?_
  intro i hi
  have hw : IntKind.i64.wrap ((i : Int) + 1) = ((i + 1 : Nat) : Int) := wrap_nat (by omega)
  simp -implicitDefEqProofs only [J7, Jc, Jd, Je, Jf, Jg, Jh, Ji, Jk, Jm, Jo, Jp, Jr, Ju, Jv, Jw, Jy, Jz, JA, JB, JD, JE, JI, JJ, JK, JL, JN, JO, JP, JS, JT, JV, JW, J13, J14, Jg, J1i, J1j, J1p ti29 rfl, J1p ti52 rfl, J1q ti24, J1q ti47, J1r ti24, J1s ti3, J1t ti24 rfl, J1y, J1z, J1J, J1K, J1O, J1U, J1V, J1W, J1X, J2D, J2E, J2F, J2K, J2L, J2N, J2O, J32, J33, J35, J36, ↓reduceIte, reduceCtorEq, beq_self_eq_true, cond_true, cond_false, true_and, false_and, J39, J3b, decide_eq_true_eq, decide_eq_false_iff_not, J3e, eq_self, J3h, List.length_map]
  refine ⟨fun g1 => ?_, fun g1 => ?_⟩
  · have hi' : i < typs.length := by omega
    obtain ⟨u, hu⟩ : ∃ u, typs[i]? = some u := ⟨typs[i], List.getElem?_eq_getElem hi'⟩
    have hg : (typs.map encTym)[i]? = some (encTym u) := by rw [List.getElem?_map, hu]; rfl
    obtain ⟨un, ⟨u1, u2, u3⟩, ul⟩ := u
    simp only [encTym, encTy, List.cons_append, List.nil_append] at hg
    have hcap : (i + 1) * 80 ≤ maxBytes ∧ i + 1 ≤ maxBytes := by simp [maxBytes]; omega
    have htk : ((typs.map encTym).take i).take i = (typs.map encTym).take i := by rw [List.take_take, Nat.min_self]
    simp -implicitDefEqProofs only [J6, J7, J8, J9, Ja, Jb, Jc, Jd, Je, Jf, Jg, Jh, Ji, Jk, Jm, Jp, Jq, Js, Jv, JD, JG, JJ, JK, JL, JP, JQ, JS, JT, JV, JW, J13, J14, Jg, J1i, J1k, J1p ti29 rfl, J1p ti52 rfl, J1p ti78 rfl, J1q ti9, J1q ti24, J1q ti32, J1q ti47, J1q ti70, J1s ti3, J1t ti24 rfl, J1u ti72, J1v ti47 rfl, J1w ti47 rfl, J1x ti47, J1y, J1z, J1A, J1B, J1C, J1D, J1E, J1F, J1G, J1H, AObj.freeze, J1I, J1J, J1K, J1L, J1M, J1N, J1T, J1U, J1V, J1W, J1X, J22, J25, J26, J27, J28, J29, J2a, J2b, J2c, J2D, J2E, J2F, J2H, J2I, J2J, J2K, J2L, J2M, J2N, J2O, J2P, J2Q, J2R, J2S, J2T, J2U, J2V, J2X, J2Y, J30, J31, J32, J33, J35, J36, J37, ↓reduceIte, reduceCtorEq, beq_self_eq_true, cond_true, cond_false, true_and, and_true, false_and, and_self, J39, J3b, J3d, bne_iff_ne, J3e, eq_self, not_false_eq_true, ne_eq, J3h, J3i, J3j, hg, hw, hcap, htk, Int.natCast_nonneg, Int.toNat_natCast]
    have happ := take_succ_of hg
    simp only [happ]
    refine ⟨i + 1, by omega, by omega, ?_⟩
    exact (keepI [0, 1, 2, 3, 4, 5] _ (WkH.refl _) rfl rfl rfl ⟨⟨_, WkV.refl _, rfl⟩, ⟨_, WkV.refl _, rfl⟩, ⟨_, WkV.refl _, rfl⟩, ⟨_, WkV.refl _, rfl⟩, trivial⟩)
  have : i = typs.length := by omega
  subst this
  refine loopI (α := Nat) (fun i => [(8, .one (.d (.int .i64 i))), (3, .one (.ptr 2 0)), (2, .one (.ptr 1 0)), (1, .one (.ptr 0 0))])
    (fun i => [.box [.d (.sl (vals.map encVal)), .d (.sl (cons.map encCon)), .d (.sl (typs.map encTym)), .d (.sl (subs.map encSub)), .d (.sl (funs.map encFun)), .d (.sl (sigs.map encSig))], .box [.nils, .nils, .nils, .nils, .nils, .nils], .box [.own 3 vals.length vals.length, .own 4 cons.length cons.length, .own 5 typs.length typs.length, .own 6 i i, .nils, .nils], .arr false 12 vals.length ((vals.map encVal).take vals.length), .arr false 21 cons.length ((cons.map encCon).take cons.length), .arr false 5 typs.length ((typs.map encTym).take typs.length), .arr false 13 i ((subs.map encSub).take i)])
    (fun i => i ≤ subs.length) (fun i => subs.length - i) 0
    (keepG [] [(2, 3, 13)] [0, 1, 2, 3, 4, 5, 6] _ rfl rfl (WkH.refl _) rfl rfl rfl ⟨⟨_, WkV.refl _, rfl⟩, ⟨_, WkV.refl _, rfl⟩, ⟨_, WkV.refl _, rfl⟩, ⟨_, WkV.refl _, rfl⟩, trivial⟩) (Nat.zero_le _) ?_
  intro i hi
  have hw : IntKind.i64.wrap ((i : Int) + 1) = ((i + 1 : Nat) : Int) := wrap_nat (by omega)
  simp -implicitDefEqProofs only [J7, Jc, Jd, Je, Jf, Jg, Jh, Ji, Jk, Jm, Jo, Jp, Jr, Ju, Jv, Jw, Jy, Jz, JA, JB, JD, JE, JI, JJ, JK, JL, JN, JO, JP, JS, JT, JV, JW, J13, J14, Jg, J1i, J1j, J1p ti29 rfl, J1p ti52 rfl, J1q ti25, J1q ti48, J1r ti25, J1s ti3, J1t ti25 rfl, J1y, J1z, J1J, J1K, J1O, J1U, J1V, J1W, J1X, J2D, J2E, J2F, J2K, J2L, J2N, J2O, J32, J33, J35, J36, ↓reduceIte, reduceCtorEq, beq_self_eq_true, cond_true, cond_false, true_and, false_and, J39, J3b, decide_eq_true_eq, decide_eq_false_iff_not, J3e, eq_self, J3h, List.length_map]
  refine ⟨fun g1 => ?_, fun g1 => ?_⟩
  · have hi' : i < subs.length := by omega
    obtain ⟨u, hu⟩ : ∃ u, subs[i]? = some u := ⟨subs[i], List.getElem?_eq_getElem hi'⟩
    have hg : (subs.map encSub)[i]? = some (encSub u) := by rw [List.getElem?_map, hu]; rfl
    obtain ⟨un, ⟨x1, x2, x3, x4, x5⟩, ⟨v1, v2, v3, v4, v5, v6, v7⟩⟩ := u
    simp only [encSub, encSt, encTm, List.cons_append, List.nil_append] at hg
    have hcap : (i + 1) * 248 ≤ maxBytes ∧ i + 1 ≤ maxBytes := by simp [maxBytes]; omega
    have htk : ((subs.map encSub).take i).take i = (subs.map encSub).take i := by rw [List.take_take, Nat.min_self]
    simp -implicitDefEqProofs only [J6, J7, J8, J9, Ja, Jb, Jc, Jd, Je, Jf, Jg, Jh, Ji, Jk, Jm, Jp, Jq, Js, Jv, JD, JG, JJ, JK, JL, JP, JQ, JS, JT, JV, JW, J13, J14, Jg, J1i, J1k, J1p ti29 rfl, J1p ti52 rfl, J1p ti81 rfl, J1q ti9, J1q ti25, J1q ti39, J1q ti48, J1q ti65, J1s ti3, J1t ti25 rfl, J1u ti67, J1v ti48 rfl, J1w ti48 rfl, J1x ti48, J1y, J1z, J1A, J1B, J1C, J1D, J1E, J1F, J1G, J1H, AObj.freeze, J1I, J1J, J1K, J1L, J1M, J1N, J1T, J1U, J1V, J1W, J1X, J22, J25, J26, J27, J28, J29, J2a, J2b, J2c, J2D, J2E, J2F, J2H, J2I, J2J, J2K, J2L, J2M, J2N, J2O, J2P, J2Q, J2R, J2S, J2T, J2U, J2V, J2X, J2Y, J30, J31, J32, J33, J35, J36, J37, ↓reduceIte, reduceCtorEq, beq_self_eq_true, cond_true, cond_false, true_and, and_true, false_and, and_self, J39, J3b, J3d, bne_iff_ne, J3e, eq_self, not_false_eq_true, ne_eq, J3h, J3i, J3j, hg, hw, hcap, htk, Int.natCast_nonneg, Int.toNat_natCast]
    have happ := take_succ_of hg
    simp only [happ]
    refine ⟨i + 1, by omega, by omega, ?_⟩
    exact (keepI [0, 1, 2, 3, 4, 5, 6] _ (WkH.refl _) rfl rfl rfl ⟨⟨_, WkV.refl _, rfl⟩, ⟨_, WkV.refl _, rfl⟩, ⟨_, WkV.refl _, rfl⟩, ⟨_, WkV.refl _, rfl⟩, trivial⟩)
  have : i = subs.length := by omega
  subst this
  refine loopI (α := Nat) (fun i => [(9, .one (.d (.int .i64 i))), (3, .one (.ptr 2 0)), (2, .one (.ptr 1 0)), (1, .one (.ptr 0 0))])
    (fun i => [.box [.d (.sl (vals.map encVal)), .d (.sl (cons.map encCon)), .d (.sl (typs.map encTym)), .d (.sl (subs.map encSub)), .d (.sl (funs.map encFun)), .d (.sl (sigs.map encSig))], .box [.nils, .nils, .nils, .nils, .nils, .nils], .box [.own 3 vals.length vals.length, .own 4 cons.length cons.length, .own 5 typs.length typs.length, .own 6 subs.length subs.length, .own 7 i i, .nils], .arr false 12 vals.length ((vals.map encVal).take vals.length), .arr false 21 cons.length ((cons.map encCon).take cons.length), .arr false 5 typs.length ((typs.map encTym).take typs.length), .arr false 13 subs.length ((subs.map encSub).take subs.length), .arr false 20 i ((funs.map encFun).take i)])
    (fun i => i ≤ funs.length) (fun i => funs.length - i) 0
    (keepG [] [(2, 4, 20)] [0, 1, 2, 3, 4, 5, 6, 7] _ rfl rfl (WkH.refl _) rfl rfl rfl ⟨⟨_, WkV.refl _, rfl⟩, ⟨_, WkV.refl _, rfl⟩, ⟨_, WkV.refl _, rfl⟩, ⟨_, WkV.refl _, rfl⟩, trivial⟩) (Nat.zero_le _) ?_
  intro i hi
  have hw : IntKind.i64.wrap ((i : Int) + 1) = ((i + 1 : Nat) : Int) := wrap_nat (by omega)
  simp -implicitDefEqProofs only [J7, Jc, Jd, Je, Jf, Jg, Jh, Ji, Jk, Jm, Jo, Jp, Jr, Ju, Jv, Jw, Jy, Jz, JA, JB, JD, JE, JI, JJ, JK, JL, JN, JO, JP, JS, JT, JV, JW, J13, J14, Jg, J1i, J1j, J1p ti29 rfl, J1p ti52 rfl, J1q ti26, J1q ti49, J1r ti26, J1s ti3, J1t ti26 rfl, J1y, J1z, J1J, J1K, J1O, J1U, J1V, J1W, J1X, J2D, J2E, J2F, J2K, J2L, J2N, J2O, J32, J33, J35, J36, ↓reduceIte, reduceCtorEq, beq_self_eq_true, cond_true, cond_false, true_and, false_and, J39, J3b, decide_eq_true_eq, decide_eq_false_iff_not, J3e, eq_self, J3h, List.length_map]
  refine ⟨fun g1 => ?_, fun g1 => ?_⟩
  · have hi' : i < funs.length := by omega
    obtain ⟨u, hu⟩ : ∃ u, funs[i]? = some u := ⟨funs[i], List.getElem?_eq_getElem hi'⟩
    have hg : (funs.map encFun)[i]? = some (encFun u) := by rw [List.getElem?_map, hu]; rfl
    obtain ⟨un, ⟨l, ⟨x1, x2, x3, x4, x5⟩, m, ⟨y1, y2, y3, y4, y5⟩⟩, ⟨v1, v2, v3, v4, v5, v6, v7⟩⟩ := u
    simp only [encFun, encFn, encSt, encTm, List.cons_append, List.nil_append] at hg
    have hcap : (i + 1) * 416 ≤ maxBytes ∧ i + 1 ≤ maxBytes := by simp [maxBytes]; omega
    have htk : ((funs.map encFun).take i).take i = (funs.map encFun).take i := by rw [List.take_take, Nat.min_self]
    simp -implicitDefEqProofs only [J6, J7, J8, J9, Ja, Jb, Jc, Jd, Je, Jf, Jg, Jh, Ji, Jk, Jm, Jp, Jq, Js, Jv, JD, JG, JJ, JK, JL, JP, JQ, JS, JT, JV, JW, J13, J14, Jg, J1i, J1k, J1p ti29 rfl, J1p ti52 rfl, J1p ti94 rfl, J1q ti9, J1q ti26, J1q ti39, J1q ti49, J1q ti89, J1s ti3, J1t ti26 rfl, J1u ti91, J1v ti49 rfl, J1w ti49 rfl, J1x ti49, J1y, J1z, J1A, J1B, J1C, J1D, J1E, J1F, J1G, J1H, AObj.freeze, J1I, J1J, J1K, J1L, J1M, J1N, J1T, J1U, J1V, J1W, J1X, J22, J25, J26, J27, J28, J29, J2a, J2b, J2c, J2D, J2E, J2F, J2H, J2I, J2J, J2K, J2L, J2M, J2N, J2O, J2P, J2Q, J2R, J2S, J2T, J2U, J2V, J2X, J2Y, J30, J31, J32, J33, J35, J36, J37, ↓reduceIte, reduceCtorEq, beq_self_eq_true, cond_true, cond_false, true_and, and_true, false_and, and_self, J39, J3b, J3d, bne_iff_ne, J3e, eq_self, not_false_eq_true, ne_eq, J3h, J3i, J3j, hg, hw, hcap, htk, Int.natCast_nonneg, Int.toNat_natCast]
    have happ := take_succ_of hg
    simp only [happ]
    refine ⟨i + 1, by omega, by omega, ?_⟩
    exact (keepI [0, 1, 2, 3, 4, 5, 6, 7] _ (WkH.refl _) rfl rfl rfl ⟨⟨_, WkV.refl _, rfl⟩, ⟨_, WkV.refl _, rfl⟩, ⟨_, WkV.refl _, rfl⟩, ⟨_, WkV.refl _, rfl⟩, trivial⟩)
  have : i = funs.length := by omega
  subst this
  refine loopI (α := Nat) (fun i => [(10, .one (.d (.int .i64 i))), (3, .one (.ptr 2 0)), (2, .one (.ptr 1 0)), (1, .one (.ptr 0 0))])
    (fun i => [.box [.d (.sl (vals.map encVal)), .d (.sl (cons.map encCon)), .d (.sl (typs.map encTym)), .d (.sl (subs.map encSub)), .d (.sl (funs.map encFun)), .d (.sl (sigs.map encSig))], .box [.nils, .nils, .nils, .nils, .nils, .nils], .box [.own 3 vals.length vals.length, .own 4 cons.length cons.length, .own 5 typs.length typs.length, .own 6 subs.length subs.length, .own 7 funs.length funs.length, .own 8 i i], .arr false 12 vals.length ((vals.map encVal).take vals.length), .arr false 21 cons.length ((cons.map encCon).take cons.length), .arr false 5 typs.length ((typs.map encTym).take typs.length), .arr false 13 subs.length ((subs.map encSub).take subs.length), .arr false 20 funs.length ((funs.map encFun).take funs.length), .arr false 7 i ((sigs.map encSig).take i)])
    (fun i => i ≤ sigs.length) (fun i => sigs.length - i) 0
    (keepG [] [(2, 5, 7)] [0, 1, 2, 3, 4, 5, 6, 7, 8] _ rfl rfl (WkH.refl _) rfl rfl rfl ⟨⟨_, WkV.refl _, rfl⟩, ⟨_, WkV.refl _, rfl⟩, ⟨_, WkV.refl _, rfl⟩, ⟨_, WkV.refl _, rfl⟩, trivial⟩) (Nat.zero_le _) ?_
  intro i hi
  have hw : IntKind.i64.wrap ((i : Int) + 1) = ((i + 1 : Nat) : Int) := wrap_nat (by omega)
  simp -implicitDefEqProofs only [J7, Jc, Jd, Je, Jf, Jg, Jh, Ji, Jk, Jm, Jo, Jp, Jr, Ju, Jv, Jw, Jy, Jz, JA, JB, JC, JD, JE, JI, JJ, JK, JL, JN, JO, JP, JQ, JS, JT, JV, J13, Jg, J1i, J1j, J1p ti29 rfl, J1p ti52 rfl, J1q ti27, J1q ti50, J1q ti52, J1r ti27, J1s ti3, J1t ti27 rfl, J1x ti52, J1y, J1z, J1A, J1B, J1C, J1D, J1E, J1F, J1G, J1H, AObj.freeze, J1I, J1J, J1K, J1O, J1U, J1V, J1W, J1X, J2D, J2E, J2F, J2H, J2I, J2J, J2K, J2L, J2M, J2N, J2O, J2P, J2Q, J2U, J2V, J32, J33, J35, J36, ↓reduceIte, reduceCtorEq, beq_self_eq_true, cond_true, cond_false, true_and, false_and, J39, J3b, decide_eq_true_eq, decide_eq_false_iff_not, J3e, eq_self, J3h, J3i, List.length_map]
  refine ⟨fun g1 => ?_, fun g1 => ?_⟩
  · have hi' : i < sigs.length := by omega
    obtain ⟨u, hu⟩ : ∃ u, sigs[i]? = some u := ⟨sigs[i], List.getElem?_eq_getElem hi'⟩
    have hg : (sigs.map encSig)[i]? = some (encSig u) := by rw [List.getElem?_map, hu]; rfl
    obtain ⟨un, l, ⟨x1, x2, x3, x4, x5⟩⟩ := u
    simp only [encSig, encSt] at hg
    have hcap : (i + 1) * 160 ≤ maxBytes ∧ i + 1 ≤ maxBytes := by simp [maxBytes]; omega
    have htk : ((sigs.map encSig).take i).take i = (sigs.map encSig).take i := by rw [List.take_take, Nat.min_self]
    simp -implicitDefEqProofs only [J6, J7, J8, J9, Ja, Jb, Jc, Jd, Je, Jf, Jg, Jh, Ji, Jk, Jm, Jp, Jq, Js, Jv, JD, JG, JJ, JK, JL, JP, JQ, JS, JT, JV, JW, J13, J14, Jg, J1i, J1k, J1p ti29 rfl, J1p ti52 rfl, J1p ti103 rfl, J1q ti9, J1q ti27, J1q ti50, J1q ti87, J1s ti3, J1t ti27 rfl, J1u ti100, J1v ti50 rfl, J1w ti50 rfl, J1x ti50, J1y, J1z, J1A, J1B, J1C, J1D, J1E, J1F, J1G, J1H, AObj.freeze, J1I, J1J, J1K, J1L, J1M, J1N, J1T, J1U, J1V, J1W, J1X, J22, J25, J26, J27, J28, J29, J2a, J2b, J2c, J2D, J2E, J2F, J2H, J2I, J2J, J2K, J2L, J2M, J2N, J2O, J2P, J2Q, J2R, J2S, J2T, J2U, J2V, J2X, J2Y, J30, J31, J32, J33, J35, J36, J37, ↓reduceIte, reduceCtorEq, beq_self_eq_true, cond_true, cond_false, true_and, and_true, false_and, and_self, J39, J3b, J3d, bne_iff_ne, J3e, eq_self, not_false_eq_true, ne_eq, J3h, J3i, J3j, hg, hw, hcap, htk, Int.natCast_nonneg, Int.toNat_natCast]
    have happ := take_succ_of hg
    simp only [happ]
    refine ⟨i + 1, by omega, by omega, ?_⟩
    exact (keepI [0, 1, 2, 3, 4, 5, 6, 7, 8] _ (WkH.refl _) rfl rfl rfl ⟨⟨_, WkV.refl _, rfl⟩, ⟨_, WkV.refl _, rfl⟩, ⟨_, WkV.refl _, rfl⟩, ⟨_, WkV.refl _, rfl⟩, trivial⟩)
  have : i = sigs.length := by omega
  subst this
  have tk : ∀ {α : Type} (f : α → List D) (l : List α), ((l.map f).take l.length).take l.length = l.map f := by
    intro α f l
    rw [List.take_take, Nat.min_self, List.take_of_length_le (by simp)]
  apply vend_of []
  · simp only [vres, lk_cons, Nat.reduceBEq, cond_true, cond_false, ti52, vload, List.getElem?_cons_succ, List.getElem?_cons_zero, mkV, List.drop_zero, List.length_cons, List.length_nil, Nat.reduceAdd, Nat.le_refl, if_true, List.take_succ_cons, List.take_zero]; rfl
  · first | rfl | (simp [fin, nodup, handO, lendR, lendV, lendLs, lendL, idx, vone]; exact ⟨rfl, rfl⟩)
  refine ⟨?_, rfl⟩
  rw [tk, tk, tk, tk, tk, tk]

end Go.Vt.Tryz
