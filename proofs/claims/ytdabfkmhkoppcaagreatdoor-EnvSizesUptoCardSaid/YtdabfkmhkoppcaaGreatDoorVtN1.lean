/- The environment laws: a type, a scheme, texts are the same as themselves. -/
import Derived.Test.YtdabfkmhkoppcaaGreatDoorVtEnvA
import Derived.Test.YtdabfkmhkoppcaaGreatDoorVtD13
set_option maxRecDepth 100000
set_option linter.unusedSimpArgs false
namespace Go.Vt.Tryz
open Go.Vt renaming ob_some → Jm, vbool_eq → Jo, vif_tt → Jp, vif_ff → Jq, vD_bool → Jr, vD_int → Js, wp_skip → Ju, wp_ops → Jv, wp_seq → Jy, wp_cond → Jz, wp_block → JA, wp_exit → JB, wp_ret → JC, th_normal → JD, th_exit → JE, th_ret → JF, bl_normal → JG, bl_ret → JH, bl_exit → JI, ops_nil → JJ, ops_cons → JK, go_none → JL, go_some → JM, cond_tt → JN, cond_ff → JO, put_some → JP, asL → JS, asI → JT, asFn → JU, opd_tmp → JV, opd_int → JW, opd_bool → JX, opd_nils → JZ, opd_func → J12, so_move → J13, so_assign → J14, so_pick → J15, so_box → J16, so_call → J1e, esc_func → J1g, bobj_none → J1h, lk_cons → J1i, nilC_tmp → J1j, nilC_int → J1k, so_bin → J1o, vload → J1p, mkV → J1q, vcells → J1s, known → J1t, toDs → J1u, toD → J1v, fzLs → J1w, fzL → J1x, vfieldAddr → J1A, vindexAddr → J1B, vbr → J1E, vlen → J1F, opds → J1J, opdPairs → J1K, vbin2 → J1L, vbin → J1M, vint → J1N, vstr → J1O, vpick → J1S, vrowsOf → J1T, vrows → J1W, fzVs → J1X, vapp → J1Y, vcellsOf → J1Z, vappendP → J20, vappend → J21, allLen → J22, zok → J23, vundef → J2a, gb_b → J2b, sb_tf → J2f, sb_ft → J2g, so_fieldAddr → J3b, so_load → J3c, so_len → J3d, so_indexAddr → J3e, so_buildSlice → J3f, so_append → J3g
open List renaming contains_cons → Jg, contains_nil → Jh, lookup_nil → J2u, getElem?_cons_zero → J2v, getElem?_cons_succ → J2w, getElem?_nil → J2x, take_succ_cons → J2y, take_nil → J2A, drop_succ_cons → J2B, drop_zero → J2C, length_cons → J2E, length_nil → J2F, append_nil → J2G, nil_append → J2H, cons_append → J2I, map_cons → J2J, map_nil → J2K, set_cons_zero → J2L, all_cons → J2O, all_nil → J2P
open Bool renaming or_false → Jk, and_true → J2R, true_and → J2S, false_eq_true → J35, not_true → J36
open Nat renaming reduceBEq → J2T, reduceEqDiff → J2U, reduceLeDiff → J2W, reduceAdd → J2X, reduceMul → J2Y, zero_add → J38, le_refl → J39, add_zero → J3a
open Option renaming map_some → J30, bind_some → J32, isSome_some → J34
open Go.Proofs

theorem wrap_nat {i : Nat} (h : i < 1000000000000) : IntKind.i64.wrap ((i : Int) + 1) = ((i + 1 : Nat) : Int) := by rw [IntKind.wrap_i64]; omega
theorem wrap_pred {i : Nat} (h : i < 1000000000000) : IntKind.i64.wrap ((i : Int) - 1) = (i : Int) - 1 := by rw [IntKind.wrap_i64]; omega

theorem vc_number (n : Int) : VC Tryz.prog 119 [.one (.d (.int .i64 n)), .one (.d (.int .i64 n))] [] fun r h' => r = .one (.d (.int .i64 0)) ∧ h' = [] := by
  refine VC_of_fn mixed fn119 (by simp) ?_
  show vwp Tryz.prog 0 vc119 _ [(0, .one (.d (.int .i64 n))), (1, .one (.d (.int .i64 n)))] []
  unfold vc119
  rw [vwpI_eq]
  have hn : ¬ n < n := by omega
  simp -implicitDefEqProofs only [Jm, Jo, Jr, Ju, Jv, Jy, Jz, JC, JD, JF, JJ, JK, JL, JN, JO, JP, JV, JW, J13, J14, J1i, J1j, J1o ti3, J1L, J1M, J1N, J1O, J2u, J2F, J2T, ↓reduceIte, beq_self_eq_true, cond_true, cond_false, true_and, J30, J32, decide_false, J35, eq_self, forall_const, false_implies, gt_iff_lt, hn]
  apply vend_of []; rfl; rfl
  exact ⟨rfl, rfl⟩

def tyV (t : Ty) : V := .agg ((encTy t).map .d)

theorem length_tyn : ∀ l : List Ty, l.length ≤ tyn.go l
  | [] => Nat.le_refl _
  | .mk _ _ l :: r => by have := length_tyn r; simp only [tyn.go, tyn, List.length_cons]; omega
theorem length_ttn : ∀ l : List Tt, l.length ≤ ttn.go l
  | [] => Nat.le_refl _
  | .mk _ _ _ l :: r => by have := length_ttn r; simp only [ttn.go, ttn, List.length_cons]; omega
theorem length_tmn : ∀ l : List Tm, l.length ≤ tmn.go l
  | [] => Nat.le_refl _
  | .mk _ _ _ _ _ _ l :: r => by have := length_tmn r; simp only [tmn.go, tmn, List.length_cons]; omega

theorem vc_cmp : ∀ (t : Ty), tyn t < 1000000000 → VC Tryz.prog 61 [tyV t, tyV t] [] fun r h' => r = .one (.d (.int .i64 0)) ∧ h' = [] := by
  intro t
  induction t using Ty.ind with
  | h k n kids ih =>
  intro hp
  simp only [tyn] at hp
  have hlen := length_tyn kids
  refine VC_of_fn mixed fn61 (by simp) ?_
  show vwp Tryz.prog 0 vc61 _ [(0, .agg [.d (.int .i64 k), .d (.int .i64 n), .d (.sl (encTy.encs kids))]), (1, .agg [.d (.int .i64 k), .d (.int .i64 n), .d (.sl (encTy.encs kids))])] []
  unfold vc61
  rw [vwpI_eq]
  simp -implicitDefEqProofs only [Jg, Jh, Jk, Jm, Jp, Jv, Jy, JD, JJ, JK, JL, JP, JS, JU, JV, JW, J12, J14, J16, J1e, J1g, noescs, Jg, J1h, J1i, bt32, J3b ti32 rfl, J3c ti3, J1p, J1q, J1s, J1t, J1A, J1J, J2u, J2v, J2w, J2C, J2E, J2F, J2G, J2H, J2I, J2K, J2P, J2R, J2T, J2W, J2X, ↓reduceIte, reduceCtorEq, beq_self_eq_true, cond_true, cond_false, J30, J32, J35, eq_self, J38, J3a]
  refine callS [] (vc_number k) rfl rfl rfl ?_
  rintro _ _ ⟨rfl, rfl⟩
  refine ⟨_, _, rfl, ?_⟩
  simp -implicitDefEqProofs only [Jg, Jh, Jk, Jm, Jo, Jp, Jr, Ju, Jv, Jy, Jz, JC, JD, JF, JJ, JK, JL, JN, JO, JP, JS, JU, JV, JW, J12, J13, J14, J1e, J1g, noescs, Jg, J1i, J1k, J3b ti32 rfl, J3c ti3, J1o ti3, J1p, J1q, J1A, J1J, J1L, J1M, J1N, J1O, J2u, J2v, J2w, J2B, J2C, J2E, J2F, J2G, J2H, J2K, J2P, J2R, J2T, J2W, J2X, ↓reduceIte, reduceCtorEq, beq_self_eq_true, cond_true, cond_false, true_and, J30, J32, bne_iff_ne, bne_eq_false_iff_eq, J35, eq_self, forall_const, not_true_eq_false, ne_eq, false_implies, J38]
  refine callS [] (vc_number n) rfl rfl rfl ?_
  rintro _ _ ⟨rfl, rfl⟩
  refine ⟨_, _, rfl, ?_⟩
  simp -implicitDefEqProofs only [Jg, Jh, Jk, Jm, Jo, Jp, Jr, Ju, Jv, Jy, Jz, JC, JD, JF, JJ, JK, JL, JN, JO, JP, JS, JU, JV, JW, J12, J13, J14, J1e, J1g, noescs, Jg, J1i, J1k, J3b ti32 rfl, J3c ti30, J1o ti3, J3d ti30, J1p, J1q, J1A, J1F, J1J, J1L, J1M, J1N, J1O, J2u, J2v, J2w, J2B, J2C, J2E, J2F, J2G, J2H, J2K, J2P, J2R, J2T, J2W, J2X, ↓reduceIte, reduceCtorEq, beq_self_eq_true, cond_true, cond_false, true_and, J30, J32, bne_iff_ne, bne_eq_false_iff_eq, J35, eq_self, forall_const, not_true_eq_false, ne_eq, false_implies, J38, encsTy_length]
  refine callS [] (vc_number kids.length) rfl rfl rfl ?_
  rintro _ _ ⟨rfl, rfl⟩
  refine ⟨_, _, rfl, ?_⟩
  simp -implicitDefEqProofs only [Jm, Jo, Jr, Ju, Jv, Jy, Jz, JA, JC, JD, JF, JJ, JK, JL, JN, JO, JP, JV, JW, J13, J14, J1i, J1k, J1o ti3, J1L, J1M, J1N, J1O, J2u, J2F, J2T, ↓reduceIte, beq_self_eq_true, cond_true, cond_false, true_and, J30, J32, bne_iff_ne, bne_eq_false_iff_eq, eq_self, forall_const, not_true_eq_false, ne_eq, false_implies]
  refine loopI (α := Nat) (fun i => [(8, .one (.d (.int .i64 i))), (3, .one (.ptr 1 0)), (2, .one (.ptr 0 0))])
    (fun _ => [.box [.d (.int .i64 k), .d (.int .i64 n), .d (.sl (encTy.encs kids))], .box [.d (.int .i64 k), .d (.int .i64 n), .d (.sl (encTy.encs kids))]])
    (fun i => i ≤ kids.length) (fun i => kids.length - i) 0
    (keepI [0, 1] _ (WkH.refl _) rfl rfl rfl ⟨⟨_, WkV.refl _, rfl⟩, ⟨_, WkV.refl _, rfl⟩, ⟨_, WkV.refl _, rfl⟩, trivial⟩) (Nat.zero_le _) ?_
  intro i hi
  have hw : IntKind.i64.wrap ((i : Int) + 1) = ((i + 1 : Nat) : Int) := wrap_nat (by omega)
  simp -implicitDefEqProofs only [Jm, Jo, Jp, Jr, Ju, Jv, Jy, Jz, JA, JB, JC, JD, JE, JI, JJ, JK, JL, JN, JO, JP, JS, JT, JV, JW, J13, J14, J1i, J1j, J3b ti32 rfl, J3c ti30, J1o ti3, J3d ti30, J3e ti30 rfl, J1p, J1q, J1A, J1B, J1F, J1L, J1M, J1N, J1O, J2u, J2v, J2w, J2B, J2C, J2E, J2F, J2T, J2U, J2W, J2X, ↓reduceIte, reduceCtorEq, beq_self_eq_true, cond_true, cond_false, true_and, false_and, J30, J32, decide_eq_true_eq, decide_eq_false_iff_not, J35, eq_self, J38, encsTy_length]
  refine ⟨fun h5 => ?_, fun h5 => ?_⟩
  · have hi' : i < kids.length := by omega
    obtain ⟨u, hu⟩ : ∃ u, kids[i]? = some u := ⟨kids[i], List.getElem?_eq_getElem hi'⟩
    have hmem := List.mem_of_getElem? hu
    have hnu := tyn_mem hmem
    have iu := ih u hmem (by omega)
    have hg : (encTy.encs kids)[i]? = some (encTy u) := by rw [encsTy, List.getElem?_map, hu]; rfl
    obtain ⟨uk, un, uc⟩ := u
    simp only [tyV, encTy, List.map_cons, List.map_nil] at iu hg
    simp -implicitDefEqProofs only [Jg, Jh, Jk, Jm, Jp, JK, JL, JP, JS, JT, JU, JV, J12, J13, J1e, J1g, noescs, Jg, J1i, J3b ti32 rfl, J3c ti30, J3c ti32, J3e ti30 rfl, J1p, J1q, J1A, J1B, J1J, J2u, J2v, J2w, J2y, J2A, J2B, J2C, J2E, J2F, J2G, J2H, J2J, J2K, J2P, J2R, J2T, J2U, J2W, J2X, ↓reduceIte, reduceCtorEq, beq_self_eq_true, cond_true, cond_false, true_and, false_and, J30, J32, J35, eq_self, J38, J39, hg, Int.natCast_nonneg, Int.toNat_natCast]
    refine callS [] (iu) rfl rfl rfl ?_
    rintro _ _ ⟨rfl, rfl⟩
    refine ⟨_, _, rfl, ?_⟩
    simp -implicitDefEqProofs only [Jm, Jo, Jr, Js, Ju, Jv, Jy, Jz, JC, JD, JF, JG, JH, JJ, JK, JL, JN, JO, JP, JV, JW, J13, J14, J1i, J1k, J1o ti3, J1L, J1M, J1N, J1O, J2u, J2F, J2T, ↓reduceIte, beq_self_eq_true, cond_true, cond_false, true_and, J30, J32, bne_iff_ne, bne_eq_false_iff_eq, eq_self, forall_const, not_true_eq_false, ne_eq, false_implies, hw]
    refine ⟨i + 1, by omega, by omega, ?_⟩
    exact (keepI [0, 1] _ (WkH.refl _) rfl rfl rfl ⟨⟨_, WkV.refl _, rfl⟩, ⟨_, WkV.refl _, rfl⟩, ⟨_, WkV.refl _, rfl⟩, trivial⟩)
  · apply vend_of []; rfl; rfl
    exact ⟨rfl, rfl⟩

theorem vc_same8 (t : Ty) (hp : tyn t < 1000000000) : VC Tryz.prog 16 [tyV t, tyV t] [] fun r h' => r = .one (.d (.bool true)) ∧ h' = [] := by
  have ih := vc_cmp t hp
  obtain ⟨k, n, kids⟩ := t
  refine VC_of_fn mixed fn16 (by simp) ?_
  show vwp Tryz.prog 0 vc16 _ [(0, .agg [.d (.int .i64 k), .d (.int .i64 n), .d (.sl (encTy.encs kids))]), (1, .agg [.d (.int .i64 k), .d (.int .i64 n), .d (.sl (encTy.encs kids))])] []
  unfold vc16
  rw [vwpI_eq]
  simp -implicitDefEqProofs only [Jg, Jh, Jk, Jm, Jp, Jv, Jy, JD, JJ, JK, JL, JP, JS, JU, JV, JX, J12, J14, J16, J1e, J1g, noescs, Jg, J1h, J1i, bt32, J3c ti32, J1p, J1q, J1s, J1t, J1J, J2u, J2v, J2w, J2y, J2A, J2C, J2E, J2F, J2G, J2H, J2I, J2K, J2P, J2R, J2T, J2X, ↓reduceIte, beq_self_eq_true, cond_true, cond_false, J30, J32, eq_self, J38, J39]
  refine callS [] (ih) rfl rfl rfl ?_
  rintro _ _ ⟨rfl, rfl⟩
  refine ⟨_, _, rfl, ?_⟩
  simp -implicitDefEqProofs only [Jm, Jo, Jr, JC, JD, JJ, JK, JL, JP, JV, JW, J14, J1i, J1k, J1o ti3, J1L, J1M, J1N, J1O, J2u, J2F, J2T, ↓reduceIte, reduceCtorEq, beq_self_eq_true, cond_true, cond_false, and_true, J30, J32, eq_self, forall_const, false_implies]
  apply vend_of []; rfl; rfl
  exact ⟨rfl, rfl⟩

def scV (s : Sc) : V := .agg ((encSc s).map .d)

theorem vc_sameScheme (s : Sc) (hp : tyn s.t < 1000000000) : VC Tryz.prog 11 [scV s, scV s] [] fun r h' => r = .one (.d (.bool true)) ∧ h' = [] := by
  obtain ⟨g, t⟩ := s
  have ih := vc_same8 t hp
  obtain ⟨k, n, kids⟩ := t
  refine VC_of_fn mixed fn11 (by simp) ?_
  show vwp Tryz.prog 0 vc11 _ [(0, .agg [.d (.int .i64 g), .d (.int .i64 k), .d (.int .i64 n), .d (.sl (encTy.encs kids))]), (1, .agg [.d (.int .i64 g), .d (.int .i64 k), .d (.int .i64 n), .d (.sl (encTy.encs kids))])] []
  unfold vc11
  rw [vwpI_eq]
  simp -implicitDefEqProofs only [Jg, Jh, Jk, Jm, Jo, Jp, Jq, Jr, Jv, Jy, JC, JD, JJ, JK, JL, JM, JP, JS, JU, JV, JX, J12, J13, J14, J15, J16, J1e, J1g, noescs, Jg, J1h, J1i, J1j, bt34, J3b ti34 rfl, J3c ti3, J3c ti32, J1o ti3, J1p, J1q, J1s, J1t, J1A, J1J, J1L, J1M, J1N, J1O, J1S, J2a, J2b, J2g, J2u, J2v, J2w, J2y, J2A, J2B, J2C, J2E, J2F, J2G, J2H, J2I, J2K, J2P, J2R, J2T, J2W, J2X, ↓reduceIte, reduceCtorEq, beq_self_eq_true, cond_true, cond_false, and_true, J30, J32, J35, eq_self, forall_const, false_implies, J38, J39, J3a]
  refine callS [] (ih) rfl rfl rfl ?_
  rintro _ _ ⟨rfl, rfl⟩
  refine ⟨_, _, rfl, ?_⟩
  simp -implicitDefEqProofs only [Jm, JC, JD, JJ, JK, JL, JP, JV, JX, J14, J15, J1i, J1S, J2u, J2F, J2T, beq_self_eq_true, cond_true, cond_false, J30, J32]
  apply vend_of []; rfl; rfl
  exact ⟨rfl, rfl⟩

theorem txts_get {l : List ByteArray} {i : Nat} {s : ByteArray} (h : l[i]? = some s) : (txts l)[i]? = some [.str s] := by simp [txts, h]
theorem nums_get {l : List Int} {i : Nat} {n : Int} (h : l[i]? = some n) : (nums l)[i]? = some [.int .i64 n] := by simp [nums, h]

theorem vc_texts (l : List ByteArray) (hp : l.length < 1000000000) : VC Tryz.prog 174 [.one (.d (.sl (txts l))), .one (.d (.sl (txts l)))] [] fun r h' => r = .one (.d (.bool true)) ∧ h' = [] := by
  refine VC_of_fn mixed fn174 (by simp) ?_
  show vwp Tryz.prog 0 vc174 _ [(0, .one (.d (.sl (txts l)))), (1, .one (.d (.sl (txts l))))] []
  unfold vc174
  rw [vwpI_eq]
  simp -implicitDefEqProofs only [Jm, Jo, Jr, Ju, Jv, Jy, Jz, JA, JC, JD, JF, JJ, JK, JL, JN, JO, JP, JV, JW, JX, J13, J14, J1i, J1j, J3d ti35, J1o ti3, J1F, J1L, J1M, J1N, J1O, J2u, J2x, J2F, J2T, ↓reduceIte, reduceCtorEq, beq_self_eq_true, cond_true, cond_false, true_and, J30, J32, bne_iff_ne, bne_eq_false_iff_eq, eq_self, forall_const, not_true_eq_false, ne_eq, false_implies, txts_length]
  refine loopI (α := Nat) (fun i => [(5, .one (.d (.int .i64 i))), (1, .one (.d (.sl (txts l)))), (0, .one (.d (.sl (txts l))))]) (fun _ => []) (fun i => i ≤ l.length) (fun i => l.length - i) 0
    (keepI [] _ (WkH.refl _) rfl rfl rfl ⟨⟨_, WkV.refl _, rfl⟩, ⟨_, WkV.refl _, rfl⟩, ⟨_, WkV.refl _, rfl⟩, trivial⟩) (Nat.zero_le _) ?_
  intro i hi
  have hw : IntKind.i64.wrap ((i : Int) + 1) = ((i + 1 : Nat) : Int) := wrap_nat (by omega)
  simp -implicitDefEqProofs only [Jm, Jo, Jp, Jr, Ju, Jv, Jy, Jz, JA, JB, JC, JD, JE, JI, JJ, JK, JL, JN, JO, JP, JS, JT, JV, JX, J13, J14, J1i, J1j, J3d ti35, J1o ti3, J3e ti35 rfl, J1B, J1F, J1L, J1M, J1N, J1O, J2u, J2x, J2F, J2T, ↓reduceIte, reduceCtorEq, beq_self_eq_true, cond_true, cond_false, J30, J32, decide_eq_true_eq, decide_eq_false_iff_not, eq_self, txts_length]
  refine ⟨fun h5 => ?_, fun h5 => ?_⟩
  · have hi' : i < l.length := by omega
    have hg := txts_get (List.getElem?_eq_getElem hi')
    simp -implicitDefEqProofs only [Jm, Jo, Jr, Js, Ju, Jv, Jy, Jz, JC, JD, JF, JG, JH, JJ, JK, JL, JN, JO, JP, JS, JT, JV, JW, JX, J13, J14, J1i, J1j, J1k, J1o ti3, J1o ti9, J3e ti35 rfl, J3c ti9, J1p, J1q, J1B, J1L, J1M, J1N, J1O, J2u, J2x, J2E, J2F, J2J, J2K, J2T, ↓reduceIte, beq_self_eq_true, cond_true, cond_false, true_and, J30, J32, decide_true, J35, eq_self, forall_const, false_implies, J36, J38, hg, Int.natCast_nonneg, Int.toNat_natCast, hw]
    refine ⟨i + 1, by omega, by omega, ?_⟩
    exact (keepI [] _ (WkH.refl _) rfl rfl rfl ⟨⟨_, WkV.refl _, rfl⟩, ⟨_, WkV.refl _, rfl⟩, ⟨_, WkV.refl _, rfl⟩, trivial⟩)
  · apply vend_of []; rfl; rfl
    exact ⟨rfl, rfl⟩

/-- The place of the last one for which something holds, below a place; or -1. -/
def lastAt {α : Type} (p : α → Bool) (l : List α) : Nat → Int
  | 0 => -1
  | k + 1 => match l[k]? with
    | some x => if p x then (k : Int) else lastAt p l k
    | none => lastAt p l k

theorem vc_level (l : List Int) (n : Int) (hp : l.length < 1000000000) : VC Tryz.prog 233 [.one (.d (.sl (nums l))), .one (.d (.int .i64 n))] [] fun r h' => r = .one (.d (.int .i64 (lastAt (fun x => decide (x = n)) l l.length))) ∧ h' = [] := by
  have hw0 : IntKind.i64.wrap ((l.length : Int) - 1) = (l.length : Int) - 1 := wrap_pred (by omega)
  refine VC_of_fn mixed fn233 (by simp) ?_
  show vwp Tryz.prog 0 vc233 _ [(0, .one (.d (.sl (nums l)))), (1, .one (.d (.int .i64 n)))] []
  unfold vc233
  rw [vwpI_eq]
  simp -implicitDefEqProofs only [Jm, Js, Jv, Jy, JA, JD, JJ, JK, JL, JP, JV, JW, J13, J14, J1i, J1k, J3d ti85, J1o ti3, J1F, J1L, J1M, J1N, J1O, J2u, J2x, J2T, ↓reduceIte, reduceCtorEq, beq_self_eq_true, cond_true, cond_false, J30, J32, eq_self, nums_length, hw0]
  refine loopI (α := Nat) (fun k => [(5, .one (.d (.int .i64 ((k : Int) - 1)))), (1, .one (.d (.int .i64 n))), (0, .one (.d (.sl (nums l))))]) (fun _ => [])
    (fun k => k ≤ l.length ∧ lastAt (fun x => decide (x = n)) l l.length = lastAt (fun x => decide (x = n)) l k) (fun k => k) l.length
    (keepI [] _ (WkH.refl _) rfl rfl rfl ⟨⟨_, WkV.refl _, rfl⟩, ⟨_, WkV.refl _, rfl⟩, ⟨_, WkV.refl _, rfl⟩, trivial⟩) ⟨Nat.le_refl _, rfl⟩ ?_
  rintro k ⟨hk, he⟩
  simp -implicitDefEqProofs only [Jm, Jo, Jp, Jr, Ju, Jv, Jy, Jz, JA, JB, JC, JD, JE, JI, JJ, JK, JL, JN, JO, JP, JS, JT, JV, JW, J13, J14, J1i, J1k, J1o ti3, J3e ti85 rfl, J1B, J1L, J1M, J1N, J1O, J2u, J2x, J2F, J2T, ↓reduceIte, beq_self_eq_true, cond_true, cond_false, J30, J32, decide_eq_true_eq, decide_eq_false_iff_not, eq_self, ge_iff_le]
  refine ⟨fun h5 => ?_, fun h5 => ?_⟩
  · obtain ⟨j, rfl⟩ : ∃ j, k = j + 1 := ⟨k - 1, by omega⟩
    have hj' : j < l.length := by omega
    have hg := nums_get (List.getElem?_eq_getElem hj')
    have e1 : ((j + 1 : Nat) : Int) - 1 = (j : Int) := by omega
    have hw : IntKind.i64.wrap ((j : Int) - 1) = (j : Int) - 1 := wrap_pred (by omega)
    rw [e1]
    simp -implicitDefEqProofs only [Jm, Jo, Jr, Js, Ju, Jv, Jy, Jz, JC, JD, JF, JG, JH, JJ, JK, JL, JN, JO, JP, JS, JV, JW, J13, J14, J1i, J1j, J1k, J1o ti3, J3c ti3, J1p, J1q, J1L, J1M, J1N, J1O, J2u, J2x, J2E, J2F, J2J, J2K, J2T, ↓reduceIte, beq_self_eq_true, cond_true, cond_false, J30, J32, beq_iff_eq, beq_eq_false_iff_ne, J35, eq_self, ne_eq, J38, hg, Int.natCast_nonneg, Int.toNat_natCast, hw]
    rw [lastAt, List.getElem?_eq_getElem hj'] at he
    refine ⟨fun h6 => ?_, fun h6 => ?_⟩
    · apply vend_of []; rfl; rfl
      exact ⟨by rw [he]; simp [h6], rfl⟩
    · refine ⟨j, ⟨by omega, by rw [he]; simp [h6]⟩, by omega, ?_⟩
      exact (keepI [] _ (WkH.refl _) rfl rfl rfl ⟨⟨_, WkV.refl _, rfl⟩, ⟨_, WkV.refl _, rfl⟩, ⟨_, WkV.refl _, rfl⟩, trivial⟩)
  · have hk0 : k = 0 := by omega
    subst hk0
    apply vend_of []; rfl; rfl
    exact ⟨by rw [he]; rfl, rfl⟩

theorem vc_nameLevel (l : List ByteArray) (n : ByteArray) (hp : l.length < 1000000000) : VC Tryz.prog 170 [.one (.d (.sl (txts l))), .one (.d (.str n))] [] fun r h' => r = .one (.d (.int .i64 (lastAt (fun x => decide (x = n)) l l.length))) ∧ h' = [] := by
  have hw0 : IntKind.i64.wrap ((l.length : Int) - 1) = (l.length : Int) - 1 := wrap_pred (by omega)
  refine VC_of_fn mixed fn170 (by simp) ?_
  show vwp Tryz.prog 0 vc170 _ [(0, .one (.d (.sl (txts l)))), (1, .one (.d (.str n)))] []
  unfold vc170
  rw [vwpI_eq]
  simp -implicitDefEqProofs only [Jm, Js, Jv, Jy, JA, JD, JJ, JK, JL, JP, JV, JW, J13, J14, J1i, J1k, J3d ti35, J1o ti3, J1F, J1L, J1M, J1N, J1O, J2u, J2x, J2T, ↓reduceIte, reduceCtorEq, beq_self_eq_true, cond_true, cond_false, J30, J32, eq_self, txts_length, hw0]
  refine loopI (α := Nat) (fun k => [(5, .one (.d (.int .i64 ((k : Int) - 1)))), (1, .one (.d (.str n))), (0, .one (.d (.sl (txts l))))]) (fun _ => [])
    (fun k => k ≤ l.length ∧ lastAt (fun x => decide (x = n)) l l.length = lastAt (fun x => decide (x = n)) l k) (fun k => k) l.length
    (keepI [] _ (WkH.refl _) rfl rfl rfl ⟨⟨_, WkV.refl _, rfl⟩, ⟨_, WkV.refl _, rfl⟩, ⟨_, WkV.refl _, rfl⟩, trivial⟩) ⟨Nat.le_refl _, rfl⟩ ?_
  rintro k ⟨hk, he⟩
  simp -implicitDefEqProofs only [Jm, Jo, Jp, Jr, Ju, Jv, Jy, Jz, JA, JB, JC, JD, JE, JI, JJ, JK, JL, JN, JO, JP, JS, JT, JV, JW, J13, J14, J1i, J1k, J1o ti3, J3e ti35 rfl, J1B, J1L, J1M, J1N, J1O, J2u, J2x, J2F, J2T, ↓reduceIte, beq_self_eq_true, cond_true, cond_false, J30, J32, decide_eq_true_eq, decide_eq_false_iff_not, eq_self, ge_iff_le]
  refine ⟨fun h5 => ?_, fun h5 => ?_⟩
  · obtain ⟨j, rfl⟩ : ∃ j, k = j + 1 := ⟨k - 1, by omega⟩
    have hj' : j < l.length := by omega
    have hg := txts_get (List.getElem?_eq_getElem hj')
    have e1 : ((j + 1 : Nat) : Int) - 1 = (j : Int) := by omega
    have hw : IntKind.i64.wrap ((j : Int) - 1) = (j : Int) - 1 := wrap_pred (by omega)
    rw [e1]
    simp -implicitDefEqProofs only [Jm, Jo, Jr, Js, Ju, Jv, Jy, Jz, JC, JD, JF, JG, JH, JJ, JK, JL, JN, JO, JP, JS, JV, JW, J13, J14, J1i, J1j, J1k, J1o ti3, J1o ti9, J3c ti9, J1p, J1q, J1L, J1M, J1N, J1O, J2u, J2x, J2E, J2F, J2J, J2K, J2T, ↓reduceIte, beq_self_eq_true, cond_true, cond_false, J30, J32, decide_eq_true_eq, decide_eq_false_iff_not, J35, eq_self, J38, hg, Int.natCast_nonneg, Int.toNat_natCast, hw]
    rw [lastAt, List.getElem?_eq_getElem hj'] at he
    refine ⟨fun h6 => ?_, fun h6 => ?_⟩
    · apply vend_of []; rfl; rfl
      exact ⟨by rw [he]; simp [h6], rfl⟩
    · refine ⟨j, ⟨by omega, by rw [he]; simp [h6]⟩, by omega, ?_⟩
      exact (keepI [] _ (WkH.refl _) rfl rfl rfl ⟨⟨_, WkV.refl _, rfl⟩, ⟨_, WkV.refl _, rfl⟩, ⟨_, WkV.refl _, rfl⟩, trivial⟩)
  · have hk0 : k = 0 := by omega
    subst hk0
    apply vend_of []; rfl; rfl
    exact ⟨by rw [he]; rfl, rfl⟩

theorem vc_with (l : List Int) (n : Int) (hp : l.length < 1000000000) : VC Tryz.prog 236 [.one (.d (.sl (nums l))), .one (.d (.int .i64 n))] [] fun r h' => r = .one (.d (.sl (nums (l ++ [n])))) ∧ h' = [] := by
  have hcap : l.length * 8 ≤ maxBytes ∧ l.length ≤ maxBytes ∧ (l.length + 1) * 8 ≤ maxBytes ∧ l.length + 1 ≤ maxBytes := by simp [maxBytes]; omega
  have ht : List.take l.length (nums l) = nums l := List.take_of_length_le (by simp [nums])
  have ha : nums l ++ [[D.int .i64 n]] = nums (l ++ [n]) := by simp [nums]
  have hal : List.all (nums l) (fun e => e.length == 1) = true := by simp [nums]
  refine VC_of_fn mixed fn236 (by simp) ?_
  show vwp Tryz.prog 0 vc236 _ [(0, .one (.d (.sl (nums l)))), (1, .one (.d (.int .i64 n)))] []
  unfold vc236
  rw [vwpI_eq]
  simp -implicitDefEqProofs only [Jm, Jv, Jy, JC, JD, JJ, JK, JL, JP, JS, JV, JZ, J13, J14, J1i, J3f ti85 rfl, J3g ti85 rfl, J1s, J1t, J1u, J1v, J1w, J1x, J1E, J1K, J1T, J1W, J1X, J1Y, J1Z, J20, J21, J22, J23, J2u, J2v, J2w, J2y, J2A, J2E, J2F, J2H, J2I, J2L, J2O, J2P, J2R, J2S, J2T, J2W, J2X, J2Y, ↓reduceIte, reduceCtorEq, beq_self_eq_true, cond_true, cond_false, true_and, and_true, and_self, J30, J32, J34, bne_iff_ne, eq_self, not_false_eq_true, ne_eq, J38, nums_length, hcap, ht, ha, hal]
  apply vend_of []; rfl; rfl
  refine ⟨?_, rfl⟩
  have : List.take (l.length + 1) (nums (l ++ [n])) = nums (l ++ [n]) := List.take_of_length_le (by simp [nums])
  simp [this]

theorem vc_named (l : List ByteArray) (n : ByteArray) (hp : l.length < 1000000000) : VC Tryz.prog 237 [.one (.d (.sl (txts l))), .one (.d (.str n))] [] fun r h' => r = .one (.d (.sl (txts (l ++ [n])))) ∧ h' = [] := by
  have hcap : l.length * 16 ≤ maxBytes ∧ l.length ≤ maxBytes ∧ (l.length + 1) * 16 ≤ maxBytes ∧ l.length + 1 ≤ maxBytes := by simp [maxBytes]; omega
  have ht : List.take l.length (txts l) = txts l := List.take_of_length_le (by simp [txts])
  have ha : txts l ++ [[D.str n]] = txts (l ++ [n]) := by simp [txts]
  have hal : List.all (txts l) (fun e => e.length == 1) = true := by simp [txts]
  refine VC_of_fn mixed fn237 (by simp) ?_
  show vwp Tryz.prog 0 vc237 _ [(0, .one (.d (.sl (txts l)))), (1, .one (.d (.str n)))] []
  unfold vc237
  rw [vwpI_eq]
  simp -implicitDefEqProofs only [Jm, Jv, Jy, JC, JD, JJ, JK, JL, JP, JS, JV, JZ, J13, J14, J1i, J3f ti35 rfl, J3g ti35 rfl, J1s, J1t, J1u, J1v, J1w, J1x, J1E, J1K, J1T, J1W, J1X, J1Y, J1Z, J20, J21, J22, J23, J2u, J2v, J2w, J2y, J2A, J2E, J2F, J2H, J2I, J2L, J2O, J2P, J2R, J2S, J2T, J2W, J2X, J2Y, ↓reduceIte, reduceCtorEq, beq_self_eq_true, cond_true, cond_false, true_and, and_true, and_self, J30, J32, J34, bne_iff_ne, eq_self, not_false_eq_true, ne_eq, J38, txts_length, hcap, ht, ha, hal]
  apply vend_of []; rfl; rfl
  refine ⟨?_, rfl⟩
  have : List.take (l.length + 1) (txts (l ++ [n])) = txts (l ++ [n]) := List.take_of_length_le (by simp [txts])
  simp [this]

theorem vc_binds (k : Int) : VC Tryz.prog 235 [.one (.d (.int .i64 k))] [] fun r h' => r = .one (.d (.bool (decide (k = 9 ∨ k = 10 ∨ k = 11)))) ∧ h' = [] := by
  refine VC_of_fn mixed fn235 (by simp) ?_
  show vwp Tryz.prog 0 vc235 _ [(0, .one (.d (.int .i64 k)))] []
  unfold vc235
  rw [vwpI_eq]
  simp -implicitDefEqProofs only [Jm, Jo, Jp, Jq, Jr, Jv, Jy, JC, JD, JJ, JK, JL, JM, JP, JV, JW, JX, J13, J14, J15, J1i, J1k, J1o ti3, J1L, J1M, J1N, J1O, J1S, J2a, J2b, J2f, J2u, J2F, J2T, ↓reduceIte, beq_self_eq_true, cond_true, cond_false, J30, J32, beq_iff_eq, beq_eq_false_iff_ne, eq_self, ne_eq]
  repeat' (first | (with_reducible apply And.intro) | (intro _))
  all_goals
    apply vend_of []; rfl; rfl
    refine ⟨?_, rfl⟩
    simp_all []

end Go.Vt.Tryz
set_option maxRecDepth 100000
set_option linter.unusedSimpArgs false
namespace Go.Vt.Tryz
open Go.Vt renaming opsW_nil → J6, opsW_cons → J7, again_nil → J8, again_cons → J9, obOf_nil → Ja, obOf_cons → Jb, wadd → Jc, ro → Jd, ob_some → Jm, vbool_eq → Jo, vif_tt → Jp, vif_ff → Jq, vD_bool → Jr, vD_int → Js, wp_skip → Ju, wp_ops → Jv, wp_opsW → Jw, wp_seq → Jy, wp_cond → Jz, wp_block → JA, wp_exit → JB, wp_ret → JC, th_normal → JD, th_exit → JE, th_ret → JF, bl_normal → JG, bl_exit → JI, ops_nil → JJ, ops_cons → JK, go_none → JL, go_some → JM, cond_tt → JN, cond_ff → JO, put_some → JP, asB → JR, asL → JS, asI → JT, asFn → JU, opd_tmp → JV, opd_int → JW, opd_bool → JX, opd_func → J12, so_move → J13, so_assign → J14, so_pick → J15, so_box → J16, so_not → J18, so_call → J1e, esc_func → J1g, bobj_none → J1h, lk_cons → J1i, nilC_tmp → J1j, nilC_int → J1k, so_len → J1o, so_bin → J1p, so_indexAddr → J1q, so_load → J1r, vload → J1s, mkV → J1t, vcells → J1v, known → J1w, vfieldAddr → J1D, vindexAddr → J1E, vlen → J1I, opds → J1M, vbin2 → J1O, vbin → J1P, vint → J1Q, vstr → J1R, vpick → J1V, vundef → J2d, gb_b → J2e, gb_u → J2f, sb_tf → J2i, sb_ft → J2j, sb_nf → J2l, putBack → J2q, fzIds → J2r, lentVs → J2s, lentV → J2t, lentL → J2v, so_fieldAddr → J3e
open List renaming any_cons → Je, any_nil → Jf, contains_cons → Jg, contains_nil → Jh, lookup_nil → J2x, getElem?_cons_zero → J2y, getElem?_cons_succ → J2z, getElem?_nil → J2A, take_succ_cons → J2B, take_nil → J2D, drop_succ_cons → J2E, drop_zero → J2F, drop_nil → J2G, length_cons → J2H, length_nil → J2I, append_nil → J2J, nil_append → J2K, cons_append → J2L, map_cons → J2M, map_nil → J2N, all_nil → J2S
open Bool renaming or_true → Ji, or_false → Jk, and_true → J2U, false_eq_true → J38, not_true → J39
open Nat renaming reduceBEq → J2W, reduceLeDiff → J2Z, reduceAdd → J30, zero_add → J3b, le_refl → J3c, add_zero → J3d
open Option renaming map_some → J33, bind_some → J35
open Go.Proofs

def ttV (t : Tt) : V := .agg ((encTt t).map .d)
def tmV (t : Tm) : V := .agg ((encTm t).map .d)
/-- What is bound around. -/
def scopeV (x : List Int) (y : List ByteArray) : V := .agg [.d (.sl (nums x)), .d (.sl (txts y))]

theorem vc_sameAll (kids : List Tt) (x : List Int) (hl : kids.length < 1000000000) (ih : ∀ t ∈ kids, VC Tryz.prog 175 [ttV t, ttV t, .one (.d (.sl (nums x))), .one (.d (.sl (nums x)))] [] fun r h' => r = .one (.d (.bool true)) ∧ h' = []) :
    VC Tryz.prog 234 [.one (.d (.sl (encTt.encs kids))), .one (.d (.sl (encTt.encs kids))), .one (.d (.sl (nums x))), .one (.d (.sl (nums x)))] [] fun r h' => r = .one (.d (.bool true)) ∧ h' = [] := by
  refine VC_of_fn mixed fn234 (by simp) ?_
  show vwp Tryz.prog 0 vc234 _ [(0, .one (.d (.sl (encTt.encs kids)))), (1, .one (.d (.sl (encTt.encs kids)))), (2, .one (.d (.sl (nums x)))), (3, .one (.d (.sl (nums x))))] []
  unfold vc234
  rw [vwpI_eq]
  simp -implicitDefEqProofs only [Jm, Jv, Jy, JA, JD, JJ, JK, JL, JP, JW, JX, J14, J33]
  refine loopI (α := Nat) (fun i => [(9, .one (.d (.int .i64 i))), (3, .one (.d (.sl (nums x)))), (2, .one (.d (.sl (nums x)))), (1, .one (.d (.sl (encTt.encs kids)))), (0, .one (.d (.sl (encTt.encs kids))))]) (fun _ => [])
    (fun i => i ≤ kids.length) (fun i => kids.length - i) 0
    (keepI [] _ (WkH.refl _) rfl rfl rfl ⟨⟨_, WkV.refl _, rfl⟩, ⟨_, WkV.refl _, rfl⟩, ⟨_, WkV.refl _, rfl⟩, ⟨_, WkV.refl _, rfl⟩, ⟨_, WkV.refl _, rfl⟩, trivial⟩) (Nat.zero_le _) ?_
  intro i hi
  have hw : IntKind.i64.wrap ((i : Int) + 1) = ((i + 1 : Nat) : Int) := wrap_nat (by omega)
  simp -implicitDefEqProofs only [Jm, Jo, Jp, Jr, Ju, Jv, Jy, Jz, JA, JB, JC, JD, JE, JI, JJ, JK, JL, JN, JO, JP, JS, JT, JV, JX, J13, J14, J1i, J1j, J1o ti36, J1p ti3, J1q ti36 rfl, J1E, J1I, J1O, J1P, J1Q, J1R, J2x, J2A, J2I, J2W, ↓reduceIte, reduceCtorEq, beq_self_eq_true, cond_true, cond_false, J33, J35, decide_eq_true_eq, decide_eq_false_iff_not, eq_self, encsTt_length]
  refine ⟨fun h5 => ?_, fun h5 => ?_⟩
  · have hi' : i < kids.length := by omega
    obtain ⟨u, hu⟩ : ∃ u, kids[i]? = some u := ⟨kids[i], List.getElem?_eq_getElem hi'⟩
    have iu := ih u (List.mem_of_getElem? hu)
    have hg : (encTt.encs kids)[i]? = some (encTt u) := by rw [encsTt, List.getElem?_map, hu]; rfl
    obtain ⟨uk, un, ul, uc⟩ := u
    simp only [ttV, encTt, List.map_cons, List.map_nil] at iu hg
    simp -implicitDefEqProofs only [Jg, Jh, Jk, Jm, Jp, JK, JL, JP, JS, JT, JU, JV, J12, J13, J1e, J1g, noescs, Jg, J1i, J1q ti36 rfl, J1r ti307, J1s, J1t, J1E, J1M, J2x, J2A, J2B, J2D, J2H, J2I, J2J, J2K, J2M, J2N, J2S, J2U, J2W, J30, ↓reduceIte, beq_self_eq_true, cond_true, cond_false, J33, J35, eq_self, J3b, J3c, hg, Int.natCast_nonneg, Int.toNat_natCast]
    refine callS [] (iu) rfl rfl rfl ?_
    rintro _ _ ⟨rfl, rfl⟩
    refine ⟨_, _, rfl, ?_⟩
    simp -implicitDefEqProofs only [Jm, Js, Ju, Jv, Jz, JD, JG, JJ, JK, JL, JO, JP, JR, JV, JW, J13, J14, J18, J1i, J1k, J1p ti3, J1O, J1P, J1Q, J1R, J2x, J2W, ↓reduceIte, beq_self_eq_true, cond_true, cond_false, J33, J35, eq_self, J39, hw]
    refine ⟨i + 1, by omega, by omega, ?_⟩
    exact (keepI [] _ (WkH.refl _) rfl rfl rfl ⟨⟨_, WkV.refl _, rfl⟩, ⟨_, WkV.refl _, rfl⟩, ⟨_, WkV.refl _, rfl⟩, ⟨_, WkV.refl _, rfl⟩, ⟨_, WkV.refl _, rfl⟩, trivial⟩)
  · apply vend_of []; rfl; rfl
    exact ⟨rfl, rfl⟩

theorem vc_same : ∀ (t : Tt) (x : List Int), x.length + ttn t < 1000000000 → VC Tryz.prog 175 [ttV t, ttV t, .one (.d (.sl (nums x))), .one (.d (.sl (nums x)))] [] fun r h' => r = .one (.d (.bool true)) ∧ h' = [] := by
  intro t
  induction t using Tt.ind with
  | h k n ls kids ih =>
  intro x hp
  simp only [ttn] at hp
  have hlen := length_ttn kids
  have hall : ∀ x' : List Int, x'.length ≤ x.length + 1 → VC Tryz.prog 234 [.one (.d (.sl (encTt.encs kids))), .one (.d (.sl (encTt.encs kids))), .one (.d (.sl (nums x'))), .one (.d (.sl (nums x')))] [] fun r h' => r = .one (.d (.bool true)) ∧ h' = [] :=
    fun x' hx => vc_sameAll kids x' (by omega) fun t ht => ih t ht x' (by have := ttn_mem ht; omega)
  refine VC_of_fn mixed fn175 (by simp) ?_
  show vwp Tryz.prog 0 vc175 _ [(0, .agg [.d (.int .i64 k), .d (.int .i64 n), .d (.sl (txts ls)), .d (.sl (encTt.encs kids))]), (1, .agg [.d (.int .i64 k), .d (.int .i64 n), .d (.sl (txts ls)), .d (.sl (encTt.encs kids))]), (2, .one (.d (.sl (nums x)))), (3, .one (.d (.sl (nums x))))] []
  unfold vc175
  rw [vwpI_eq]
  simp -implicitDefEqProofs only [Jg, Jh, Jk, Jm, Jo, Jp, Jq, Jr, Jv, Jy, Jz, JC, JD, JF, JJ, JK, JL, JM, JN, JP, JS, JU, JV, JX, J12, J13, J14, J15, J16, J1e, J1g, noescs, Jg, J1h, J1i, J1j, bt307, J3e ti307 rfl, J1r ti3, J1r ti35, J1r ti36, J1p ti3, J1o ti36, J1s, J1t, J1v, J1w, J1D, J1I, J1M, J1O, J1P, J1Q, J1R, J1V, J2d, J2e, J2i, J2x, J2y, J2z, J2E, J2F, J2H, J2I, J2J, J2K, J2L, J2N, J2S, J2U, J2W, J2Z, J30, ↓reduceIte, reduceCtorEq, beq_self_eq_true, cond_true, cond_false, true_and, J33, J35, bne_iff_ne, bne_eq_false_iff_eq, J38, eq_self, forall_const, not_true_eq_false, ne_eq, false_implies, J3b, J3d, encsTt_length]
  refine callS [] (vc_texts ls (by omega)) rfl rfl rfl ?_
  rintro _ _ ⟨rfl, rfl⟩
  refine ⟨_, _, rfl, ?_⟩
  simp -implicitDefEqProofs only [Jg, Jh, Jk, Jm, Jo, Jp, Jr, Ju, Jv, Jy, Jz, JD, JJ, JK, JL, JM, JN, JO, JP, JR, JS, JU, JV, JW, JX, J12, J13, J15, J18, J1e, J1g, noescs, Jg, J1i, J1k, J3e ti307 rfl, J1r ti3, J1p ti3, J1s, J1t, J1D, J1M, J1O, J1P, J1Q, J1R, J1V, J2e, J2x, J2y, J2z, J2E, J2F, J2H, J2I, J2J, J2K, J2N, J2S, J2U, J2W, J2Z, J30, ↓reduceIte, reduceCtorEq, beq_self_eq_true, cond_true, cond_false, J33, J35, beq_iff_eq, beq_eq_false_iff_ne, J38, eq_self, ne_eq, J39, J3b, J3d]
  refine ⟨fun h1 => ?_, fun h1 => ?_⟩
  · refine callS [] (vc_level x n (by omega)) rfl rfl rfl ?_
    rintro _ _ ⟨rfl, rfl⟩
    refine ⟨_, _, rfl, ?_⟩
    simp -implicitDefEqProofs only [Jg, Jh, Jk, Jm, Jp, Jv, Jy, JD, JJ, JK, JL, JP, JS, JU, JV, J12, J13, J14, J1e, J1g, noescs, Jg, J1i, J3e ti307 rfl, J1r ti3, J1s, J1t, J1D, J1M, J2x, J2y, J2z, J2E, J2F, J2H, J2I, J2J, J2K, J2N, J2S, J2U, J2W, J2Z, J30, ↓reduceIte, reduceCtorEq, beq_self_eq_true, cond_true, cond_false, J33, J35, J38, eq_self, J3b]
    refine callS [] (vc_level x n (by omega)) rfl rfl rfl ?_
    rintro _ _ ⟨rfl, rfl⟩
    refine ⟨_, _, rfl, ?_⟩
    simp -implicitDefEqProofs only [Jg, Jh, Jk, Jm, Jo, Jp, Jq, Jr, JC, JD, JF, JJ, JK, JL, JM, JP, JS, JU, JV, JW, JX, J12, J13, J14, J15, J1e, J1g, noescs, Jg, J1i, J1j, J1k, J3e ti307 rfl, J1r ti3, J1r ti36, J1p ti3, J1s, J1t, J1D, J1M, J1O, J1P, J1Q, J1R, J1V, J2d, J2e, J2f, J2i, J2j, J2l, J2x, J2y, J2z, J2E, J2F, J2H, J2I, J2J, J2K, J2N, J2S, J2U, J2W, J2Z, J30, ↓reduceIte, reduceCtorEq, beq_self_eq_true, cond_true, cond_false, and_true, J33, J35, decide_eq_true_eq, decide_eq_false_iff_not, J38, eq_self, forall_const, false_implies, J3b, ge_iff_le]
    generalize lastAt (fun y => decide (y = n)) x x.length = lv
    refine ⟨fun h2 => ?_, fun h2 => ?_⟩
    · refine callS [] (hall x (by omega)) rfl rfl rfl ?_
      rintro _ _ ⟨rfl, rfl⟩
      refine ⟨_, _, rfl, ?_⟩
      simp -implicitDefEqProofs only [Jm, JC, JD, JF, JJ, JK, JL, JP, JV, JX, J14, J15, J1i, J1V, J2x, J2I, J2W, beq_self_eq_true, cond_true, cond_false, J33, J35]
      apply vend_of []; rfl; rfl
      exact ⟨rfl, rfl⟩
    · refine callS [] (hall x (by omega)) rfl rfl rfl ?_
      rintro _ _ ⟨rfl, rfl⟩
      refine ⟨_, _, rfl, ?_⟩
      simp -implicitDefEqProofs only [Jm, JC, JD, JF, JJ, JK, JL, JP, JV, JX, J14, J15, J1i, J1V, J2x, J2I, J2W, beq_self_eq_true, cond_true, cond_false, J33, J35]
      apply vend_of []; rfl; rfl
      exact ⟨rfl, rfl⟩
  · refine callS [] (vc_binds k) rfl rfl rfl ?_
    rintro _ _ ⟨rfl, rfl⟩
    refine ⟨_, _, rfl, ?_⟩
    simp -implicitDefEqProofs only [Jz, JD, JJ, JP, JV, J1i, J2x, J2W, beq_self_eq_true, cond_true, cond_false]
    refine ⟨fun h2 => ?_, fun h2 => ?_⟩
    · simp -implicitDefEqProofs only [J7, Jc, Jd, Je, Jf, Jg, Jh, Ji, Jk, Jm, Jp, Jq, Jw, Jy, JL, JP, JS, JU, JV, J12, J13, J1e, J1g, noescs, Jg, J1i, J3e ti307 rfl, J1r ti3, J1r ti36, J1s, J1t, J1D, J1M, J2x, J2y, J2z, J2E, J2F, J2H, J2I, J2J, J2K, J2N, J2S, J2U, J2W, J2Z, J30, ↓reduceIte, reduceCtorEq, beq_self_eq_true, cond_true, cond_false, J33, J35, J38, eq_self, J3b]
      refine callS [] (vc_with x n (by omega)) rfl rfl rfl ?_
      rintro _ _ ⟨rfl, rfl⟩
      refine ⟨_, _, rfl, ?_⟩
      simp -implicitDefEqProofs only [J7, J8, J9, Ja, Jb, Jd, Jg, Jh, Ji, Jk, Jm, Jp, Jq, JL, JP, JS, JU, JV, J12, J1e, J1g, noescs, Jg, J1i, J3e ti307 rfl, J1r ti3, J1r ti36, J1s, J1t, J1D, J1M, J2q, J2r, J2s, J2t, J2v, J2x, J2y, J2z, J2D, J2E, J2F, J2G, J2H, J2I, J2J, J2K, J2N, J2S, J2U, J2W, J2Z, J30, ↓reduceIte, reduceCtorEq, beq_self_eq_true, cond_true, cond_false, true_and, and_self, J33, J35, J38, eq_self, J3b]
      refine callS [] (vc_with x n (by omega)) rfl rfl rfl ?_
      rintro _ _ ⟨rfl, rfl⟩
      refine ⟨_, _, rfl, ?_⟩
      simp -implicitDefEqProofs only [J7, J8, J9, Ja, Jb, Jd, Jg, Jh, Ji, Jk, Jm, Jp, Jq, JL, JP, JS, JU, JV, J12, J1e, J1g, noescs, Jg, J1i, J3e ti307 rfl, J1r ti36, J1s, J1t, J1D, J1M, J2q, J2r, J2s, J2t, J2v, J2x, J2y, J2z, J2D, J2E, J2F, J2G, J2H, J2I, J2J, J2K, J2N, J2S, J2U, J2W, J2Z, J30, ↓reduceIte, reduceCtorEq, beq_self_eq_true, cond_true, cond_false, true_and, and_self, J33, J35, J38, eq_self, J3b]
      refine callS [] (hall (x ++ [n]) (by simp)) rfl rfl rfl ?_
      rintro _ _ ⟨rfl, rfl⟩
      refine ⟨_, _, rfl, ?_⟩
      simp -implicitDefEqProofs only [J6, J7, J8, J9, Ja, Jb, Jc, Jd, Je, Jf, Jg, Jh, Jk, Jm, Jp, Jq, JC, JD, JF, JL, JP, JV, J14, Jg, J1i, J2x, J2I, J2W, beq_self_eq_true, cond_true, cond_false, true_and, and_self, J33]
      apply vend_of []; rfl; rfl
      exact ⟨rfl, rfl⟩
    · simp -implicitDefEqProofs only [Jg, Jh, Jk, Jm, Jo, Jp, Jq, Jr, Ju, Jv, Jy, JC, JD, JJ, JK, JL, JM, JP, JS, JU, JV, JX, J12, J13, J14, J15, J1e, J1g, noescs, Jg, J1i, J1j, J3e ti307 rfl, J1r ti3, J1r ti36, J1p ti3, J1s, J1t, J1D, J1M, J1O, J1P, J1Q, J1R, J1V, J2d, J2e, J2j, J2x, J2y, J2z, J2E, J2F, J2H, J2I, J2J, J2K, J2N, J2S, J2U, J2W, J2Z, J30, ↓reduceIte, reduceCtorEq, beq_self_eq_true, cond_true, cond_false, and_true, J33, J35, J38, eq_self, forall_const, false_implies, J3b]
      refine callS [] (hall x (by omega)) rfl rfl rfl ?_
      rintro _ _ ⟨rfl, rfl⟩
      refine ⟨_, _, rfl, ?_⟩
      simp -implicitDefEqProofs only [Jm, JC, JD, JJ, JK, JL, JP, JV, JX, J14, J15, J1i, J1V, J2x, J2I, J2W, beq_self_eq_true, cond_true, cond_false, J33, J35]
      apply vend_of []; rfl; rfl
      exact ⟨rfl, rfl⟩

theorem vc_bindsName (k : Int) : VC Tryz.prog 171 [.one (.d (.int .i64 k))] [] fun r h' => r = .one (.d (.bool (decide (k = 5 ∨ k = 7 ∨ k = 8 ∨ k = 23)))) ∧ h' = [] := by
  refine VC_of_fn mixed fn171 (by simp) ?_
  show vwp Tryz.prog 0 vc171 _ [(0, .one (.d (.int .i64 k)))] []
  unfold vc171
  rw [vwpI_eq]
  simp -implicitDefEqProofs only [Jm, Jo, Jp, Jq, Jr, Jv, Jy, JC, JD, JJ, JK, JL, JM, JP, JV, JW, JX, J13, J14, J15, J1i, J1k, J1p ti3, J1O, J1P, J1Q, J1R, J1V, J2d, J2e, J2i, J2x, J2I, J2W, ↓reduceIte, beq_self_eq_true, cond_true, cond_false, J33, J35, beq_iff_eq, beq_eq_false_iff_ne, eq_self, ne_eq]
  repeat' (first | (with_reducible apply And.intro) | (intro _))
  all_goals
    apply vend_of []; rfl; rfl
    refine ⟨?_, rfl⟩
    simp_all []

theorem vc_bindsNumber (k : Int) : VC Tryz.prog 172 [.one (.d (.int .i64 k))] [] fun r h' => r = .one (.d (.bool (decide (k = 20 ∨ k = 23)))) ∧ h' = [] := by
  refine VC_of_fn mixed fn172 (by simp) ?_
  show vwp Tryz.prog 0 vc172 _ [(0, .one (.d (.int .i64 k)))] []
  unfold vc172
  rw [vwpI_eq]
  simp -implicitDefEqProofs only [Jm, Jo, Jp, Jq, Jr, Jv, Jy, JC, JD, JJ, JK, JL, JM, JP, JV, JW, JX, J13, J14, J15, J1i, J1k, J1p ti3, J1O, J1P, J1Q, J1R, J1V, J2d, J2e, J2i, J2x, J2I, J2W, ↓reduceIte, beq_self_eq_true, cond_true, cond_false, J33, J35, beq_iff_eq, beq_eq_false_iff_ne, eq_self, ne_eq]
  repeat' (first | (with_reducible apply And.intro) | (intro _))
  all_goals
    apply vend_of []; rfl; rfl
    refine ⟨?_, rfl⟩
    simp_all []

theorem vc_bindsLabels (k : Int) : VC Tryz.prog 173 [.one (.d (.int .i64 k))] [] fun r h' => r = .one (.d (.bool (decide (k = 7 ∨ k = 17)))) ∧ h' = [] := by
  refine VC_of_fn mixed fn173 (by simp) ?_
  show vwp Tryz.prog 0 vc173 _ [(0, .one (.d (.int .i64 k)))] []
  unfold vc173
  rw [vwpI_eq]
  simp -implicitDefEqProofs only [Jm, Jo, Jp, Jq, Jr, Jv, Jy, JC, JD, JJ, JK, JL, JM, JP, JV, JW, JX, J13, J14, J15, J1i, J1k, J1p ti3, J1O, J1P, J1Q, J1R, J1V, J2d, J2e, J2i, J2x, J2I, J2W, ↓reduceIte, beq_self_eq_true, cond_true, cond_false, J33, J35, beq_iff_eq, beq_eq_false_iff_ne, eq_self, ne_eq]
  repeat' (first | (with_reducible apply And.intro) | (intro _))
  all_goals
    apply vend_of []; rfl; rfl
    refine ⟨?_, rfl⟩
    simp_all []

end Go.Vt.Tryz
