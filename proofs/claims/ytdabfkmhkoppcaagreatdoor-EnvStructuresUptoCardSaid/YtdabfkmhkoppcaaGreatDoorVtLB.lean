/- The environment laws: lists of types and of constructors are the same as themselves; how great what stands at a path is. -/
import Derived.Test.YtdabfkmhkoppcaaGreatDoorVtL9
set_option maxRecDepth 100000
set_option linter.unusedSimpArgs false
namespace Go.Vt.Tryz
open Go.Vt renaming ob_some → Jm, vbool_eq → Jo, vif_tt → Jp, vif_ff → Jq, vD_bool → Jr, vD_int → Js, wp_skip → Ju, wp_ops → Jv, wp_seq → Jy, wp_cond → Jz, wp_block → JA, wp_exit → JB, wp_ret → JC, th_normal → JD, th_exit → JE, th_ret → JF, bl_normal → JG, bl_ret → JH, bl_exit → JI, ops_nil → JJ, ops_cons → JK, go_none → JL, go_some → JM, cond_tt → JN, cond_ff → JO, put_some → JP, asB → JR, asL → JS, asI → JT, asFn → JU, opd_tmp → JV, opd_int → JW, opd_bool → JX, opd_func → J12, so_move → J13, so_assign → J14, so_pick → J15, so_not → J18, so_call → J1e, esc_func → J1g, lk_cons → J1i, nilC_tmp → J1j, nilC_int → J1k, so_len → J1o, so_bin → J1p, so_indexAddr → J1q, so_load → J1r, vload → J1s, mkV → J1t, vfieldAddr → J1D, vindexAddr → J1E, vlen → J1I, opds → J1M, vbin2 → J1O, vbin → J1P, vint → J1Q, vstr → J1R, vpick → J1V, vundef → J2d, gb_b → J2e, sb_tf → J2i, so_fieldAddr → J3e
open List renaming contains_cons → Jg, contains_nil → Jh, lookup_nil → J2x, getElem?_cons_zero → J2y, getElem?_cons_succ → J2z, getElem?_nil → J2A, take_succ_cons → J2B, take_nil → J2D, drop_succ_cons → J2E, drop_zero → J2F, length_cons → J2H, length_nil → J2I, append_nil → J2J, nil_append → J2K, map_cons → J2M, map_nil → J2N, all_nil → J2S
open Bool renaming or_false → Jk, and_true → J2U, false_eq_true → J38, not_true → J39
open Nat renaming reduceBEq → J2W, reduceAdd → J30, zero_add → J3b, le_refl → J3c
open Option renaming map_some → J33, bind_some → J35
open Go.Proofs

theorem vc_types (l : List Ty) (hp : tyn.go l < 1000000000) : VC Tryz.prog 62 [.one (.d (.sl (encTy.encs l))), .one (.d (.sl (encTy.encs l)))] [] fun r h' => r = .one (.d (.bool true)) ∧ h' = [] := by
  have hlen := length_tyn l
  refine VC_of_fn mixed fn62 (by simp) ?_
  show vwp Tryz.prog 0 vc62 _ [(0, .one (.d (.sl (encTy.encs l)))), (1, .one (.d (.sl (encTy.encs l))))] []
  unfold vc62
  rw [vwpI_eq]
  simp -implicitDefEqProofs only [Jm, Jo, Jr, Ju, Jv, Jy, Jz, JA, JC, JD, JF, JJ, JK, JL, JN, JO, JP, JV, JW, JX, J13, J14, J1i, J1j, J1o ti30, J1p ti3, J1I, J1O, J1P, J1Q, J1R, J2x, J2A, J2I, J2W, ↓reduceIte, reduceCtorEq, beq_self_eq_true, cond_true, cond_false, true_and, J33, J35, bne_iff_ne, bne_eq_false_iff_eq, eq_self, forall_const, not_true_eq_false, ne_eq, false_implies, encsTy_length]
  refine loopI (α := Nat) (fun i => [(5, .one (.d (.int .i64 i))), (0, .one (.d (.sl (encTy.encs l)))), (1, .one (.d (.sl (encTy.encs l))))]) (fun _ => [])
    (fun i => i ≤ l.length) (fun i => l.length - i) 0
    (keepI [] _ (WkH.refl _) rfl rfl rfl ⟨⟨_, WkV.refl _, rfl⟩, ⟨_, WkV.refl _, rfl⟩, ⟨_, WkV.refl _, rfl⟩, trivial⟩) (Nat.zero_le _) ?_
  intro i hi
  have hw : IntKind.i64.wrap ((i : Int) + 1) = ((i + 1 : Nat) : Int) := wrap_nat (by omega)
  simp -implicitDefEqProofs only [Jm, Jo, Jp, Jr, Ju, Jv, Jy, Jz, JA, JB, JC, JD, JE, JI, JJ, JK, JL, JN, JO, JP, JS, JT, JV, JX, J13, J14, J1i, J1j, J1o ti30, J1p ti3, J1q ti30 rfl, J1E, J1I, J1O, J1P, J1Q, J1R, J2x, J2A, J2I, J2W, ↓reduceIte, reduceCtorEq, beq_self_eq_true, cond_true, cond_false, J33, J35, decide_eq_true_eq, decide_eq_false_iff_not, eq_self, encsTy_length]
  refine ⟨fun h5 => ?_, fun h5 => ?_⟩
  · have hi' : i < l.length := by omega
    obtain ⟨u, hu⟩ : ∃ u, l[i]? = some u := ⟨l[i], List.getElem?_eq_getElem hi'⟩
    have hmem := List.mem_of_getElem? hu
    have hnu := tyn_mem hmem
    have iu := vc_same8 u (by omega)
    have hg : (encTy.encs l)[i]? = some (encTy u) := by rw [encsTy, List.getElem?_map, hu]; rfl
    obtain ⟨uk, un, uc⟩ := u
    simp only [tyV, encTy, List.map_cons, List.map_nil] at iu hg
    simp -implicitDefEqProofs only [Jg, Jh, Jk, Jm, Jp, JK, JL, JP, JS, JT, JU, JV, J12, J13, J1e, J1g, noescs, Jg, J1i, J1q ti30 rfl, J1r ti32, J1s, J1t, J1E, J1M, J2x, J2A, J2B, J2D, J2H, J2I, J2J, J2K, J2M, J2N, J2S, J2U, J2W, J30, ↓reduceIte, beq_self_eq_true, cond_true, cond_false, J33, J35, eq_self, J3b, J3c, hg, Int.natCast_nonneg, Int.toNat_natCast]
    refine callS [] (iu) rfl rfl rfl ?_
    rintro _ _ ⟨rfl, rfl⟩
    refine ⟨_, _, rfl, ?_⟩
    simp -implicitDefEqProofs only [Jm, Js, Ju, Jv, Jz, JD, JG, JJ, JK, JL, JO, JP, JR, JV, JW, J13, J14, J18, J1i, J1k, J1p ti3, J1O, J1P, J1Q, J1R, J2x, J2W, ↓reduceIte, beq_self_eq_true, cond_true, cond_false, J33, J35, eq_self, J39, hw]
    refine ⟨i + 1, by omega, by omega, ?_⟩
    exact (keepI [] _ (WkH.refl _) rfl rfl rfl ⟨⟨_, WkV.refl _, rfl⟩, ⟨_, WkV.refl _, rfl⟩, ⟨_, WkV.refl _, rfl⟩, trivial⟩)
  · apply vend_of []; rfl; rfl
    exact ⟨rfl, rfl⟩

theorem vc_ctors (l : List Ct) (hp : sumN ctn l < 1000000000) : VC Tryz.prog 17 [.one (.d (.sl (l.map encCt))), .one (.d (.sl (l.map encCt)))] [] fun r h' => r = .one (.d (.bool true)) ∧ h' = [] := by
  have hlen := sumN_length (f := ctn) (fun c => by simp [ctn]) l
  refine VC_of_fn mixed fn17 (by simp) ?_
  show vwp Tryz.prog 0 vc17 _ [(0, .one (.d (.sl (l.map encCt)))), (1, .one (.d (.sl (l.map encCt))))] []
  unfold vc17
  rw [vwpI_eq]
  simp -implicitDefEqProofs only [Jm, Jo, Jr, Ju, Jv, Jy, Jz, JA, JC, JD, JF, JJ, JK, JL, JN, JO, JP, JV, JW, JX, J13, J14, J1i, J1j, J1o ti70, J1p ti3, J1I, J1O, J1P, J1Q, J1R, J2x, J2A, J2I, J2W, ↓reduceIte, reduceCtorEq, beq_self_eq_true, cond_true, cond_false, true_and, J33, J35, bne_iff_ne, bne_eq_false_iff_eq, eq_self, forall_const, not_true_eq_false, ne_eq, false_implies, List.length_map]
  refine loopI (α := Nat) (fun i => [(5, .one (.d (.int .i64 i))), (0, .one (.d (.sl (l.map encCt)))), (1, .one (.d (.sl (l.map encCt))))]) (fun _ => [])
    (fun i => i ≤ l.length) (fun i => l.length - i) 0
    (keepI [] _ (WkH.refl _) rfl rfl rfl ⟨⟨_, WkV.refl _, rfl⟩, ⟨_, WkV.refl _, rfl⟩, ⟨_, WkV.refl _, rfl⟩, trivial⟩) (Nat.zero_le _) ?_
  intro i hi
  have hw : IntKind.i64.wrap ((i : Int) + 1) = ((i + 1 : Nat) : Int) := wrap_nat (by omega)
  simp -implicitDefEqProofs only [Jm, Jo, Jp, Jr, Ju, Jv, Jy, Jz, JA, JB, JC, JD, JE, JI, JJ, JK, JL, JN, JO, JP, JS, JT, JV, JX, J13, J14, J1i, J1j, J1o ti70, J1p ti3, J1q ti70 rfl, J1E, J1I, J1O, J1P, J1Q, J1R, J2x, J2A, J2I, J2W, ↓reduceIte, reduceCtorEq, beq_self_eq_true, cond_true, cond_false, J33, J35, decide_eq_true_eq, decide_eq_false_iff_not, eq_self, List.length_map]
  refine ⟨fun h5 => ?_, fun h5 => ?_⟩
  · have hi' : i < l.length := by omega
    obtain ⟨u, hu⟩ : ∃ u, l[i]? = some u := ⟨l[i], List.getElem?_eq_getElem hi'⟩
    have hmem := List.mem_of_getElem? hu
    have hnu := sumN_mem (f := ctn) hmem
    have iu := vc_types u.args (by simp only [ctn] at hnu; omega)
    have hg : (l.map encCt)[i]? = some (encCt u) := by rw [List.getElem?_map, hu]; rfl
    obtain ⟨un, uc⟩ := u
    simp only [encCt] at hg
    simp -implicitDefEqProofs only [Jg, Jh, Jk, Jm, Jo, Jp, Jq, Jr, Jv, Jy, Jz, JC, JD, JF, JH, JJ, JK, JL, JM, JN, JP, JS, JT, JU, JV, JX, J12, J13, J14, J15, J1e, J1g, noescs, Jg, J1i, J1j, J1p ti9, J1q ti70 rfl, J3e ti156 rfl, J1r ti9, J1r ti30, J1s, J1t, J1D, J1E, J1M, J1O, J1P, J1Q, J1R, J1V, J2d, J2e, J2i, J2x, J2y, J2z, J2A, J2E, J2F, J2H, J2I, J2J, J2K, J2M, J2N, J2S, J2U, J2W, J30, ↓reduceIte, reduceCtorEq, beq_self_eq_true, cond_true, cond_false, true_and, J33, J35, decide_true, J38, eq_self, forall_const, false_implies, J39, J3b, hg, Int.natCast_nonneg, Int.toNat_natCast]
    refine callS [] (iu) rfl rfl rfl ?_
    rintro _ _ ⟨rfl, rfl⟩
    refine ⟨_, _, rfl, ?_⟩
    simp -implicitDefEqProofs only [Jm, Jp, Js, Ju, Jv, Jz, JD, JG, JJ, JK, JL, JM, JO, JP, JR, JV, JW, JX, J13, J14, J15, J18, J1i, J1k, J1p ti3, J1O, J1P, J1Q, J1R, J1V, J2e, J2x, J2W, ↓reduceIte, beq_self_eq_true, cond_true, cond_false, J33, J35, eq_self, J39, hw]
    refine ⟨i + 1, by omega, by omega, ?_⟩
    exact (keepI [] _ (WkH.refl _) rfl rfl rfl ⟨⟨_, WkV.refl _, rfl⟩, ⟨_, WkV.refl _, rfl⟩, ⟨_, WkV.refl _, rfl⟩, trivial⟩)
  · apply vend_of []; rfl; rfl
    exact ⟨rfl, rfl⟩

theorem typP_small {typs : List Tym} {subs : List SubE} {B : Nat} (hv : ∀ x ∈ typs, tymn x ≤ B) (hB : Small B subs) (p : List ByteArray) : tymn ((typP typs subs p).getD tz) ≤ B + 2 := by
  cases e : typP typs subs p with
  | none => simp [tz, tymn, tyn, tyn.go, sumN]
  | some x =>
    simp only [Option.getD_some]
    rcases p with _ | ⟨s, _ | ⟨t, r⟩⟩
    · cases e
    · have := hv x (lastOf_mem e).1
      omega
    · have e : (subAt subs (t :: r)).bind (farTyp s) = some x := e
      cases e1 : subAt subs (t :: r) with
      | none => rw [e1] at e; cases e
      | some y =>
        rw [e1] at e
        have hs := subAt_small (fun x hx => (hB x hx).1) (t :: r) y e1
        simp only [Option.bind_some, farTyp] at e
        cases e2 : lastOf (·.name) y.2.1.types s with
        | none => rw [e2] at e; cases e
        | some m =>
          rw [e2] at e
          cases e
          have hm := sumN_mem (f := tymn) (lastOf_mem e2).1
          obtain ⟨yn, ⟨a, b, c, d, f⟩, yt⟩ := y
          simp only [stn, Stx.types, tymn] at hs hm ⊢
          omega

end Go.Vt.Tryz
