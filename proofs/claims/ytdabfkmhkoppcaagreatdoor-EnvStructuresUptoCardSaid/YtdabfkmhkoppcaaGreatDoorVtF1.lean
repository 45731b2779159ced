/- The document's answers: structures at a path. -/
import Derived.Test.YtdabfkmhkoppcaaGreatDoorVtLA
set_option maxRecDepth 100000
set_option linter.unusedSimpArgs false
namespace Go.Vt.Tryz
open Go.Vt renaming opsB_leaf → J1, opsB_no → J2, opsB_ro → J3, opsB_alt → J4, wp_opsB → J5, opsW_nil → J6, opsW_cons → J7, again_nil → J8, again_cons → J9, obOf_nil → Ja, obOf_cons → Jb, wadd → Jc, ro → Jd, ob_some → Jm, ob_none → Jn, vbool_eq → Jo, vif_tt → Jp, vif_ff → Jq, vD_bool → Jr, vD_int → Js, wp_skip → Ju, wp_ops → Jv, wp_opsW → Jw, wp_seq → Jy, wp_cond → Jz, wp_block → JA, wp_exit → JB, wp_ret → JC, th_normal → JD, th_exit → JE, th_ret → JF, bl_normal → JG, bl_ret → JH, bl_exit → JI, ops_nil → JJ, ops_cons → JK, go_none → JL, go_some → JM, cond_tt → JN, cond_ff → JO, put_some → JP, put_none → JQ, asL → JS, asI → JT, asFn → JU, opd_tmp → JV, opd_int → JW, opd_bool → JX, opd_func → J12, so_move → J13, so_assign → J14, so_pick → J15, so_box → J16, so_extract → J1b, so_call → J1e, esc_func → J1g, bobj_none → J1h, lk_cons → J1i, nilC_tmp → J1j, nilC_int → J1k, so_alloc → J1o, so_load → J1p, so_buildSlice → J1q, so_build → J1r, so_store → J1s, vload → J1t, mkV → J1u, vstore → J1v, vcells → J1w, known → J1x, toDs → J1y, toD → J1z, fzLs → J1A, fzL → J1B, fzOne → J1C, splice → J1D, vfieldAddr → J1E, vindexAddr → J1F, vbuild → J1G, vfill → J1H, vbr → J1I, vlen → J1J, vslice → J1K, vbound → J1L, opdO → J1M, opds → J1N, opdPairs → J1O, vbin2 → J1P, vbin → J1Q, vint → J1R, vstr → J1S, vpick → J1W, vrows → J20, fzVs → J21, allLen → J26, vundef → J2e, gb_b → J2f, sb_ft → J2k, putBack → J2r, fzIds → J2s, lentVs → J2t, lentV → J2u, lentLs → J2v, lentL → J2w, so_len → J3f, so_bin → J3g, so_indexAddr → J3h, so_fieldAddr → J3i, so_slice → J3j
open List renaming any_cons → Je, any_nil → Jf, contains_cons → Jg, contains_nil → Jh, lookup_nil → J2y, getElem?_cons_zero → J2z, getElem?_cons_succ → J2A, getElem?_nil → J2B, take_succ_cons → J2C, take_zero → J2D, take_nil → J2E, drop_succ_cons → J2F, drop_zero → J2G, drop_nil → J2H, length_cons → J2I, length_nil → J2J, append_nil → J2K, nil_append → J2L, cons_append → J2M, map_cons → J2N, map_nil → J2O, set_cons_zero → J2P, set_cons_succ → J2Q, all_cons → J2S, all_nil → J2T
open Bool renaming or_true → Ji, or_false → Jk, and_true → J2V, false_eq_true → J39
open Nat renaming reduceBEq → J2X, reduceEqDiff → J2Y, reduceLeDiff → J30, reduceAdd → J31, reduceMul → J32, zero_add → J3c, le_refl → J3d, add_zero → J3e
open Option renaming map_some → J34, map_none → J35, bind_some → J36, isSome_some → J38
open Go.Proofs

theorem lastOf_hit {α : Type} {nm : α → ByteArray} {l : List α} {s : ByteArray} {i : Nat} {x : α} (hx : l[i]? = some x) (h1 : nm x = s) (h2 : ∀ (j : Nat) (y : α), i < j → l[j]? = some y → nm y ≠ s) : lastOf nm l s = some x := by
  have hlt : i < l.length := (List.getElem?_eq_some_iff.1 hx).1
  have hsplit : l = l.take i ++ x :: l.drop (i + 1) := by
    conv => lhs; rw [← List.take_append_drop i l]
    rw [List.drop_eq_getElem_cons hlt]
    have : l[i] = x := by rw [List.getElem?_eq_getElem hlt] at hx; exact Option.some.inj hx
    rw [this]
  have hnone : (l.drop (i + 1)).reverse.find? (fun a => decide (nm a = s)) = none := by
    rw [List.find?_eq_none]
    intro y hy
    rw [List.mem_reverse] at hy
    obtain ⟨j, hj⟩ := List.getElem?_of_mem hy
    rw [List.getElem?_drop] at hj
    have := h2 _ y (by omega) hj
    simpa using this
  unfold lastOf
  rw [hsplit, List.reverse_append, List.reverse_cons, List.append_assoc, List.find?_append, hnone]
  simp [h1]

theorem lastOf_miss {α : Type} {nm : α → ByteArray} {l : List α} {s : ByteArray} (h2 : ∀ (j : Nat) (y : α), l[j]? = some y → nm y ≠ s) : lastOf nm l s = none := by
  unfold lastOf
  rw [List.find?_eq_none]
  intro y hy
  rw [List.mem_reverse] at hy
  obtain ⟨j, hj⟩ := List.getElem?_of_mem hy
  have := h2 _ y hj
  simpa using this

theorem vc_rsel (s : ByteArray) (t : Tm) : VC Tryz.prog 64 [.one (.d (.str s)), tmV t] [] fun r h' => r = tmV (selT s t) ∧ h' = [] := by
  obtain ⟨k, n, i, nm, ls, ts, kids⟩ := t
  refine VC_of_fn mixed fn64 (by simp) ?_
  show vwp Tryz.prog 0 vc64 _ [(0, .one (.d (.str s))), (1, .agg [.d (.int .i64 k), .d (.int .i64 n), .d (.int .i64 i), .d (.str nm), .d (.sl (txts ls)), .d (.sl (encTt.encs ts)), .d (.sl (encTm.encs kids))])] []
  unfold vc64
  rw [vwpI_eq]
  simp -implicitDefEqProofs only [Jm, Jv, Jy, JC, JD, JJ, JK, JL, JP, JQ, JS, JV, JW, J13, J16, J1h, J1i, bt39, bt39, J1o ti39, J1p ti39, J1q ti37 rfl, J1r ti39, J1s ti39, J1t, J1u, J1v, J1w, J1x, J1y, J1z, J1A, J1B, J1C, AObj.freeze, J1D, J1G, J1H, J1I, J1O, J20, J21, J2y, J2z, J2A, J2C, J2D, J2E, J2F, J2G, J2H, J2I, J2J, J2K, J2L, J2M, J2P, J2Q, J2S, J2T, J2V, J2X, J2Y, J30, J31, J32, ↓reduceIte, beq_self_eq_true, cond_true, cond_false, true_and, and_self, J34, J36, J38, eq_self, J3c, J3d]
  apply vend_wk (r1 := .agg [.d (.int .i64 15), .d (.int .i64 0), .d (.int .i64 0), .d (.str s), .d (.sl []), .d (.sl []), .own 2 0 1]) [] []
  · simp only [vres, lk_cons, Nat.reduceBEq, cond_true, cond_false, ti39, vload, List.getElem?_cons_succ, List.getElem?_cons_zero, mkV, List.drop_zero, List.length_cons, List.length_nil, Nat.reduceAdd, Nat.le_refl, if_true, List.take_succ_cons, List.take_zero]; rfl
  · rfl
  · show WkV (.agg _) (.agg _)
    unfold WkV
    exact ⟨.inl rfl, .inl rfl, .inl rfl, .inl rfl, .inr (.inl ⟨rfl, rfl⟩), .inr (.inl ⟨rfl, rfl⟩), .inl rfl, trivial⟩
  · exact WkH.refl _
  · rfl
  · exact ⟨rfl, rfl⟩

set_option maxHeartbeats 4000000 in
theorem vc_rSub (vals : List ValE) (cons : List ConE) (typs : List Tym) (subs : List SubE) (funs : List FunE) (sigs : List SigE) (hl : subs.length < 1000000000) (hB : ∀ x ∈ subs, stn x.2.1 ≤ 999999990) : ∀ p : List ByteArray, p.length < 1000000000 →
    VC Tryz.prog 19 [envV vals cons typs subs funs sigs, .one (.d (.sl (txts p.reverse)))] [] fun r h' => r = resR encSub zSub (subAt subs p) ∧ h' = [] := by
  intro p
  induction p with
  | nil =>
    intro _
    unfold envV
    refine VC_of_fn mixed fn19 (by simp) ?_
    show vwp Tryz.prog 0 vc19 _ [(0, .agg [.d (.sl (vals.map encVal)), .d (.sl (cons.map encCon)), .d (.sl (typs.map encTym)), .d (.sl (subs.map encSub)), .d (.sl (funs.map encFun)), .d (.sl (sigs.map encSig))]), (1, .one (.d (.sl (txts [].reverse))))] []
    unfold vc19
    rw [vwpI_eq]
    have ht : txts [].reverse = [] := rfl
    simp -implicitDefEqProofs only [Jm, Jo, Jr, Js, Ju, Jv, Jy, Jz, JC, JD, JF, JJ, JK, JL, JN, JO, JP, JQ, JS, JT, JV, JW, J13, J14, J16, J1h, J1i, J1k, bt29, bt81, J1o ti81, J3f ti35, J3g ti3, J1r ti81, J1s ti81, J3h ti35 rfl, J1v, J1w, J1x, J1y, J1z, J1A, J1B, J1D, J1F, J1G, J1H, J1J, J1O, J1P, J1Q, J1R, J1S, J2y, J2z, J2A, J2B, J2D, J2F, J2H, J2I, J2J, J2K, J2L, J2M, J2P, J2Q, J2X, J31, ↓reduceIte, reduceCtorEq, beq_self_eq_true, cond_true, cond_false, true_and, and_true, J34, J36, eq_self, forall_const, false_implies, J3c, J3d, ht, Int.natCast_zero]
    apply vend_of []; rfl; rfl
    exact ⟨rfl, rfl⟩
  | cons s r ih =>
    intro hp
    simp only [List.length_cons] at hp
    have ih := ih (by omega)
    have hlen : (txts (s :: r).reverse).length = r.length + 1 := by rw [txts_length]; simp
    have hcast : ((r.length + 1 : Nat) : Int) - 1 = (r.length : Int) := by omega
    have hw : IntKind.i64.wrap (((r.length + 1 : Nat) : Int) - 1) = (r.length : Int) := by rw [hcast]; exact wrap_p (by omega) (by omega)
    have hge : (0 : Int) ≤ (r.length : Int) := by omega
    have hget : (txts (s :: r).reverse)[r.length]? = some [.str s] := txts_get (by rw [List.reverse_cons, List.getElem?_append_right (by simp)]; simp)
    have htk : (txts (s :: r).reverse).take r.length = txts r.reverse := by
      rw [txts, ← List.map_take, List.reverse_cons, List.take_left' (by simp)]; rfl
    have hne : ((((r.length + 1 : Nat) : Int)) = 0) = False := by simp; omega
    have hle : r.length ≤ r.length + 1 := by omega
    unfold envV at *
    refine VC_of_fn mixed fn19 (by simp) ?_
    show vwp Tryz.prog 0 vc19 _ [(0, .agg [.d (.sl (vals.map encVal)), .d (.sl (cons.map encCon)), .d (.sl (typs.map encTym)), .d (.sl (subs.map encSub)), .d (.sl (funs.map encFun)), .d (.sl (sigs.map encSig))]), (1, .one (.d (.sl (txts (s :: r).reverse))))] []
    unfold vc19
    rw [vwpI_eq]
    have hwl : IntKind.i64.wrap ((subs.length : Int) - 1) = (subs.length : Int) - 1 := wrap_p (by omega) (by omega)
    simp -implicitDefEqProofs only [J2, J3, J4, J5, J8, J9, Ja, Jb, Jc, Je, Jf, Jg, Jh, Ji, Jk, Jm, Jo, Jp, Jr, Js, Ju, Jv, Jy, Jz, JA, JC, JD, JF, JJ, JK, JL, JN, JO, JP, JQ, JS, JT, JU, JV, JW, J12, J13, J14, J16, J1e, J1g, noescs, Jg, J1h, J1i, J1k, bt29, bt81, J1o ti81, J3f ti25, J3f ti35, J3g ti3, J1r ti81, J1s ti81, J3h ti35 rfl, J1p ti9, J1p ti25, J1p ti29, J3i ti29 rfl, J3j ti35, J1t, J1u, J1v, J1w, J1x, J1y, J1z, J1A, J1B, J1D, J1E, J1F, J1G, J1H, J1J, J1K, J1L, J1M, J1N, J1O, J1P, J1Q, J1R, J1S, J26, J2y, J2z, J2A, J2C, J2D, J2E, J2F, J2G, J2H, J2I, J2J, J2K, J2L, J2M, J2N, J2O, J2P, J2Q, J2T, J2V, J2X, J30, J31, ↓reduceIte, reduceCtorEq, beq_self_eq_true, cond_true, cond_false, true_and, and_true, and_self, J34, J36, beq_iff_eq, beq_eq_false_iff_ne, J39, eq_self, forall_const, not_false_eq_true, ne_eq, false_implies, J3c, J3d, hlen, hw, hwl, hget, hge, hne, hle, htk, Int.toNat_natCast, List.length_map, true_or, Nat.zero_le]
    refine ⟨fun q1 => ?_, fun q1 => ?_⟩
    · obtain rfl : r = [] := List.eq_nil_of_length_eq_zero (by omega)
      refine loopI (α := Nat) (fun m => [(7, .one (.d (.int .i64 ((m : Int) - 1)))), (6, .one (.d (.str s))), (4, .one (.ptr 1 0)), (2, .one (.ptr 0 0))])
        (fun _ => [.box [.d (.sl (vals.map encVal)), .d (.sl (cons.map encCon)), .d (.sl (typs.map encTym)), .d (.sl (subs.map encSub)), .d (.sl (funs.map encFun)), .d (.sl (sigs.map encSig))], .box zSub])
        (fun m => m ≤ subs.length ∧ ∀ (j : Nat) (y : SubE), m ≤ j → subs[j]? = some y → y.1 ≠ s) (fun m => m) subs.length
        (keepI [0, 1] _ (WkH.refl _) rfl rfl rfl ⟨⟨_, WkV.refl _, rfl⟩, ⟨_, WkV.refl _, rfl⟩, ⟨_, WkV.refl _, rfl⟩, ⟨_, WkV.refl _, rfl⟩, trivial⟩) ⟨Nat.le_refl _, fun j y hj hy => absurd (List.getElem?_eq_some_iff.1 hy).1 (by omega)⟩ ?_
      rintro m ⟨hm, hmiss⟩
      simp -implicitDefEqProofs only [Jm, Jo, Jp, Jr, Ju, Jv, Jy, Jz, JA, JB, JC, JD, JE, JF, JI, JJ, JK, JL, JN, JO, JP, JQ, JS, JT, JV, JW, J13, J14, J1i, J1k, J3g ti3, J1r ti81, J1s ti81, J3h ti25 rfl, J1p ti25, J3i ti29 rfl, J1t, J1u, J1v, J1w, J1x, J1y, J1z, J1A, J1B, J1D, J1E, J1F, J1G, J1H, J1O, J1P, J1Q, J1R, J1S, J2y, J2z, J2A, J2D, J2F, J2G, J2H, J2I, J2J, J2K, J2L, J2P, J2Q, J2X, J2Y, J30, J31, ↓reduceIte, reduceCtorEq, beq_self_eq_true, cond_true, cond_false, false_and, J34, J36, decide_eq_true_eq, decide_eq_false_iff_not, J39, eq_self, J3c, J3d, ge_iff_le, zSub]
      refine ⟨fun g => ?_, fun g => ?_⟩
      · obtain ⟨i, rfl⟩ : ∃ i, m = i + 1 := ⟨m - 1, by omega⟩
        have hi : i < subs.length := by omega
        obtain ⟨u, hu⟩ : ∃ u, subs[i]? = some u := ⟨subs[i], List.getElem?_eq_getElem hi⟩
        have hg : (subs.map encSub)[i]? = some (encSub u) := by rw [List.getElem?_map, hu]; rfl
        have hhit := fun h1 => lastOf_hit (nm := (·.1)) (s := s) hu h1 (fun j y hj hy => hmiss j y (by omega) hy)
        obtain ⟨un, ⟨x1, x2, x3, x4, x5⟩, ⟨v1, v2, v3, v4, v5, v6, v7⟩⟩ := u
        simp only [encSub, encSt, encTm, List.cons_append, List.nil_append] at hg
        have hc : ((i + 1 : Nat) : Int) - 1 = (i : Int) := by omega
        have hwi : IntKind.i64.wrap ((i : Int) - 1) = (i : Int) - 1 := wrap_p (by omega) (by omega)
        simp -implicitDefEqProofs only [Jm, Jo, Jr, Js, Ju, Jv, Jy, Jz, JC, JD, JF, JG, JH, JJ, JK, JL, JN, JO, JP, JQ, JS, JT, JV, JW, J13, J14, J1i, J1j, J1k, J3g ti3, J3g ti9, J1s ti81, J3h ti25 rfl, J1p ti9, J1p ti25, J1p ti81, J3i ti29 rfl, J3i ti81 rfl, J1t, J1u, J1v, J1w, J1x, J1y, J1z, J1A, J1B, J1D, J1E, J1F, J1P, J1Q, J1R, J1S, J2y, J2z, J2A, J2C, J2D, J2E, J2F, J2G, J2H, J2I, J2J, J2K, J2L, J2N, J2O, J2P, J2Q, J2X, J2Y, J30, J31, ↓reduceIte, reduceCtorEq, beq_self_eq_true, cond_true, cond_false, true_and, false_and, J34, J36, decide_eq_true_eq, decide_eq_false_iff_not, J39, eq_self, ne_eq, J3c, J3d, J3e, hc, hg, Int.natCast_nonneg, Int.toNat_natCast]
        refine ⟨fun e => ?_, fun e => ?_⟩
        · apply vend_of []; rfl; rfl
          refine ⟨?_, rfl⟩
          rw [show subAt subs [s] = some _ from hhit e]
          rfl
        · simp only [hwi]
          refine ⟨i, ⟨by omega, fun j y hj hy => ?_⟩, Nat.lt_succ_self i, (keepI [0, 1] _ (WkH.refl _) rfl rfl rfl ⟨⟨_, WkV.refl _, rfl⟩, ⟨_, WkV.refl _, rfl⟩, ⟨_, WkV.refl _, rfl⟩, ⟨_, WkV.refl _, rfl⟩, trivial⟩)⟩
          by_cases e2 : j = i
          · subst e2
            rw [hu] at hy
            cases hy
            exact e
          · exact hmiss j y (by omega) hy
      · apply vend_of []; rfl; rfl
        refine ⟨?_, rfl⟩
        have : m = 0 := by omega
        subst this
        rw [show subAt subs [s] = none from lastOf_miss (fun j y hy => hmiss j y (Nat.zero_le _) hy)]
        rfl
    · have hsub : subAt subs (s :: r) = (subAt subs r).bind (farSub s) := by
        cases r with
        | nil => exact absurd rfl (fun e => q1 e)
        | cons t r' => rfl
      have hne21 : ((21 : Int) = 0) = False := by simp
      have hw0 : IntKind.i64.wrap (((0 : Nat) : Int) - 1) = -1 := rfl
      have hsm := fun x h => (subs_small (subAt_small hB r x h)).1
      cases hs : subAt subs r with
      | none =>
        rw [hs] at ih hsub
        simp only [resR, zSub] at ih
        refine ⟨?_, ?_⟩
        all_goals
          refine callS [] (ih) rfl rfl rfl ?_
          rintro _ _ ⟨rfl, rfl⟩
          refine ⟨_, _, rfl, ?_⟩
          simp -implicitDefEqProofs only [J1, J2, J3, J4, J8, J9, Ja, Jb, Jc, Je, Jf, Jg, Jh, Ji, Jk, Jm, Jp, Jq, Js, Jv, Jy, JA, JD, JJ, JK, JL, JP, JQ, JS, JV, JW, J13, J14, J1b, Jg, J1h, J1i, J1k, bt81, J1o ti81, J3f ti35, J3f ti61, J3g ti3, J1s ti81, J1p ti29, J1p ti61, J3i ti65 rfl, J3i ti81 rfl, J3j ti35, J1t, J1u, J1v, J1w, J1x, J1y, J1z, J1A, J1B, J1D, J1E, J1J, J1K, J1L, J1M, J1P, J1Q, J1R, J1S, J26, J2y, J2z, J2A, J2C, J2D, J2E, J2F, J2G, J2H, J2I, J2J, J2K, J2L, J2M, J2P, J2Q, J2X, J30, J31, ↓reduceIte, reduceCtorEq, beq_self_eq_true, cond_true, cond_false, true_and, and_true, and_self, J34, J36, J39, eq_self, J3c, J3d, hw0, hlen, hge, hle, htk, Int.toNat_natCast, true_or, Nat.zero_le]
          refine loopI (α := Unit) (fun _ => [(10, .one (.d (.int .i64 (-1)))), (9, .one (.d (.int .i64 21))), (8, .one (.ptr 2 0)), (6, .one (.d (.str s))), (4, .one (.ptr 1 0)), (2, .one (.ptr 0 0))])
            (fun _ => [.box [.d (.sl (vals.map encVal)), .d (.sl (cons.map encCon)), .d (.sl (typs.map encTym)), .d (.sl (subs.map encSub)), .d (.sl (funs.map encFun)), .d (.sl (sigs.map encSig))], .box zSub, .box zSub])
            (fun _ => True) (fun _ => 0) () (keepI [0, 1, 2] _ (WkH.refl _) rfl rfl rfl ⟨⟨_, WkV.refl _, rfl⟩, ⟨_, WkV.refl _, rfl⟩, ⟨_, WkV.refl _, rfl⟩, ⟨_, WkV.refl _, rfl⟩, ⟨_, WkV.refl _, rfl⟩, ⟨_, WkV.refl _, rfl⟩, trivial⟩) trivial ?_
          intro _ _
          simp -implicitDefEqProofs only [Jm, Jn, Jo, Jp, Jq, Jr, Ju, Jv, Jy, Jz, JA, JB, JC, JD, JE, JI, JJ, JK, JL, JM, JN, JO, JP, JQ, JS, JT, JV, JW, JX, J13, J14, J15, J1i, J1k, J3g ti3, J3g ti43, J1r ti81, J1s ti81, J3h ti61 rfl, J1p ti61, J3i ti65 rfl, J3i ti81 rfl, J1t, J1u, J1v, J1w, J1x, J1y, J1z, J1A, J1B, J1D, J1E, J1F, J1G, J1H, J1O, J1P, J1Q, J1R, J1S, J1W, J2e, J2f, J2k, J2y, J2z, J2A, J2D, J2F, J2G, J2H, J2I, J2J, J2K, J2L, J2P, J2Q, J2X, J2Y, J30, J31, ↓reduceIte, reduceCtorEq, beq_self_eq_true, cond_true, cond_false, true_and, false_and, J34, J35, J36, decide_eq_true_eq, decide_eq_false_iff_not, beq_iff_eq, beq_eq_false_iff_ne, J39, eq_self, forall_const, not_false_eq_true, ne_eq, false_implies, J3c, J3d, ge_iff_le, hne21, zSub]
          apply vend_of []; rfl; rfl
          exact ⟨by rw [hsub]; rfl, rfl⟩
      | some x =>
        have hx3 := hsm x hs
        rw [hs] at ih hsub
        obtain ⟨xn, ⟨x1, x2, x3, x4, x5⟩, ⟨y1, y2, y3, y4, y5, y6, y7⟩⟩ := x
        simp only [Stx.subs] at hx3
        have hx3 : x3.length < 1000000000 := by omega
        have hsel := vc_rsel s (.mk y1 y2 y3 y4 y5 y6 y7)
        simp only [tmV, encTm, List.map_cons, List.map_nil, selT] at hsel
        simp only [resR, encSub, encSt, encTm, List.map_cons, List.map_nil, List.cons_append, List.nil_append] at ih
        have hlx : (encSt.subs x3).length = x3.length := by rw [encSubs_map, List.length_map]
        have hwx : IntKind.i64.wrap ((x3.length : Int) - 1) = (x3.length : Int) - 1 := wrap_p (by omega) (by omega)
        refine ⟨?_, ?_⟩
        all_goals
          refine callS [] (ih) rfl rfl rfl ?_
          rintro _ _ ⟨rfl, rfl⟩
          refine ⟨_, _, rfl, ?_⟩
          simp -implicitDefEqProofs only [J1, J2, J3, J4, J8, J9, Ja, Jb, Jc, Je, Jf, Jg, Jh, Ji, Jk, Jm, Jp, Jq, Js, Jv, Jy, JA, JD, JJ, JK, JL, JP, JQ, JS, JV, JW, J13, J14, J1b, Jg, J1h, J1i, J1k, bt81, J1o ti81, J3f ti35, J3f ti61, J3g ti3, J1s ti81, J1p ti29, J1p ti61, J3i ti65 rfl, J3i ti81 rfl, J3j ti35, J1t, J1u, J1v, J1w, J1x, J1y, J1z, J1A, J1B, J1D, J1E, J1J, J1K, J1L, J1M, J1P, J1Q, J1R, J1S, J26, J2r, J2s, J2t, J2u, J2v, J2w, J2y, J2z, J2A, J2C, J2D, J2E, J2F, J2G, J2H, J2I, J2J, J2K, J2L, J2M, J2P, J2Q, J2X, J30, J31, ↓reduceIte, reduceCtorEq, beq_self_eq_true, cond_true, cond_false, true_and, and_true, and_self, J34, J36, J39, eq_self, J3c, J3d, hlx, hwx, hlen, hge, hle, htk, Int.toNat_natCast, true_or, Nat.zero_le]
          refine loopI (α := Nat) (fun m => [(10, .one (.d (.int .i64 ((m : Int) - 1)))), (9, .one (.d (.int .i64 0))), (8, .one (.ptr 2 0)), (6, .one (.d (.str s))), (4, .one (.ptr 1 0)), (2, .one (.ptr 0 0))])
            (fun _ => [.box [.d (.sl (vals.map encVal)), .d (.sl (cons.map encCon)), .d (.sl (typs.map encTym)), .d (.sl (subs.map encSub)), .d (.sl (funs.map encFun)), .d (.sl (sigs.map encSig))], .box zSub, .box [.d (.str xn), .d (.sl (x1.map encTym)), .d (.sl (x2.map encVam)), .d (.sl (encSt.subs x3)), .d (.sl (encSt.funs x4)), .d (.sl (encSt.sigs x5)), .d (.int .i64 y1), .d (.int .i64 y2), .d (.int .i64 y3), .d (.str y4), .d (.sl (txts y5)), .d (.sl (encTt.encs y6)), .d (.sl (encTm.encs y7))]])
            (fun m => m ≤ x3.length ∧ ∀ (j : Nat) (y : ByteArray × Stx), m ≤ j → x3[j]? = some y → y.1 ≠ s) (fun m => m) x3.length
            (keepI [0, 1, 2] _ (WkH.refl _) rfl rfl rfl ⟨⟨_, WkV.refl _, rfl⟩, ⟨_, WkV.refl _, rfl⟩, ⟨_, WkV.refl _, rfl⟩, ⟨_, WkV.refl _, rfl⟩, ⟨_, WkV.refl _, rfl⟩, ⟨_, WkV.refl _, rfl⟩, trivial⟩) ⟨Nat.le_refl _, fun j y hj hy => absurd (List.getElem?_eq_some_iff.1 hy).1 (by omega)⟩ ?_
          rintro m ⟨hm, hmiss⟩
          simp -implicitDefEqProofs only [Jm, Jo, Jp, Jq, Jr, Ju, Jv, Jy, Jz, JA, JB, JC, JD, JE, JI, JJ, JK, JL, JM, JN, JO, JP, JQ, JS, JT, JV, JW, JX, J13, J14, J15, J1i, J1k, J3g ti3, J3g ti43, J1r ti81, J1s ti81, J3h ti61 rfl, J1p ti61, J3i ti65 rfl, J3i ti81 rfl, J1t, J1u, J1v, J1w, J1x, J1y, J1z, J1A, J1B, J1D, J1E, J1F, J1G, J1H, J1O, J1P, J1Q, J1R, J1S, J1W, J2e, J2f, J2k, J2y, J2z, J2A, J2D, J2F, J2G, J2H, J2I, J2J, J2K, J2L, J2P, J2Q, J2X, J2Y, J30, J31, ↓reduceIte, reduceCtorEq, beq_self_eq_true, cond_true, cond_false, and_true, false_and, J34, J36, decide_eq_true_eq, decide_eq_false_iff_not, J39, eq_self, forall_const, false_implies, J3c, J3d, ge_iff_le, zSub]
          refine ⟨fun g => ?_, fun g => ?_⟩
          · obtain ⟨i, rfl⟩ : ∃ i, m = i + 1 := ⟨m - 1, by omega⟩
            have hi : i < x3.length := by omega
            obtain ⟨u, hu⟩ : ∃ u, x3[i]? = some u := ⟨x3[i], List.getElem?_eq_getElem hi⟩
            have hg : (encSt.subs x3)[i]? = some (.str u.1 :: encSt u.2) := by rw [encSubs_map, List.getElem?_map, hu]; rfl
            have hhit := fun h1 => lastOf_hit (nm := (·.1)) (s := s) hu h1 (fun j y hj hy => hmiss j y (by omega) hy)
            obtain ⟨un, ⟨u1, u2, u3, u4, u5⟩⟩ := u
            simp only [encSt] at hg
            have hc : ((i + 1 : Nat) : Int) - 1 = (i : Int) := by omega
            have hwi : IntKind.i64.wrap ((i : Int) - 1) = (i : Int) - 1 := wrap_p (by omega) (by omega)
            simp -implicitDefEqProofs only [J7, Jc, Jd, Je, Jf, Jg, Jh, Ji, Jk, Jm, Jo, Jp, Jq, Jr, Js, Ju, Jv, Jw, Jy, Jz, JD, JG, JJ, JK, JL, JN, JO, JP, JS, JT, JU, JV, JW, J12, J13, J14, J1e, J1g, noescs, Jg, J1i, J1j, J1k, J3g ti3, J3g ti9, J3h ti61 rfl, J1p ti9, J1p ti39, J1p ti61, J1p ti65, J3i ti65 rfl, J3i ti81 rfl, J3i ti140 rfl, J1t, J1u, J1E, J1F, J1N, J1P, J1Q, J1R, J1S, J2y, J2z, J2A, J2C, J2E, J2F, J2G, J2I, J2J, J2K, J2L, J2N, J2O, J2T, J2V, J2X, J2Y, J30, J31, ↓reduceIte, reduceCtorEq, beq_self_eq_true, cond_true, cond_false, true_and, false_and, J34, J36, decide_eq_true_eq, decide_eq_false_iff_not, J39, eq_self, ne_eq, J3c, J3d, J3e, hc, hg, Int.natCast_nonneg, Int.toNat_natCast]
            refine ⟨fun e => ?_, fun e => ?_⟩
            · refine callS [] (hsel) rfl rfl rfl ?_
              rintro _ _ ⟨rfl, rfl⟩
              refine ⟨_, _, rfl, ?_⟩
              simp -implicitDefEqProofs only [J6, J7, J8, J9, Ja, Jb, Jc, Jd, Je, Jf, Jg, Jh, Ji, Jk, Jm, Jp, Jq, JC, JD, JF, JH, JL, JP, JQ, JS, JT, JV, JW, J14, Jg, J1i, J1r ti81, J1s ti81, J3h ti61 rfl, J1p ti61, J1p ti65, J3i ti65 rfl, J3i ti81 rfl, J3i ti140 rfl, J1t, J1u, J1v, J1w, J1x, J1y, J1z, J1A, J1B, J1D, J1E, J1F, J1G, J1H, J1O, J2r, J2s, J2t, J2u, J2v, J2w, J2y, J2z, J2A, J2C, J2D, J2E, J2F, J2G, J2H, J2I, J2J, J2K, J2L, J2M, J2N, J2O, J2P, J2Q, J2X, J2Y, J30, J31, ↓reduceIte, reduceCtorEq, beq_self_eq_true, cond_true, cond_false, true_and, false_and, and_self, J34, J36, J39, eq_self, J3c, J3d, hg, Int.natCast_nonneg, Int.toNat_natCast]
              apply vend_of []; rfl; rfl
              refine ⟨?_, rfl⟩
              rw [hsub]
              simp only [Option.bind_some, farSub, Stx.subs]
              rw [hhit e]
              rfl
            · simp only [hwi]
              refine ⟨i, ⟨by omega, fun j y hj hy => ?_⟩, Nat.lt_succ_self i, (keepI [0, 1, 2] _ (WkH.refl _) rfl rfl rfl ⟨⟨_, WkV.refl _, rfl⟩, ⟨_, WkV.refl _, rfl⟩, ⟨_, WkV.refl _, rfl⟩, ⟨_, WkV.refl _, rfl⟩, ⟨_, WkV.refl _, rfl⟩, ⟨_, WkV.refl _, rfl⟩, trivial⟩)⟩
              by_cases e2 : j = i
              · subst e2
                rw [hu] at hy
                cases hy
                exact e
              · exact hmiss j y (by omega) hy
          · apply vend_of []; rfl; rfl
            refine ⟨?_, rfl⟩
            have : m = 0 := by omega
            subst this
            rw [hsub]
            simp only [Option.bind_some, farSub, Stx.subs]
            rw [lastOf_miss (nm := (·.1)) (l := x3) (s := s) (fun j y hy => hmiss j y (Nat.zero_le _) hy)]
            rfl

end Go.Vt.Tryz
set_option maxRecDepth 100000
set_option linter.unusedSimpArgs false
namespace Go.Vt.Tryz
open Go.Vt renaming opsB_leaf → J1, opsB_no → J2, opsB_ro → J3, opsB_alt → J4, wp_opsB → J5, opsW_nil → J6, opsW_cons → J7, again_nil → J8, again_cons → J9, obOf_nil → Ja, obOf_cons → Jb, wadd → Jc, ro → Jd, ob_some → Jm, vbool_eq → Jo, vif_tt → Jp, vif_ff → Jq, vD_bool → Jr, vD_int → Js, wp_skip → Ju, wp_ops → Jv, wp_opsW → Jw, wp_seq → Jy, wp_cond → Jz, wp_ret → JC, th_normal → JD, th_ret → JF, ops_nil → JJ, ops_cons → JK, go_none → JL, cond_tt → JN, cond_ff → JO, put_some → JP, put_none → JQ, asL → JS, asI → JT, asFn → JU, opd_tmp → JV, opd_int → JW, opd_bool → JX, opd_str → JY, opd_func → J12, so_move → J13, so_assign → J14, so_box → J16, so_extract → J1b, so_call → J1e, esc_func → J1g, bobj_none → J1h, lk_cons → J1i, nilC_int → J1k, so_alloc → J1o, so_len → J1p, so_bin → J1q, so_build → J1r, so_store → J1s, so_load → J1t, so_slice → J1u, so_indexAddr → J1v, vload → J1w, mkV → J1x, vstore → J1y, vcells → J1z, known → J1A, toDs → J1B, toD → J1C, fzLs → J1D, fzL → J1E, splice → J1G, vindexAddr → J1I, vbuild → J1J, vfill → J1K, vlen → J1M, vslice → J1N, vbound → J1O, opdO → J1P, opds → J1Q, opdPairs → J1R, vbin2 → J1S, vbin → J1T, vint → J1U, vstr → J1V, allLen → J29, putBack → J2u, fzIds → J2v, lentVs → J2w, lentV → J2x, lentLs → J2y, lentL → J2z
open List renaming any_cons → Je, any_nil → Jf, contains_cons → Jg, contains_nil → Jh, lookup_nil → J2B, getElem?_cons_zero → J2C, getElem?_cons_succ → J2D, take_succ_cons → J2F, take_zero → J2G, take_nil → J2H, drop_succ_cons → J2I, drop_zero → J2J, drop_nil → J2K, length_cons → J2L, length_nil → J2M, append_nil → J2N, nil_append → J2O, cons_append → J2P, map_cons → J2Q, map_nil → J2R, set_cons_zero → J2S, set_cons_succ → J2T, all_nil → J2W
open Bool renaming or_true → Ji, or_false → Jk, and_true → J2Y, false_eq_true → J3c
open Nat renaming reduceBEq → J30, reduceAdd → J34, zero_add → J3f, le_refl → J3g
open Option renaming map_some → J37, bind_some → J39
open Go.Proofs

def innO (subs : List SubE) : List ByteArray → Option SubE
  | _ :: t :: r => subAt subs (t :: r)
  | _ => none
def innS : List ByteArray → ByteArray
  | s :: _ :: _ => s
  | _ => ⟨#[]⟩
def innR (subs : List SubE) (p : List ByteArray) : V := match innO subs p with
  | some x => .tup [.agg ((encSub x).map .d), .one (.d (.str (innS p))), .one (.d (.bool true))]
  | none => .tup [.agg zSub, .one (.d (.str (innS p))), .one (.d (.bool false))]

set_option maxHeartbeats 4000000 in
theorem vc_rinner (vals : List ValE) (cons : List ConE) (typs : List Tym) (subs : List SubE) (funs : List FunE) (sigs : List SigE) (hl : subs.length < 1000000000) (hB : ∀ x ∈ subs, stn x.2.1 ≤ 999999990) (p : List ByteArray) (hp : p.length < 1000000000) :
    VC Tryz.prog 63 [envV vals cons typs subs funs sigs, .one (.d (.sl (txts p.reverse)))] [] fun r h' => r = innR subs p ∧ h' = [] := by
  have hlen0 : (txts p.reverse).length = p.length := by rw [txts_length, List.length_reverse]
  rcases p with _ | ⟨s, r⟩
  · unfold envV
    refine VC_of_fn mixed fn63 (by simp) ?_
    show vwp Tryz.prog 0 vc63 _ [(0, .agg [.d (.sl (vals.map encVal)), .d (.sl (cons.map encCon)), .d (.sl (typs.map encTym)), .d (.sl (subs.map encSub)), .d (.sl (funs.map encFun)), .d (.sl (sigs.map encSig))]), (1, .one (.d (.sl (txts [].reverse))))] []
    unfold vc63
    rw [vwpI_eq]
    have ht : txts [].reverse = [] := rfl
    have h2 : (((0 : Nat) : Int) < 2) = True := by simp
    simp -implicitDefEqProofs only [J3, J5, Jc, Je, Jf, Jg, Jh, Ji, Jk, Jm, Jo, Jr, Js, Ju, Jv, Jy, Jz, JC, JD, JF, JJ, JK, JL, JN, JO, JP, JQ, JS, JV, JW, JX, JY, J13, J14, J16, Jg, J1h, J1i, J1k, bt29, bt81, J1o ti81, J1p ti35, J1q ti3, J1r ti81, J1s ti81, J1t ti29, J1u ti35, J1w, J1x, J1y, J1z, J1A, J1B, J1C, J1D, J1E, J1G, J1J, J1K, J1M, J1N, J1O, J1P, J1R, J1S, J1T, J1U, J1V, J29, J2B, J2C, J2D, J2F, J2G, J2H, J2I, J2J, J2K, J2L, J2M, J2N, J2O, J2P, J2S, J2T, J2W, J30, J34, ↓reduceIte, reduceCtorEq, beq_self_eq_true, cond_true, cond_false, true_and, and_true, J37, J39, decide_true, eq_self, forall_const, false_implies, J3f, J3g, ht, h2]
    apply vend_of []; rfl; rfl
    exact ⟨rfl, rfl⟩
  · simp only [List.length_cons] at hp
    have ih := vc_rSub vals cons typs subs funs sigs hl hB r (by omega)
    have hlen : (txts (s :: r).reverse).length = r.length + 1 := by rw [txts_length]; simp
    have hcast : ((r.length + 1 : Nat) : Int) - 1 = (r.length : Int) := by omega
    have hw : IntKind.i64.wrap (((r.length + 1 : Nat) : Int) - 1) = (r.length : Int) := by rw [hcast]; exact wrap_p (by omega) (by omega)
    have hge : (0 : Int) ≤ (r.length : Int) := by omega
    have hget : (txts (s :: r).reverse)[r.length]? = some [.str s] := txts_get (by rw [List.reverse_cons, List.getElem?_append_right (by simp)]; simp)
    have htk : (txts (s :: r).reverse).take r.length = txts r.reverse := by
      rw [txts, ← List.map_take, List.reverse_cons, List.take_left' (by simp)]; rfl
    have hle : r.length ≤ r.length + 1 := by omega
    unfold envV at *
    refine VC_of_fn mixed fn63 (by simp) ?_
    show vwp Tryz.prog 0 vc63 _ [(0, .agg [.d (.sl (vals.map encVal)), .d (.sl (cons.map encCon)), .d (.sl (typs.map encTym)), .d (.sl (subs.map encSub)), .d (.sl (funs.map encFun)), .d (.sl (sigs.map encSig))]), (1, .one (.d (.sl (txts (s :: r).reverse))))] []
    unfold vc63
    rw [vwpI_eq]
    simp -implicitDefEqProofs only [J2, J3, J4, J5, J8, J9, Ja, Jb, Jc, Je, Jf, Jg, Jh, Ji, Jk, Jm, Jo, Jp, Jr, Js, Ju, Jv, Jy, Jz, JC, JD, JF, JJ, JK, JL, JN, JO, JP, JQ, JS, JU, JV, JW, JX, JY, J12, J13, J14, J16, J1e, J1g, noescs, Jg, J1h, J1i, J1k, bt29, bt81, J1o ti81, J1p ti35, J1q ti3, J1r ti81, J1s ti81, J1t ti29, J1u ti35, J1w, J1x, J1y, J1z, J1A, J1B, J1C, J1D, J1E, J1G, J1J, J1K, J1M, J1N, J1O, J1P, J1Q, J1R, J1S, J1T, J1U, J1V, J29, J2B, J2C, J2D, J2F, J2G, J2H, J2I, J2J, J2K, J2L, J2M, J2N, J2O, J2P, J2R, J2S, J2T, J2W, J2Y, J30, J34, ↓reduceIte, reduceCtorEq, beq_self_eq_true, cond_true, cond_false, true_and, and_true, and_self, J37, J39, decide_eq_true_eq, decide_eq_false_iff_not, eq_self, J3f, J3g, hlen, hw, hge, hle, htk, Int.toNat_natCast, true_or, Nat.zero_le]
    refine ⟨fun q1 => ?_, fun q1 => ?_⟩
    · obtain rfl : r = [] := List.eq_nil_of_length_eq_zero (by omega)
      apply vend_of []; rfl; rfl
      exact ⟨rfl, rfl⟩
    · have hin : innO subs (s :: r) = subAt subs r := by
        cases r with
        | nil => exact absurd (show (((([] : List ByteArray).length + 1 : Nat) : Int) < 2) by simp) q1
        | cons t r' => rfl
      have his : innS (s :: r) = s := by
        cases r with
        | nil => exact absurd (show (((([] : List ByteArray).length + 1 : Nat) : Int) < 2) by simp) q1
        | cons t r' => rfl
      have hne21 : ((21 : Int) = 0) = False := by simp
      cases hs : subAt subs r with
      | none =>
        rw [hs] at ih hin
        simp only [resR, zSub] at ih
        refine ⟨?_, ?_⟩
        all_goals
          refine callS [] (ih) rfl rfl rfl ?_
          rintro _ _ ⟨rfl, rfl⟩
          refine ⟨_, _, rfl, ?_⟩
          simp -implicitDefEqProofs only [J1, J2, J3, J4, J6, J7, J8, J9, Ja, Jb, Jc, Jd, Je, Jf, Jg, Jh, Ji, Jk, Jm, Jo, Jp, Jq, Jr, Js, Jw, Jy, JC, JD, JL, JP, JQ, JS, JT, JV, JW, J13, J14, J1b, Jg, J1h, J1i, J1k, bt81, J1o ti81, J1p ti35, J1q ti3, J1q ti43, J1s ti81, J1t ti9, J1t ti29, J1t ti81, J1u ti35, J1v ti35 rfl, J1w, J1x, J1y, J1z, J1A, J1B, J1C, J1D, J1E, J1G, J1I, J1M, J1N, J1O, J1P, J1S, J1T, J1U, J1V, J29, J2B, J2C, J2D, J2F, J2G, J2H, J2I, J2J, J2K, J2L, J2M, J2N, J2O, J2P, J2Q, J2R, J2S, J2T, J30, J34, ↓reduceIte, reduceCtorEq, beq_self_eq_true, cond_true, cond_false, true_and, and_true, and_self, J37, J39, beq_iff_eq, beq_eq_false_iff_ne, J3c, eq_self, forall_const, not_false_eq_true, ne_eq, false_implies, J3f, J3g, hne21, hlen, hw, hget, hge, hle, htk, Int.toNat_natCast, true_or, Nat.zero_le]
          apply vend_of []; rfl; rfl
          exact ⟨by unfold innR; rw [hin, his]; rfl, rfl⟩
      | some x =>
        rw [hs] at ih hin
        obtain ⟨xn, ⟨x1, x2, x3, x4, x5⟩, ⟨y1, y2, y3, y4, y5, y6, y7⟩⟩ := x
        simp only [resR, encSub, encSt, encTm, List.map_cons, List.map_nil, List.cons_append, List.nil_append] at ih
        refine ⟨?_, ?_⟩
        all_goals
          refine callS [] (ih) rfl rfl rfl ?_
          rintro _ _ ⟨rfl, rfl⟩
          refine ⟨_, _, rfl, ?_⟩
          simp -implicitDefEqProofs only [J1, J2, J3, J4, J6, J7, J8, J9, Ja, Jb, Jc, Jd, Je, Jf, Jg, Jh, Ji, Jk, Jm, Jo, Jp, Jq, Jr, Js, Jw, Jy, JC, JD, JL, JP, JQ, JS, JT, JV, JW, J13, J14, J1b, Jg, J1h, J1i, J1k, bt81, J1o ti81, J1p ti35, J1q ti3, J1q ti43, J1s ti81, J1t ti9, J1t ti29, J1t ti81, J1u ti35, J1v ti35 rfl, J1w, J1x, J1y, J1z, J1A, J1B, J1C, J1D, J1E, J1G, J1I, J1M, J1N, J1O, J1P, J1S, J1T, J1U, J1V, J29, J2u, J2v, J2w, J2x, J2y, J2z, J2B, J2C, J2D, J2F, J2G, J2H, J2I, J2J, J2K, J2L, J2M, J2N, J2O, J2P, J2Q, J2R, J2S, J2T, J30, J34, ↓reduceIte, reduceCtorEq, beq_self_eq_true, cond_true, cond_false, true_and, and_true, and_self, J37, J39, J3c, eq_self, forall_const, false_implies, J3f, J3g, hlen, hw, hget, hge, hle, htk, Int.toNat_natCast, true_or, Nat.zero_le]
          apply vend_of []; rfl; rfl
          exact ⟨by unfold innR; rw [hin, his]; rfl, rfl⟩

end Go.Vt.Tryz
