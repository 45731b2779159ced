/- How great a structure is: what the counter comes to. -/
import Derived.Test.YtdabfkmhkoppcaaGreatDoorVtEnvC
import Derived.Test.YtdabfkmhkoppcaaGreatDoorVtLA
set_option maxRecDepth 100000
set_option linter.unusedSimpArgs false
namespace Go.Vt.Tryz
open Go.Vt renaming ob_some → Jm, vbool_eq → Jo, vif_tt → Jp, vD_bool → Jr, vD_int → Js, wp_skip → Ju, wp_ops → Jv, wp_seq → Jy, wp_cond → Jz, wp_block → JA, wp_exit → JB, wp_ret → JC, th_normal → JD, th_exit → JE, th_ret → JF, bl_normal → JG, bl_exit → JI, ops_nil → JJ, ops_cons → JK, go_none → JL, cond_tt → JN, cond_ff → JO, put_some → JP, put_none → JQ, asB → JR, asL → JS, asI → JT, asFn → JU, opd_tmp → JV, opd_int → JW, opd_bool → JX, opd_func → J12, so_move → J13, so_assign → J14, so_box → J16, so_nilCheck → J17, so_not → J18, so_call → J1e, esc_func → J1g, bobj_none → J1h, lk_cons → J1i, nilC_tmp → J1j, nilC_int → J1k, so_fieldAddr → J1o, so_load → J1p, so_bin → J1q, so_store → J1r, vload → J1s, mkV → J1t, vstore → J1u, vcells → J1v, known → J1w, toDs → J1x, toD → J1y, fzLs → J1z, fzL → J1A, splice → J1C, vfieldAddr → J1D, vindexAddr → J1E, vlen → J1I, opds → J1M, vbin2 → J1O, vbin → J1P, vint → J1Q, vstr → J1R, visNil → J1S, putBack → J2q, fzIds → J2r, lentVs → J2s, lentV → J2t, lentLs → J2u, lentL → J2v, so_len → J3e, so_indexAddr → J3f, so_alloc → J3g
open List renaming contains_cons → Jg, contains_nil → Jh, lookup_nil → J2x, getElem?_cons_zero → J2y, getElem?_cons_succ → J2z, take_succ_cons → J2B, take_zero → J2C, take_nil → J2D, drop_succ_cons → J2E, drop_zero → J2F, drop_nil → J2G, length_cons → J2H, length_nil → J2I, append_nil → J2J, nil_append → J2K, cons_append → J2L, map_cons → J2M, map_nil → J2N, set_cons_zero → J2O, set_cons_succ → J2P, all_nil → J2S
open Bool renaming or_false → Jk, and_true → J2U, false_eq_true → J38, not_true → J39, not_false → J3a
open Nat renaming reduceBEq → J2W, reduceEqDiff → J2X, reduceLeDiff → J2Z, reduceAdd → J30, zero_add → J3b, le_refl → J3c, add_zero → J3d
open Option renaming map_some → J33, bind_some → J35
open Go.Proofs

/-! ### The counter -/

def cnt (most n : Nat) : Int := ((min n (most + 1) : Nat) : Int)
/-- The counter's box. -/
def cb (most n : Nat) : AObj := .box [.d (.int .i64 (cnt most n)), .d (.int .i64 most)]

theorem cnt_eq {most a b : Nat} (h : most < a) (h2 : a ≤ b) : cnt most a = cnt most b := by unfold cnt; omega

theorem tyn_go : ∀ l : List Ty, tyn.go l = sumN tyn l
  | [] => rfl
  | t :: r => by simp only [tyn.go, sumN, tyn_go r]
def stW (x : Stx) : V := .agg ((encSt x).map .d)
def abW (l : List Int) (x : Stx) : V := .agg ((L.d (.sl (nums l))) :: (encSt x).map .d)
theorem encSubs_s : ∀ l, encSt.subs l = l.map encSm := encSubs_map
def subz (m : ByteArray × Stx) : Nat := 1 + stn m.2
def funz (m : ByteArray × FnE) : Nat := 1 + m.2.1.length + stn m.2.2.1 + m.2.2.2.1.length + stn m.2.2.2.2
def sigz (m : SigE) : Nat := 1 + m.2.1.length + stn m.2.2
theorem goS_sum : ∀ l : List (ByteArray × Stx), stn.goS l = sumN subz l
  | [] => rfl
  | (a, b) :: r => by simp only [stn.goS, sumN, goS_sum r, subz]
theorem goF_sum : ∀ l : List (ByteArray × FnE), stn.goF l = sumN funz l
  | [] => rfl
  | (a, b, c, d, e) :: r => by simp only [stn.goF, sumN, goF_sum r, funz]
theorem goG_sum : ∀ l : List SigE, stn.goG l = sumN sigz l
  | [] => rfl
  | (a, b, c) :: r => by simp only [stn.goG, sumN, goG_sum r, sigz]
theorem encSubs_len (l : List (ByteArray × Stx)) : (encSt.subs l).length = l.length := by rw [encSubs_s, List.length_map]
theorem encFuns_len (l : List (ByteArray × FnE)) : (encSt.funs l).length = l.length := by rw [encFuns_m, List.length_map]
theorem encSigs_len (l : List SigE) : (encSt.sigs l).length = l.length := by rw [encSigs_m, List.length_map]

theorem tymn_e (u : Tym) : tymn u = 1 + tyn u.t + sumN ctn u.cts := rfl
theorem vamn_e (u : Vam) : vamn u = 1 + tyn u.s.t := rfl
theorem subz_e (u : ByteArray × Stx) : subz u = 1 + stn u.2 := rfl
theorem funz_e (u : ByteArray × FnE) : funz u = 1 + u.2.1.length + stn u.2.2.1 + u.2.2.2.1.length + stn u.2.2.2.2 := rfl
theorem sigz_e (u : SigE) : sigz u = 1 + u.2.1.length + stn u.2.2 := rfl
theorem ctn_e (c : Ct) : ctn c = 1 + sumN tyn c.args := by show 1 + tyn.go c.args = _; rw [tyn_go]

theorem sumN_take {α : Type} {f : α → Nat} : ∀ {l : List α} {i : Nat} {a : α}, l[i]? = some a → sumN f (l.take (i + 1)) = sumN f (l.take i) + f a
  | b :: r, 0, a, h => by
      have : b = a := by simpa using h
      subst this
      simp [sumN]
    | b :: r, i + 1, a, h => by
      have := sumN_take (f := f) (l := r) (i := i) (a := a) (by simpa using h)
      simp only [List.take_succ_cons, sumN, this]
      omega
theorem sumN_take_le {α : Type} {f : α → Nat} : ∀ (l : List α) (i : Nat), sumN f (l.take i) ≤ sumN f l
  | [], i => by simp [sumN]
  | b :: r, 0 => by simp [sumN]
  | b :: r, i + 1 => by
      have := sumN_take_le (f := f) r i
      simp only [List.take_succ_cons, sumN]
      omega
theorem sumN_take_all {α : Type} {f : α → Nat} {l : List α} {i : Nat} (h : l.length ≤ i) : sumN f (l.take i) = sumN f l := by rw [List.take_of_length_le h]

theorem vc_add (most n d : Nat) (hm : most < 2000000000000) (hd : d < 2000000000000) : VC Tryz.prog 124 [.one (.ptr 0 0), .one (.d (.int .i64 d))] [cb most n] fun r h' => r = .one (.d (.bool (decide (n + d ≤ most)))) ∧ h' = [cb most (n + d)] := by
  unfold cb
  refine VC_of_fn mixed fn124 (by simp) ?_
  show vwp Tryz.prog 1 vc124 _ [(0, .one (.ptr 0 0)), (1, .one (.d (.int .i64 d)))] [.box [.d (.int .i64 (cnt most n)), .d (.int .i64 most)]]
  unfold vc124
  rw [vwpI_eq]
  have w1 : IntKind.i64.wrap ((most : Int) - cnt most n) = (most : Int) - cnt most n := by unfold cnt; rw [IntKind.wrap_i64]; omega
  by_cases h : n + d ≤ most
  · have hc : ((most : Int) - cnt most n < (d : Int)) = False := by simp; unfold cnt; omega
    have w2 : IntKind.i64.wrap (cnt most n + (d : Int)) = cnt most (n + d) := by unfold cnt; rw [IntKind.wrap_i64]; omega
    simp -implicitDefEqProofs only [Jm, Jo, Jr, Js, Ju, Jv, Jy, Jz, JC, JD, JF, JJ, JK, JL, JN, JO, JP, JQ, JS, JV, JW, JX, J13, J14, J17, J1i, J1j, J1k, J1o ti183 rfl, J1p ti3, J1q ti3, J1r ti3, J1s, J1t, J1u, J1v, J1w, J1x, J1y, J1z, J1A, J1C, J1D, J1O, J1P, J1Q, J1R, J1S, J2x, J2y, J2z, J2C, J2E, J2F, J2H, J2I, J2K, J2L, J2O, J2W, J2Z, J30, ↓reduceIte, reduceCtorEq, beq_self_eq_true, cond_true, cond_false, true_and, J33, J35, decide_false, J38, eq_self, forall_const, false_implies, J3b, J3d, gt_iff_lt, w1, hc, w2]
    apply vend_of [0]; rfl; rfl
    exact ⟨by simp [h], rfl⟩
  · have hc : ((most : Int) - cnt most n < (d : Int)) = True := by simp; unfold cnt; omega
    have w2 : IntKind.i64.wrap ((most : Int) + 1) = cnt most (n + d) := by unfold cnt; rw [IntKind.wrap_i64]; omega
    simp -implicitDefEqProofs only [Jm, Jo, Jr, Js, Ju, Jv, Jy, Jz, JC, JD, JF, JJ, JK, JL, JN, JO, JP, JQ, JS, JV, JW, JX, J13, J14, J17, J1i, J1j, J1k, J1o ti183 rfl, J1p ti3, J1q ti3, J1r ti3, J1s, J1t, J1u, J1v, J1w, J1x, J1y, J1z, J1A, J1C, J1D, J1O, J1P, J1Q, J1R, J1S, J2x, J2y, J2z, J2C, J2E, J2F, J2H, J2I, J2K, J2L, J2O, J2W, J2Z, J30, ↓reduceIte, reduceCtorEq, beq_self_eq_true, cond_true, cond_false, and_true, J33, J35, decide_true, J38, eq_self, forall_const, false_implies, J3b, J3d, gt_iff_lt, w1, hc, w2]
    apply vend_of [0]; rfl; rfl
    exact ⟨by simp [h], rfl⟩

theorem vc_add1 (most n : Nat) (hm : most < 2000000000000) : VC Tryz.prog 124 [.one (.ptr 0 0), .one (.d (.int .i64 1))] [cb most n] fun r h' => r = .one (.d (.bool (decide (n + 1 ≤ most)))) ∧ h' = [cb most (n + 1)] := vc_add most n 1 hm (by omega)

theorem vc_ctyp (most : Nat) (hm : most < 2000000000000) : ∀ (N : Nat) (t : Ty), tyn t ≤ N → N < 1000000000 → ∀ n : Nat, VC Tryz.prog 125 [.one (.ptr 0 0), tyV t] [cb most n] fun r h' => r = .tup [] ∧ h' = [cb most (n + tyn t)]
  | 0, .mk a b l, h, _, n => by simp only [tyn] at h; omega
  | N + 1, .mk a b l, h, hN, n => by
    have ih := vc_ctyp most hm N
    simp only [tyn] at h
    have hlen := sumN_length (f := tyn) (fun t => by cases t; simp [tyn]) l
    rw [tyn_go] at h
    have ha := vc_add1 most n hm
    simp only [cb] at ha ih ⊢
    simp only [tyV, encTy, List.map_cons, List.map_nil]
    refine VC_of_fn mixed fn125 (by simp) ?_
    show vwp Tryz.prog 1 vc125 _ [(0, .one (.ptr 0 0)), (1, .agg [.d (.int .i64 a), .d (.int .i64 b), .d (.sl (encTy.encs l))])] [.box [.d (.int .i64 (cnt most n)), .d (.int .i64 most)]]
    unfold vc125
    rw [vwpI_eq]
    simp -implicitDefEqProofs only [Jg, Jh, Jk, Jm, Jp, Jv, Jy, JD, JJ, JK, JL, JP, JU, JV, JW, J12, J13, J16, J1e, J1g, noescs, Jg, J1h, J1i, bt32, bt32, J1v, J1w, J1M, J2x, J2H, J2I, J2J, J2K, J2L, J2N, J2S, J2U, J2W, ↓reduceIte, beq_self_eq_true, cond_true, cond_false, J33, J35, eq_self, J3b]
    refine callS [0] (ha) rfl rfl rfl ?_
    rintro _ _ ⟨rfl, rfl⟩
    refine ⟨_, _, rfl, ?_⟩
    by_cases hb : n + 1 ≤ most
    · simp -implicitDefEqProofs only [Jm, Jv, Jy, Jz, JA, JD, JJ, JK, JL, JN, JP, JS, JV, JW, J13, J1i, J1o ti32 rfl, J1p ti30, J3e ti30, J1s, J1t, J1D, J1I, J2q, J2r, J2s, J2t, J2v, J2x, J2y, J2z, J2B, J2D, J2E, J2F, J2G, J2H, J2I, J2J, J2O, J2W, J2Z, J30, ↓reduceIte, reduceCtorEq, beq_self_eq_true, cond_true, cond_false, true_and, J33, J35, decide_true, J38, eq_self, J3b, hb, encsTy_length]
      refine loopI (α := Nat) (fun i => [(11, .one (.d (.int .i64 i))), (10, .one (.d (.int .i64 l.length))), (9, .one (.d (.sl (encTy.encs l)))), (0, .one (.ptr 0 0))]) (fun i => [.box [.d (.int .i64 (cnt most (n + 1 + sumN tyn (l.take i)))), .d (.int .i64 most)]])
        (fun i => i ≤ l.length) (fun i => l.length - i) 0
        (keepI [0] _ (WkH.refl _) rfl rfl rfl ⟨⟨_, WkV.refl _, rfl⟩, ⟨_, WkV.refl _, rfl⟩, ⟨_, WkV.refl _, rfl⟩, ⟨_, WkV.refl _, rfl⟩, trivial⟩) (Nat.zero_le _) ?_
      intro i hi
      have hw : IntKind.i64.wrap ((i : Int) + 1) = ((i + 1 : Nat) : Int) := wrap_nat (by omega)
      rcases Nat.lt_or_ge i l.length with h5 | h5
      · have hc : ((i : Int) < (l.length : Int)) = True := by simp; omega
        obtain ⟨t, ht⟩ : ∃ t, l[i]? = some t := ⟨l[i], List.getElem?_eq_getElem h5⟩
        have hmt := sumN_mem (f := tyn) (List.mem_of_getElem? ht)
        have iu := ih t (by omega) (by omega) (n + 1 + sumN tyn (l.take i))
        have hgt : (encTy.encs l)[i]? = some (encTy t) := by rw [encsTy, List.getElem?_map, ht]; rfl
        have hs := sumN_take (f := tyn) ht
        obtain ⟨tk, tn, tc⟩ := t
        simp only [tyV, encTy, List.map_cons, List.map_nil] at iu hgt
        simp -implicitDefEqProofs only [Jg, Jh, Jk, Jm, Jo, Jp, Jr, Ju, Jv, Jy, Jz, JA, JB, JD, JE, JI, JJ, JK, JL, JN, JO, JP, JQ, JS, JT, JU, JV, J12, J13, J1e, J1g, noescs, Jg, J1h, J1i, J1j, bt32, J1p ti32, J1q ti3, J3f ti30 rfl, bt32, J3g ti32, J1r ti32, J1s, J1t, J1u, J1v, J1w, J1x, J1y, J1z, J1A, J1C, J1E, J1M, J1O, J1P, J1Q, J1R, J2x, J2y, J2z, J2B, J2C, J2D, J2E, J2F, J2G, J2H, J2I, J2J, J2K, J2L, J2M, J2N, J2O, J2P, J2S, J2U, J2W, J2X, J30, ↓reduceIte, reduceCtorEq, beq_self_eq_true, cond_true, cond_false, true_and, and_true, false_and, J33, J35, decide_true, eq_self, forall_const, false_implies, J3b, J3c, hc, hgt, Int.natCast_nonneg, Int.toNat_natCast]
        refine callS [0] (iu) rfl rfl rfl ?_
        rintro _ _ ⟨rfl, rfl⟩
        refine ⟨_, _, rfl, ?_⟩
        simp -implicitDefEqProofs only [Jm, Js, Jv, JD, JG, JJ, JK, JL, JP, JV, JW, J13, J1i, J1k, J1q ti3, J1O, J1P, J1Q, J1R, J2q, J2r, J2s, J2t, J2u, J2v, J2x, J2B, J2D, J2E, J2G, J2H, J2I, J2J, J2O, J2W, ↓reduceIte, beq_self_eq_true, cond_true, cond_false, J33, J35, eq_self, J3b, hw]
        refine ⟨i + 1, by omega, by omega, ?_⟩
        have e : n + 1 + sumN tyn (l.take i) + tyn (.mk tk tn tc) = n + 1 + sumN tyn (l.take (i + 1)) := by rw [hs]; omega
        rw [e]
        exact (keepI [0] _ (WkH.refl _) rfl rfl rfl ⟨⟨_, WkV.refl _, rfl⟩, ⟨_, WkV.refl _, rfl⟩, ⟨_, WkV.refl _, rfl⟩, ⟨_, WkV.refl _, rfl⟩, trivial⟩)
      · have hc : ((i : Int) < (l.length : Int)) = False := by simp; omega
        simp -implicitDefEqProofs only [Jm, Jo, Jp, Jr, Ju, Jv, Jy, Jz, JA, JB, JD, JE, JI, JJ, JK, JL, JN, JO, JP, JS, JT, JV, J1i, J1j, J1q ti3, J3f ti30 rfl, J1E, J1O, J1P, J1Q, J1R, J2x, J2H, J2I, J2W, J2X, ↓reduceIte, beq_self_eq_true, cond_true, cond_false, true_and, false_and, J35, decide_false, J38, eq_self, forall_const, false_implies, J3b, hc]
        have e : n + 1 + sumN tyn (l.take i) = n + tyn (.mk a b l) := by rw [sumN_take_all h5]; simp only [tyn, tyn_go]; omega
        rw [e]
        apply vend_of [0]; rfl; rfl
        exact ⟨rfl, rfl⟩
    · simp -implicitDefEqProofs only [Ju, Jz, JD, JJ, JO, JP, JV, J1i, J2q, J2r, J2s, J2t, J2v, J2x, J2B, J2D, J2E, J2G, J2H, J2I, J2J, J2O, J2W, beq_self_eq_true, cond_true, cond_false, decide_false, J3b, hb]
      have e : cnt most (n + 1) = cnt most (n + tyn (.mk a b l)) := cnt_eq (by omega) (by simp only [tyn]; omega)
      rw [e]
      apply vend_of [0]; rfl; rfl
      exact ⟨rfl, rfl⟩

/-- A structure's size is counted. -/
def CntS (most : Nat) (s : Stx) : Prop := ∀ n : Nat, VC Tryz.prog 81 [.one (.ptr 0 0), stW s] [cb most n] fun r h' => r = .tup [] ∧ h' = [cb most (n + stn s)]

theorem vc_cabs {most : Nat} (hm : most < 2000000000000) {s : Stx} (H : CntS most s) (l : List Int) (hl : l.length < 1000000000) (n : Nat) : VC Tryz.prog 82 [.one (.ptr 0 0), abW l s] [cb most n] fun r h' => r = .tup [] ∧ h' = [cb most (n + (l.length + stn s))] := by
  have ha := vc_add most n l.length hm (by omega)
  have hs := H (n + l.length)
  obtain ⟨s1, s2, s3, s4, s5⟩ := s
  simp only [cb] at ha hs ⊢
  simp only [stW, abW, encSt, List.map_cons, List.map_nil] at hs ⊢
  refine VC_of_fn mixed fn82 (by simp) ?_
  show vwp Tryz.prog 1 vc82 _ [(0, .one (.ptr 0 0)), (1, .agg [.d (.sl (nums l)), .d (.sl (s1.map encTym)), .d (.sl (s2.map encVam)), .d (.sl (encSt.subs s3)), .d (.sl (encSt.funs s4)), .d (.sl (encSt.sigs s5))])] [.box [.d (.int .i64 (cnt most n)), .d (.int .i64 most)]]
  unfold vc82
  rw [vwpI_eq]
  simp -implicitDefEqProofs only [Jg, Jh, Jk, Jm, Jp, Jv, Jy, JD, JJ, JK, JL, JP, JS, JU, JV, J12, J13, J16, J1e, J1g, noescs, Jg, J1h, J1i, bt87, J1o ti87 rfl, J1p ti85, J3e ti85, J1s, J1t, J1v, J1w, J1D, J1I, J1M, J2x, J2y, J2z, J2F, J2H, J2I, J2J, J2K, J2L, J2N, J2S, J2U, J2W, J2Z, J30, ↓reduceIte, reduceCtorEq, beq_self_eq_true, cond_true, cond_false, true_and, J33, J35, J38, eq_self, J3b, J3d, nums_length]
  refine callS [0] (ha) rfl rfl rfl ?_
  rintro _ _ ⟨rfl, rfl⟩
  refine ⟨_, _, rfl, ?_⟩
  by_cases hb : n + l.length ≤ most
  · simp -implicitDefEqProofs only [Jg, Jh, Jk, Jm, Jp, Jv, Jz, JD, JJ, JK, JL, JN, JP, JS, JU, JV, J12, J13, J1e, J1g, noescs, Jg, J1i, J1o ti87 rfl, J1p ti65, J1s, J1t, J1D, J1M, J2q, J2r, J2s, J2t, J2v, J2x, J2y, J2z, J2B, J2D, J2E, J2F, J2G, J2H, J2I, J2J, J2K, J2N, J2O, J2S, J2U, J2W, J2Z, J30, ↓reduceIte, reduceCtorEq, beq_self_eq_true, cond_true, cond_false, J33, J35, decide_true, eq_self, J3b, J3c, hb]
    refine callS [0] (hs) rfl rfl rfl ?_
    rintro _ _ ⟨rfl, rfl⟩
    refine ⟨_, _, rfl, ?_⟩
    simp -implicitDefEqProofs only [JJ, JP, J2q, J2r, J2s, J2t, J2u, J2v, J2B, J2D, J2E, J2G, J2H, J2I, J2J, J2O, J3b]
    apply vend_of [0]; rfl; rfl
    exact ⟨rfl, by rw [Nat.add_assoc]⟩
  · simp -implicitDefEqProofs only [Ju, Jz, JD, JJ, JO, JP, JV, J1i, J2q, J2r, J2s, J2t, J2v, J2x, J2B, J2D, J2E, J2G, J2H, J2I, J2J, J2O, J2W, beq_self_eq_true, cond_true, cond_false, decide_false, J3b, hb]
    rw [cnt_eq (a := n + l.length) (b := n + (l.length + stn (.mk s1 s2 s3 s4 s5))) (by omega) (by omega)]
    apply vend_of [0]; rfl; rfl
    exact ⟨rfl, rfl⟩

set_option maxHeartbeats 2000000 in
theorem vc_cstr (most : Nat) (hm : most < 2000000000000) : ∀ (N : Nat) (s : Stx), stn s ≤ N → N < 1000000000 → CntS most s
  | 0, .mk s1 s2 s3 s4 s5, h, _ => by simp only [stn] at h; omega
  | N + 1, .mk s1 s2 s3 s4 s5, h, hN => by
    intro n
    have ih := vc_cstr most hm N
    simp only [stn] at h
    have g1 := goS_sum s3
    have g2 := goF_sum s4
    have g3 := goG_sum s5
    have hl1 := sumN_length (f := tymn) (fun t => by unfold tymn; omega) s1
    have hl2 := sumN_length (f := vamn) (fun t => by unfold vamn; omega) s2
    have hl3 := goS_length s3
    have hl4 := goF_length s4
    have hl5 := goG_length s5
    have hA := fun n => vc_add1 most n hm
    have hT := fun t ht => vc_ctyp most hm 999999999 t ht (by omega)
    have ha := hA n
    simp only [stW, encSt, List.map_cons, List.map_nil]
    simp only [cb] at hA hT ha ⊢
    refine VC_of_fn mixed fn81 (by simp) ?_
    show vwp Tryz.prog 1 vc81 _ [(0, .one (.ptr 0 0)), (1, .agg [.d (.sl (s1.map encTym)), .d (.sl (s2.map encVam)), .d (.sl (encSt.subs s3)), .d (.sl (encSt.funs s4)), .d (.sl (encSt.sigs s5))])] [.box [.d (.int .i64 (cnt most n)), .d (.int .i64 most)]]
    unfold vc81
    rw [vwpI_eq]
    simp -implicitDefEqProofs only [Jg, Jh, Jk, Jm, Jp, Jv, Jy, JD, JJ, JK, JL, JP, JU, JV, JW, J12, J13, J16, J1e, J1g, noescs, Jg, J1h, J1i, bt65, J1v, J1w, J1M, J2x, J2H, J2I, J2J, J2K, J2L, J2N, J2S, J2U, J2W, ↓reduceIte, beq_self_eq_true, cond_true, cond_false, J33, J35, eq_self, J3b]
    refine callS [0] (ha) rfl rfl rfl ?_
    rintro _ _ ⟨rfl, rfl⟩
    refine ⟨_, _, rfl, ?_⟩
    by_cases hb : n + 1 ≤ most
    case neg =>
      simp -implicitDefEqProofs only [Jm, Jz, JC, JD, JF, JJ, JK, JL, JN, JP, JR, JV, J18, J1i, J2q, J2r, J2s, J2t, J2v, J2x, J2B, J2D, J2E, J2G, J2H, J2I, J2J, J2O, J2W, beq_self_eq_true, cond_true, cond_false, J33, decide_false, J3a, J3b, hb]
      rw [cnt_eq (a := n + 1) (b := n + stn (.mk s1 s2 s3 s4 s5)) (by omega) (by simp only [stn]; omega)]
      apply vend_of [0]; rfl; rfl
      exact ⟨rfl, rfl⟩
    simp -implicitDefEqProofs only [Jm, Ju, Jv, Jy, Jz, JA, JD, JJ, JK, JL, JO, JP, JR, JS, JV, JW, J13, J18, J1i, J1o ti65 rfl, J1p ti59, J3e ti59, J1s, J1t, J1D, J1I, J2q, J2r, J2s, J2t, J2v, J2x, J2y, J2z, J2B, J2D, J2E, J2F, J2G, J2H, J2I, J2J, J2O, J2W, J2Z, J30, ↓reduceIte, reduceCtorEq, beq_self_eq_true, cond_true, cond_false, true_and, J33, J35, decide_true, J38, eq_self, J39, J3b, J3d, hb, List.length_map]
    refine loopI (α := Nat) (fun i => [(24, .one (.d (.int .i64 i))), (23, .one (.d (.int .i64 s1.length))), (22, .one (.d (.sl (s1.map encTym)))), (0, .one (.ptr 0 0)), (3, .one (.ptr 1 0))]) (fun i => [.box [.d (.int .i64 (cnt most (n + 1 + sumN tymn (s1.take i)))), .d (.int .i64 most)], .box [.d (.sl (s1.map encTym)), .d (.sl (s2.map encVam)), .d (.sl (encSt.subs s3)), .d (.sl (encSt.funs s4)), .d (.sl (encSt.sigs s5))]])
      (fun i => i ≤ s1.length) (fun i => s1.length - i) 0
      (keepI [0, 1] _ (WkH.refl _) rfl rfl rfl ⟨⟨_, WkV.refl _, rfl⟩, ⟨_, WkV.refl _, rfl⟩, ⟨_, WkV.refl _, rfl⟩, ⟨_, WkV.refl _, rfl⟩, ⟨_, WkV.refl _, rfl⟩, trivial⟩) (Nat.zero_le _) ?_
    intro i hi
    have hw : IntKind.i64.wrap ((i : Int) + 1) = ((i + 1 : Nat) : Int) := wrap_nat (by omega)
    rcases Nat.lt_or_ge i s1.length with h5 | h5
    case inl =>
      have hc : ((i : Int) < (s1.length : Int)) = True := by simp; omega
      obtain ⟨u, hu⟩ : ∃ u, s1[i]? = some u := ⟨s1[i], List.getElem?_eq_getElem h5⟩
      have hs := sumN_take (f := tymn) hu
      have hmu := sumN_mem (f := tymn) (List.mem_of_getElem? hu)
      generalize hX : n + 1 + sumN tymn (s1.take i) = X
      have hgu : (s1.map encTym)[i]? = some (encTym u) := by rw [List.getElem?_map, hu]; rfl
      have t1 := hT u.t (by have := tymn_e u; omega) (X + 1)
      obtain ⟨un, ⟨tk, tn, tc⟩, uc⟩ := u
      have a1 := hA X
      simp only [encTym, tyV, encTy, List.cons_append, List.nil_append, List.map_cons, List.map_nil] at hgu t1
      simp -implicitDefEqProofs only [Jg, Jh, Jk, Jm, Jo, Jp, Jr, Ju, Jv, Jy, Jz, JA, JB, JD, JE, JI, JJ, JK, JL, JN, JO, JP, JQ, JS, JT, JU, JV, JW, J12, J13, J1e, J1g, noescs, Jg, J1h, J1i, J1j, J1o ti65 rfl, J1p ti60, J1p ti133, J3e ti60, J1q ti3, J3f ti59 rfl, bt133, J3g ti133, J1r ti133, J1s, J1t, J1u, J1v, J1w, J1x, J1y, J1z, J1A, J1C, J1D, J1E, J1I, J1M, J1O, J1P, J1Q, J1R, J2x, J2y, J2z, J2B, J2C, J2D, J2E, J2F, J2G, J2H, J2I, J2J, J2K, J2L, J2M, J2N, J2O, J2P, J2S, J2U, J2W, J2X, J2Z, J30, ↓reduceIte, reduceCtorEq, beq_self_eq_true, cond_true, cond_false, true_and, and_true, false_and, J33, J35, decide_true, J38, eq_self, forall_const, false_implies, J3b, J3c, hc, hgu, Int.natCast_nonneg, Int.toNat_natCast]
      refine callS [0] (a1) rfl rfl rfl ?_
      rintro _ _ ⟨rfl, rfl⟩
      refine ⟨_, _, rfl, ?_⟩
      simp -implicitDefEqProofs only [Jg, Jh, Jk, Jm, Jp, Jv, Jy, JD, JJ, JK, JL, JP, JS, JU, JV, J12, J13, J1e, J1g, noescs, Jg, J1i, J1o ti133 rfl, J1p ti32, J1s, J1t, J1D, J1M, J2q, J2r, J2s, J2t, J2v, J2x, J2y, J2z, J2B, J2C, J2D, J2E, J2F, J2G, J2H, J2I, J2J, J2K, J2N, J2O, J2S, J2U, J2W, J2Z, J30, ↓reduceIte, reduceCtorEq, beq_self_eq_true, cond_true, cond_false, J33, J35, eq_self, J3b]
      refine callS [0] (t1) rfl rfl rfl ?_
      rintro _ _ ⟨rfl, rfl⟩
      refine ⟨_, _, rfl, ?_⟩
      simp -implicitDefEqProofs only [Jm, Jv, Jy, JA, JD, JJ, JK, JL, JP, JS, JV, JW, J13, J1i, J1o ti133 rfl, J1p ti70, J3e ti70, J1s, J1t, J1D, J1I, J2q, J2r, J2s, J2t, J2u, J2v, J2x, J2y, J2z, J2B, J2D, J2E, J2F, J2G, J2H, J2I, J2J, J2O, J2W, J2Z, J30, ↓reduceIte, reduceCtorEq, beq_self_eq_true, cond_true, cond_false, true_and, J33, J35, J38, eq_self, J3b, List.length_map]
      generalize hY : X + 1 + tyn (.mk tk tn tc) = Y
      have hme := tymn_e ⟨un, .mk tk tn tc, uc⟩
      simp only at hme
      have hlc := sumN_length (f := ctn) (fun c => by simp [ctn]) uc
      refine loopI (α := Nat) (fun k => [(37, .one (.d (.int .i64 k))), (36, .one (.d (.int .i64 uc.length))), (35, .one (.d (.sl (uc.map encCt)))), (24, .one (.d (.int .i64 i))), (23, .one (.d (.int .i64 s1.length))), (22, .one (.d (.sl (s1.map encTym)))), (0, .one (.ptr 0 0)), (3, .one (.ptr 1 0))]) (fun k => [.box [.d (.int .i64 (cnt most (Y + sumN ctn (uc.take k)))), .d (.int .i64 most)], .box [.d (.sl (s1.map encTym)), .d (.sl (s2.map encVam)), .d (.sl (encSt.subs s3)), .d (.sl (encSt.funs s4)), .d (.sl (encSt.sigs s5))]])
        (fun k => k ≤ uc.length) (fun k => uc.length - k) 0
        (keepI [0, 1] _ (WkH.refl _) rfl rfl rfl ⟨⟨_, WkV.refl _, rfl⟩, ⟨_, WkV.refl _, rfl⟩, ⟨_, WkV.refl _, rfl⟩, ⟨_, WkV.refl _, rfl⟩, ⟨_, WkV.refl _, rfl⟩, ⟨_, WkV.refl _, rfl⟩, ⟨_, WkV.refl _, rfl⟩, ⟨_, WkV.refl _, rfl⟩, trivial⟩) (Nat.zero_le _) ?_
      intro k hk
      have hwk : IntKind.i64.wrap ((k : Int) + 1) = ((k + 1 : Nat) : Int) := wrap_nat (by omega)
      rcases Nat.lt_or_ge k uc.length with h6 | h6
      case inl =>
        have hck : ((k : Int) < (uc.length : Int)) = True := by simp; omega
        obtain ⟨c, hcc⟩ : ∃ c, uc[k]? = some c := ⟨uc[k], List.getElem?_eq_getElem h6⟩
        have hsc := sumN_take (f := ctn) hcc
        have hmc := sumN_mem (f := ctn) (List.mem_of_getElem? hcc)
        have hgc : (uc.map encCt)[k]? = some (encCt c) := by rw [List.getElem?_map, hcc]; rfl
        generalize hZ : Y + sumN ctn (uc.take k) = Z
        have a2 := hA Z
        obtain ⟨cn, ca⟩ := c
        simp only [encCt] at hgc
        have hce := ctn_e ⟨cn, ca⟩
        simp only at hce
        have hla := sumN_length (f := tyn) (fun t => by cases t; simp [tyn]) ca
        simp -implicitDefEqProofs only [Jg, Jh, Jk, Jm, Jo, Jp, Jr, Js, Ju, Jv, Jy, Jz, JA, JB, JD, JE, JG, JI, JJ, JK, JL, JN, JO, JP, JQ, JS, JT, JU, JV, JW, J12, J13, J1e, J1g, noescs, Jg, J1h, J1i, J1j, J1k, J1p ti156, J1q ti3, J3f ti70 rfl, bt156, J3g ti156, J1r ti156, J1s, J1t, J1u, J1v, J1w, J1x, J1y, J1z, J1A, J1C, J1E, J1M, J1O, J1P, J1Q, J1R, J2x, J2y, J2z, J2B, J2C, J2D, J2E, J2G, J2H, J2I, J2J, J2K, J2L, J2M, J2N, J2O, J2P, J2S, J2U, J2W, J2X, J30, ↓reduceIte, reduceCtorEq, beq_self_eq_true, cond_true, cond_false, true_and, and_true, false_and, J33, J35, decide_true, eq_self, forall_const, false_implies, J3b, J3c, hck, hgc, Int.natCast_nonneg, Int.toNat_natCast]
        refine callS [0] (a2) rfl rfl rfl ?_
        rintro _ _ ⟨rfl, rfl⟩
        refine ⟨_, _, rfl, ?_⟩
        simp -implicitDefEqProofs only [Jm, Jv, Jy, JA, JD, JJ, JK, JL, JP, JS, JV, JW, J13, J1i, J1o ti156 rfl, J1p ti30, J3e ti30, J1s, J1t, J1D, J1I, J2q, J2r, J2s, J2t, J2v, J2x, J2y, J2z, J2B, J2D, J2E, J2F, J2G, J2H, J2I, J2J, J2O, J2W, J2Z, J30, ↓reduceIte, reduceCtorEq, beq_self_eq_true, cond_true, cond_false, true_and, J33, J35, J38, eq_self, J3b, encsTy_length]
        refine loopI (α := Nat) (fun q => [(46, .one (.d (.int .i64 q))), (45, .one (.d (.int .i64 ca.length))), (44, .one (.d (.sl (encTy.encs ca)))), (37, .one (.d (.int .i64 k))), (36, .one (.d (.int .i64 uc.length))), (35, .one (.d (.sl (uc.map encCt)))), (24, .one (.d (.int .i64 i))), (23, .one (.d (.int .i64 s1.length))), (22, .one (.d (.sl (s1.map encTym)))), (0, .one (.ptr 0 0)), (3, .one (.ptr 1 0))]) (fun q => [.box [.d (.int .i64 (cnt most (Z + 1 + sumN tyn (ca.take q)))), .d (.int .i64 most)], .box [.d (.sl (s1.map encTym)), .d (.sl (s2.map encVam)), .d (.sl (encSt.subs s3)), .d (.sl (encSt.funs s4)), .d (.sl (encSt.sigs s5))]])
          (fun q => q ≤ ca.length) (fun q => ca.length - q) 0
          (keepI [0, 1] _ (WkH.refl _) rfl rfl rfl ⟨⟨_, WkV.refl _, rfl⟩, ⟨_, WkV.refl _, rfl⟩, ⟨_, WkV.refl _, rfl⟩, ⟨_, WkV.refl _, rfl⟩, ⟨_, WkV.refl _, rfl⟩, ⟨_, WkV.refl _, rfl⟩, ⟨_, WkV.refl _, rfl⟩, ⟨_, WkV.refl _, rfl⟩, ⟨_, WkV.refl _, rfl⟩, ⟨_, WkV.refl _, rfl⟩, ⟨_, WkV.refl _, rfl⟩, trivial⟩) (Nat.zero_le _) ?_
        intro q hq
        have hwq : IntKind.i64.wrap ((q : Int) + 1) = ((q + 1 : Nat) : Int) := wrap_nat (by omega)
        rcases Nat.lt_or_ge q ca.length with h7 | h7
        case inl =>
          have hcq : ((q : Int) < (ca.length : Int)) = True := by simp; omega
          obtain ⟨t, ht⟩ : ∃ t, ca[q]? = some t := ⟨ca[q], List.getElem?_eq_getElem h7⟩
          have hst := sumN_take (f := tyn) ht
          have hmt := sumN_mem (f := tyn) (List.mem_of_getElem? ht)
          have hgt : (encTy.encs ca)[q]? = some (encTy t) := by rw [encsTy, List.getElem?_map, ht]; rfl
          have t2 := hT t (by omega) (Z + 1 + sumN tyn (ca.take q))
          have e3 : Z + 1 + sumN tyn (ca.take q) + tyn t = Z + 1 + sumN tyn (ca.take (q + 1)) := by rw [hst]; omega
          rw [e3] at t2
          obtain ⟨tk2, tn2, tc2⟩ := t
          simp only [tyV, encTy, List.map_cons, List.map_nil] at hgt t2
          simp -implicitDefEqProofs only [Jg, Jh, Jk, Jm, Jo, Jp, Jr, Js, Ju, Jv, Jy, Jz, JA, JB, JD, JE, JG, JI, JJ, JK, JL, JN, JO, JP, JQ, JS, JT, JU, JV, JW, J12, J13, J1e, J1g, noescs, Jg, J1h, J1i, J1j, J1k, J1p ti32, J1q ti3, J3f ti30 rfl, bt32, J3g ti32, J1r ti32, J1s, J1t, J1u, J1v, J1w, J1x, J1y, J1z, J1A, J1C, J1E, J1M, J1O, J1P, J1Q, J1R, J2x, J2y, J2z, J2B, J2C, J2D, J2E, J2F, J2G, J2H, J2I, J2J, J2K, J2L, J2M, J2N, J2O, J2P, J2S, J2U, J2W, J2X, J30, ↓reduceIte, reduceCtorEq, beq_self_eq_true, cond_true, cond_false, true_and, and_true, false_and, J33, J35, decide_true, eq_self, forall_const, false_implies, J3b, J3c, hcq, hgt, Int.natCast_nonneg, Int.toNat_natCast]
          refine callS [0] (t2) rfl rfl rfl ?_
          rintro _ _ ⟨rfl, rfl⟩
          refine ⟨_, _, rfl, ?_⟩
          simp -implicitDefEqProofs only [Jm, Js, Jv, JD, JG, JJ, JK, JL, JP, JV, JW, J13, J1i, J1k, J1q ti3, J1O, J1P, J1Q, J1R, J2q, J2r, J2s, J2t, J2u, J2v, J2x, J2B, J2D, J2E, J2G, J2H, J2I, J2J, J2O, J2W, ↓reduceIte, beq_self_eq_true, cond_true, cond_false, J33, J35, eq_self, J3b, hwq]
          refine ⟨q + 1, by omega, by omega, ?_⟩
          exact (keepI [0, 1] _ (WkH.refl _) rfl rfl rfl ⟨⟨_, WkV.refl _, rfl⟩, ⟨_, WkV.refl _, rfl⟩, ⟨_, WkV.refl _, rfl⟩, ⟨_, WkV.refl _, rfl⟩, ⟨_, WkV.refl _, rfl⟩, ⟨_, WkV.refl _, rfl⟩, ⟨_, WkV.refl _, rfl⟩, ⟨_, WkV.refl _, rfl⟩, ⟨_, WkV.refl _, rfl⟩, ⟨_, WkV.refl _, rfl⟩, ⟨_, WkV.refl _, rfl⟩, trivial⟩)
        have hcq : ((q : Int) < (ca.length : Int)) = False := by simp; omega
        have e3 : Z + 1 + sumN tyn (ca.take q) = Y + sumN ctn (uc.take (k + 1)) := by rw [sumN_take_all h7, hsc, ← hZ]; omega
        rw [e3]
        simp -implicitDefEqProofs only [Jm, Jo, Jp, Jr, Js, Ju, Jv, Jy, Jz, JA, JB, JD, JE, JG, JI, JJ, JK, JL, JN, JO, JP, JS, JT, JV, JW, J13, J1i, J1j, J1k, J1q ti3, J3f ti30 rfl, J1E, J1O, J1P, J1Q, J1R, J2x, J2W, J2X, ↓reduceIte, beq_self_eq_true, cond_true, cond_false, true_and, false_and, J33, J35, decide_false, J38, eq_self, forall_const, false_implies, hcq, hwk]
        refine ⟨k + 1, by omega, by omega, ?_⟩
        exact (keepI [0, 1] _ (WkH.refl _) rfl rfl rfl ⟨⟨_, WkV.refl _, rfl⟩, ⟨_, WkV.refl _, rfl⟩, ⟨_, WkV.refl _, rfl⟩, ⟨_, WkV.refl _, rfl⟩, ⟨_, WkV.refl _, rfl⟩, ⟨_, WkV.refl _, rfl⟩, ⟨_, WkV.refl _, rfl⟩, ⟨_, WkV.refl _, rfl⟩, trivial⟩)
      have hck : ((k : Int) < (uc.length : Int)) = False := by simp; omega
      have e4 : Y + sumN ctn (uc.take k) = X + tymn ⟨un, .mk tk tn tc, uc⟩ := by rw [sumN_take_all h6, ← hY]; omega
      rw [e4]
      simp -implicitDefEqProofs only [Jm, Jo, Jp, Jr, Js, Ju, Jv, Jy, Jz, JA, JB, JD, JE, JG, JI, JJ, JK, JL, JN, JO, JP, JS, JT, JV, JW, J13, J1i, J1j, J1k, J1q ti3, J3f ti70 rfl, J1E, J1O, J1P, J1Q, J1R, J2x, J2W, J2X, ↓reduceIte, beq_self_eq_true, cond_true, cond_false, true_and, false_and, J33, J35, decide_false, J38, eq_self, forall_const, false_implies, hck, hw]
      refine ⟨i + 1, by omega, by omega, ?_⟩
      rw [show n + 1 + sumN tymn (s1.take (i + 1)) = X + tymn ⟨un, .mk tk tn tc, uc⟩ from by rw [hs]; omega]
      exact (keepI [0, 1] _ (WkH.refl _) rfl rfl rfl ⟨⟨_, WkV.refl _, rfl⟩, ⟨_, WkV.refl _, rfl⟩, ⟨_, WkV.refl _, rfl⟩, ⟨_, WkV.refl _, rfl⟩, ⟨_, WkV.refl _, rfl⟩, trivial⟩)
    have hc : ((i : Int) < (s1.length : Int)) = False := by simp; omega
    have e : n + 1 + sumN tymn (s1.take i) = n + 1 + sumN tymn s1 := by rw [sumN_take_all h5]
    rw [e]
    clear hw h5 e hi
    simp -implicitDefEqProofs only [Jm, Jo, Jp, Jr, Ju, Jv, Jy, Jz, JA, JB, JD, JE, JI, JJ, JK, JL, JN, JO, JP, JS, JT, JV, JW, J13, J1i, J1j, J1o ti65 rfl, J1p ti60, J3e ti60, J1q ti3, J3f ti59 rfl, J1s, J1t, J1D, J1E, J1I, J1O, J1P, J1Q, J1R, J2x, J2y, J2z, J2E, J2F, J2H, J2I, J2W, J2X, J2Z, J30, ↓reduceIte, reduceCtorEq, beq_self_eq_true, cond_true, cond_false, true_and, false_and, J33, J35, decide_false, J38, eq_self, forall_const, false_implies, J3b, hc, List.length_map]
    clear hc
    refine loopI (α := Nat) (fun i => [(59, .one (.d (.int .i64 i))), (58, .one (.d (.int .i64 s2.length))), (57, .one (.d (.sl (s2.map encVam)))), (0, .one (.ptr 0 0)), (3, .one (.ptr 1 0))]) (fun i => [.box [.d (.int .i64 (cnt most (n + 1 + sumN tymn s1 + sumN vamn (s2.take i)))), .d (.int .i64 most)], .box [.d (.sl (s1.map encTym)), .d (.sl (s2.map encVam)), .d (.sl (encSt.subs s3)), .d (.sl (encSt.funs s4)), .d (.sl (encSt.sigs s5))]])
      (fun i => i ≤ s2.length) (fun i => s2.length - i) 0
      (keepI [0, 1] _ (WkH.refl _) rfl rfl rfl ⟨⟨_, WkV.refl _, rfl⟩, ⟨_, WkV.refl _, rfl⟩, ⟨_, WkV.refl _, rfl⟩, ⟨_, WkV.refl _, rfl⟩, ⟨_, WkV.refl _, rfl⟩, trivial⟩) (Nat.zero_le _) ?_
    intro i hi
    have hw : IntKind.i64.wrap ((i : Int) + 1) = ((i + 1 : Nat) : Int) := wrap_nat (by omega)
    rcases Nat.lt_or_ge i s2.length with h5 | h5
    case inl =>
      have hc : ((i : Int) < (s2.length : Int)) = True := by simp; omega
      obtain ⟨u, hu⟩ : ∃ u, s2[i]? = some u := ⟨s2[i], List.getElem?_eq_getElem h5⟩
      have hs := sumN_take (f := vamn) hu
      have hmu := sumN_mem (f := vamn) (List.mem_of_getElem? hu)
      generalize hX : n + 1 + sumN tymn s1 + sumN vamn (s2.take i) = X
      have hgu : (s2.map encVam)[i]? = some (encVam u) := by rw [List.getElem?_map, hu]; rfl
      have t1 := hT u.s.t (by have := vamn_e u; omega) (X + 1)
      have e1 : X + 1 + tyn u.s.t = X + vamn u := by unfold vamn; omega
      rw [e1] at t1
      obtain ⟨un, ug, ⟨tk, tn, tc⟩⟩ := u
      have a1 := hA X
      simp only [encVam, encSc, tyV, encTy, List.map_cons, List.map_nil] at hgu t1
      simp -implicitDefEqProofs only [Jg, Jh, Jk, Jm, Jo, Jp, Jr, Ju, Jv, Jy, Jz, JA, JB, JD, JE, JI, JJ, JK, JL, JN, JO, JP, JQ, JS, JT, JU, JV, JW, J12, J13, J1e, J1g, noescs, Jg, J1h, J1i, J1j, J1o ti65 rfl, J1p ti61, J1p ti126, J3e ti61, J1q ti3, J3f ti60 rfl, bt126, J3g ti126, J1r ti126, J1s, J1t, J1u, J1v, J1w, J1x, J1y, J1z, J1A, J1C, J1D, J1E, J1I, J1M, J1O, J1P, J1Q, J1R, J2x, J2y, J2z, J2B, J2C, J2D, J2E, J2F, J2G, J2H, J2I, J2J, J2K, J2L, J2M, J2N, J2O, J2P, J2S, J2U, J2W, J2X, J2Z, J30, ↓reduceIte, reduceCtorEq, beq_self_eq_true, cond_true, cond_false, true_and, and_true, false_and, J33, J35, decide_true, J38, eq_self, forall_const, false_implies, J3b, J3c, hc, hgu, Int.natCast_nonneg, Int.toNat_natCast]
      refine callS [0] (a1) rfl rfl rfl ?_
      rintro _ _ ⟨rfl, rfl⟩
      refine ⟨_, _, rfl, ?_⟩
      simp -implicitDefEqProofs only [Jg, Jh, Jk, Jm, Jp, Jv, JD, JJ, JK, JL, JP, JS, JU, JV, J12, J13, J1e, J1g, noescs, Jg, J1i, J1o ti34 rfl, J1o ti126 rfl, J1p ti32, J1s, J1t, J1D, J1M, J2q, J2r, J2s, J2t, J2v, J2x, J2y, J2z, J2B, J2D, J2E, J2F, J2G, J2H, J2I, J2J, J2K, J2N, J2O, J2S, J2U, J2W, J2Z, J30, ↓reduceIte, reduceCtorEq, beq_self_eq_true, cond_true, cond_false, J33, J35, eq_self, J3b, J3c]
      refine callS [0] (t1) rfl rfl rfl ?_
      rintro _ _ ⟨rfl, rfl⟩
      refine ⟨_, _, rfl, ?_⟩
      simp -implicitDefEqProofs only [Jm, Js, Jv, JD, JG, JJ, JK, JL, JP, JV, JW, J13, J1i, J1k, J1q ti3, J1O, J1P, J1Q, J1R, J2q, J2r, J2s, J2t, J2u, J2v, J2x, J2B, J2D, J2E, J2G, J2H, J2I, J2J, J2O, J2W, ↓reduceIte, beq_self_eq_true, cond_true, cond_false, J33, J35, eq_self, J3b, hw]
      refine ⟨i + 1, by omega, by omega, ?_⟩
      rw [show n + 1 + sumN tymn s1 + sumN vamn (s2.take (i + 1)) = X + vamn ⟨un, ⟨ug, .mk tk tn tc⟩⟩ from by rw [hs]; omega]
      exact (keepI [0, 1] _ (WkH.refl _) rfl rfl rfl ⟨⟨_, WkV.refl _, rfl⟩, ⟨_, WkV.refl _, rfl⟩, ⟨_, WkV.refl _, rfl⟩, ⟨_, WkV.refl _, rfl⟩, ⟨_, WkV.refl _, rfl⟩, trivial⟩)
    have hc : ((i : Int) < (s2.length : Int)) = False := by simp; omega
    have e : n + 1 + sumN tymn s1 + sumN vamn (s2.take i) = n + 1 + sumN tymn s1 + sumN vamn s2 := by rw [sumN_take_all h5]
    rw [e]
    clear hw h5 e hi
    simp -implicitDefEqProofs only [Jm, Jo, Jp, Jr, Ju, Jv, Jy, Jz, JA, JB, JD, JE, JI, JJ, JK, JL, JN, JO, JP, JS, JT, JV, JW, J13, J1i, J1j, J1o ti65 rfl, J1p ti61, J3e ti61, J1q ti3, J3f ti60 rfl, J1s, J1t, J1D, J1E, J1I, J1O, J1P, J1Q, J1R, J2x, J2y, J2z, J2E, J2F, J2H, J2I, J2W, J2X, J2Z, J30, ↓reduceIte, reduceCtorEq, beq_self_eq_true, cond_true, cond_false, true_and, false_and, J33, J35, decide_false, J38, eq_self, forall_const, false_implies, J3b, hc, encSubs_len]
    clear hc
    refine loopI (α := Nat) (fun i => [(74, .one (.d (.int .i64 i))), (73, .one (.d (.int .i64 s3.length))), (72, .one (.d (.sl (encSt.subs s3)))), (0, .one (.ptr 0 0)), (3, .one (.ptr 1 0))]) (fun i => [.box [.d (.int .i64 (cnt most (n + 1 + sumN tymn s1 + sumN vamn s2 + sumN subz (s3.take i)))), .d (.int .i64 most)], .box [.d (.sl (s1.map encTym)), .d (.sl (s2.map encVam)), .d (.sl (encSt.subs s3)), .d (.sl (encSt.funs s4)), .d (.sl (encSt.sigs s5))]])
      (fun i => i ≤ s3.length) (fun i => s3.length - i) 0
      (keepI [0, 1] _ (WkH.refl _) rfl rfl rfl ⟨⟨_, WkV.refl _, rfl⟩, ⟨_, WkV.refl _, rfl⟩, ⟨_, WkV.refl _, rfl⟩, ⟨_, WkV.refl _, rfl⟩, ⟨_, WkV.refl _, rfl⟩, trivial⟩) (Nat.zero_le _) ?_
    intro i hi
    have hw : IntKind.i64.wrap ((i : Int) + 1) = ((i + 1 : Nat) : Int) := wrap_nat (by omega)
    rcases Nat.lt_or_ge i s3.length with h5 | h5
    case inl =>
      have hc : ((i : Int) < (s3.length : Int)) = True := by simp; omega
      obtain ⟨u, hu⟩ : ∃ u, s3[i]? = some u := ⟨s3[i], List.getElem?_eq_getElem h5⟩
      have hs := sumN_take (f := subz) hu
      have hmu := sumN_mem (f := subz) (List.mem_of_getElem? hu)
      generalize hX : n + 1 + sumN tymn s1 + sumN vamn s2 + sumN subz (s3.take i) = X
      have hgu : (encSt.subs s3)[i]? = some (encSm u) := by rw [encSubs_s, List.getElem?_map, hu]; rfl
      have t1 := ih u.2 (by have := subz_e u; omega) (by omega) (X + 1)
      simp only [cb] at t1
      have a1 := hA X
      have e1 : X + 1 + stn u.2 = X + subz u := by unfold subz; omega
      rw [e1] at t1
      obtain ⟨un, ⟨m1, m2, m3, m4, m5⟩⟩ := u
      simp only [encSm, encSt, stW, List.map_cons, List.map_nil] at hgu t1
      simp -implicitDefEqProofs only [Jg, Jh, Jk, Jm, Jo, Jp, Jr, Ju, Jv, Jy, Jz, JA, JB, JD, JE, JI, JJ, JK, JL, JN, JO, JP, JQ, JS, JT, JU, JV, JW, J12, J13, J1e, J1g, noescs, Jg, J1h, J1i, J1j, J1o ti65 rfl, J1p ti62, J1p ti140, J3e ti62, J1q ti3, J3f ti61 rfl, bt140, J3g ti140, J1r ti140, J1s, J1t, J1u, J1v, J1w, J1x, J1y, J1z, J1A, J1C, J1D, J1E, J1I, J1M, J1O, J1P, J1Q, J1R, J2x, J2y, J2z, J2B, J2C, J2D, J2E, J2F, J2G, J2H, J2I, J2J, J2K, J2L, J2M, J2N, J2O, J2P, J2S, J2U, J2W, J2X, J2Z, J30, ↓reduceIte, reduceCtorEq, beq_self_eq_true, cond_true, cond_false, true_and, and_true, false_and, J33, J35, decide_true, J38, eq_self, forall_const, false_implies, J3b, J3c, hc, hgu, Int.natCast_nonneg, Int.toNat_natCast]
      refine callS [0] (a1) rfl rfl rfl ?_
      rintro _ _ ⟨rfl, rfl⟩
      refine ⟨_, _, rfl, ?_⟩
      by_cases hb2 : X + 1 ≤ most
      case neg =>
        simp -implicitDefEqProofs only [Jm, Js, Ju, Jv, Jz, JD, JG, JJ, JK, JL, JO, JP, JV, JW, J13, J1i, J1k, J1q ti3, J1O, J1P, J1Q, J1R, J2q, J2r, J2s, J2t, J2v, J2x, J2B, J2D, J2E, J2G, J2H, J2I, J2J, J2O, J2W, ↓reduceIte, beq_self_eq_true, cond_true, cond_false, J33, J35, decide_false, eq_self, J3b, hb2, hw]
        refine ⟨i + 1, by omega, by omega, ?_⟩
        rw [cnt_eq (a := X + 1) (b := X + subz (un, .mk m1 m2 m3 m4 m5)) (by omega) (by unfold subz; omega)]
        rw [show n + 1 + sumN tymn s1 + sumN vamn s2 + sumN subz (s3.take (i + 1)) = X + subz (un, .mk m1 m2 m3 m4 m5) from by rw [hs]; omega]
        exact (keepI [0, 1] _ (WkH.refl _) rfl rfl rfl ⟨⟨_, WkV.refl _, rfl⟩, ⟨_, WkV.refl _, rfl⟩, ⟨_, WkV.refl _, rfl⟩, ⟨_, WkV.refl _, rfl⟩, ⟨_, WkV.refl _, rfl⟩, trivial⟩)
      simp -implicitDefEqProofs only [Jg, Jh, Jk, Jm, Jp, Jv, Jz, JD, JJ, JK, JL, JN, JP, JS, JU, JV, J12, J13, J1e, J1g, noescs, Jg, J1i, J1o ti140 rfl, J1p ti65, J1s, J1t, J1D, J1M, J2q, J2r, J2s, J2t, J2v, J2x, J2y, J2z, J2B, J2D, J2E, J2F, J2G, J2H, J2I, J2J, J2K, J2N, J2O, J2S, J2U, J2W, J2Z, J30, ↓reduceIte, reduceCtorEq, beq_self_eq_true, cond_true, cond_false, J33, J35, decide_true, eq_self, J3b, J3c, hb2]
      refine callS [0] (t1) rfl rfl rfl ?_
      rintro _ _ ⟨rfl, rfl⟩
      refine ⟨_, _, rfl, ?_⟩
      simp -implicitDefEqProofs only [Jm, Js, Jv, JD, JG, JJ, JK, JL, JP, JV, JW, J13, J1i, J1k, J1q ti3, J1O, J1P, J1Q, J1R, J2q, J2r, J2s, J2t, J2u, J2v, J2x, J2B, J2D, J2E, J2G, J2H, J2I, J2J, J2O, J2W, ↓reduceIte, beq_self_eq_true, cond_true, cond_false, J33, J35, eq_self, J3b, hw]
      refine ⟨i + 1, by omega, by omega, ?_⟩
      rw [show n + 1 + sumN tymn s1 + sumN vamn s2 + sumN subz (s3.take (i + 1)) = X + subz (un, .mk m1 m2 m3 m4 m5) from by rw [hs]; omega]
      exact (keepI [0, 1] _ (WkH.refl _) rfl rfl rfl ⟨⟨_, WkV.refl _, rfl⟩, ⟨_, WkV.refl _, rfl⟩, ⟨_, WkV.refl _, rfl⟩, ⟨_, WkV.refl _, rfl⟩, ⟨_, WkV.refl _, rfl⟩, trivial⟩)
    have hc : ((i : Int) < (s3.length : Int)) = False := by simp; omega
    have e : n + 1 + sumN tymn s1 + sumN vamn s2 + sumN subz (s3.take i) = n + 1 + sumN tymn s1 + sumN vamn s2 + stn.goS s3 := by rw [sumN_take_all h5]; omega
    rw [e]
    clear hw h5 e hi
    simp -implicitDefEqProofs only [Jm, Jo, Jp, Jr, Ju, Jv, Jy, Jz, JA, JB, JD, JE, JI, JJ, JK, JL, JN, JO, JP, JS, JT, JV, JW, J13, J1i, J1j, J1o ti65 rfl, J1p ti62, J3e ti62, J1q ti3, J3f ti61 rfl, J1s, J1t, J1D, J1E, J1I, J1O, J1P, J1Q, J1R, J2x, J2y, J2z, J2E, J2F, J2H, J2I, J2W, J2X, J2Z, J30, ↓reduceIte, reduceCtorEq, beq_self_eq_true, cond_true, cond_false, true_and, false_and, J33, J35, decide_false, J38, eq_self, forall_const, false_implies, J3b, hc, encFuns_len]
    clear hc
    refine loopI (α := Nat) (fun i => [(88, .one (.d (.int .i64 i))), (87, .one (.d (.int .i64 s4.length))), (86, .one (.d (.sl (encSt.funs s4)))), (0, .one (.ptr 0 0)), (3, .one (.ptr 1 0))]) (fun i => [.box [.d (.int .i64 (cnt most (n + 1 + sumN tymn s1 + sumN vamn s2 + stn.goS s3 + sumN funz (s4.take i)))), .d (.int .i64 most)], .box [.d (.sl (s1.map encTym)), .d (.sl (s2.map encVam)), .d (.sl (encSt.subs s3)), .d (.sl (encSt.funs s4)), .d (.sl (encSt.sigs s5))]])
      (fun i => i ≤ s4.length) (fun i => s4.length - i) 0
      (keepI [0, 1] _ (WkH.refl _) rfl rfl rfl ⟨⟨_, WkV.refl _, rfl⟩, ⟨_, WkV.refl _, rfl⟩, ⟨_, WkV.refl _, rfl⟩, ⟨_, WkV.refl _, rfl⟩, ⟨_, WkV.refl _, rfl⟩, trivial⟩) (Nat.zero_le _) ?_
    intro i hi
    have hw : IntKind.i64.wrap ((i : Int) + 1) = ((i + 1 : Nat) : Int) := wrap_nat (by omega)
    rcases Nat.lt_or_ge i s4.length with h5 | h5
    case inl =>
      have hc : ((i : Int) < (s4.length : Int)) = True := by simp; omega
      obtain ⟨u, hu⟩ : ∃ u, s4[i]? = some u := ⟨s4[i], List.getElem?_eq_getElem h5⟩
      have hs := sumN_take (f := funz) hu
      have hmu := sumN_mem (f := funz) (List.mem_of_getElem? hu)
      generalize hX : n + 1 + sumN tymn s1 + sumN vamn s2 + stn.goS s3 + sumN funz (s4.take i) = X
      have hgu : (encSt.funs s4)[i]? = some (encFm u) := by rw [encFuns_m, List.getElem?_map, hu]; rfl
      have a1 := vc_add most X (1 + u.2.1.length) hm (by have := funz_e u; omega)
      have t1 := ih u.2.2.1 (by have := funz_e u; omega) (by omega) (X + (1 + u.2.1.length))
      have t2 := vc_cabs hm (ih u.2.2.2.2 (by have := funz_e u; omega) (by omega)) u.2.2.2.1 (by have := funz_e u; omega) (X + (1 + u.2.1.length) + stn u.2.2.1)
      have e1 : X + (1 + u.2.1.length) + stn u.2.2.1 + (u.2.2.2.1.length + stn u.2.2.2.2) = X + funz u := by unfold funz; omega
      rw [e1] at t2
      have hwl : IntKind.i64.wrap (1 + ((u.2.1.length : Nat) : Int)) = ((1 + u.2.1.length : Nat) : Int) := by have := funz_e u; rw [IntKind.wrap_i64]; omega
      simp only [cb] at a1 t1 t2
      obtain ⟨un, ul, ⟨m1, m2, m3, m4, m5⟩, vl, ⟨v1, v2, v3, v4, v5⟩⟩ := u
      simp only [encFm, encFn, encSt, stW, abW, List.cons_append, List.nil_append, List.map_cons, List.map_nil] at hgu t1 t2 a1 hwl
      simp -implicitDefEqProofs only [Jg, Jh, Jk, Jm, Jo, Jp, Jr, Js, Ju, Jv, Jy, Jz, JA, JB, JD, JE, JI, JJ, JK, JL, JN, JO, JP, JQ, JS, JT, JU, JV, JW, J12, J13, J1e, J1g, noescs, Jg, J1h, J1i, J1j, J1o ti65 rfl, J1o ti89 rfl, J1o ti161 rfl, J1p ti63, J1p ti85, J1p ti161, J3e ti63, J3e ti85, J1q ti3, J3f ti62 rfl, bt161, J3g ti161, J1r ti161, J1s, J1t, J1u, J1v, J1w, J1x, J1y, J1z, J1A, J1C, J1D, J1E, J1I, J1M, J1O, J1P, J1Q, J1R, J2x, J2y, J2z, J2B, J2C, J2D, J2E, J2F, J2G, J2H, J2I, J2J, J2K, J2L, J2M, J2N, J2O, J2P, J2S, J2U, J2W, J2X, J2Z, J30, ↓reduceIte, reduceCtorEq, beq_self_eq_true, cond_true, cond_false, true_and, and_true, false_and, J33, J35, decide_true, J38, eq_self, forall_const, false_implies, J3b, J3c, J3d, hc, hgu, Int.natCast_nonneg, Int.toNat_natCast, nums_length, hwl]
      refine callS [0] (a1) rfl rfl rfl ?_
      rintro _ _ ⟨rfl, rfl⟩
      refine ⟨_, _, rfl, ?_⟩
      by_cases hb2 : X + (1 + ul.length) ≤ most
      case neg =>
        simp -implicitDefEqProofs only [Jm, Js, Ju, Jv, Jz, JD, JG, JJ, JK, JL, JO, JP, JV, JW, J13, J1i, J1k, J1q ti3, J1O, J1P, J1Q, J1R, J2q, J2r, J2s, J2t, J2v, J2x, J2B, J2D, J2E, J2G, J2H, J2I, J2J, J2O, J2W, ↓reduceIte, beq_self_eq_true, cond_true, cond_false, J33, J35, decide_false, eq_self, J3b, hb2, hw]
        refine ⟨i + 1, by omega, by omega, ?_⟩
        rw [cnt_eq (a := X + (1 + ul.length)) (b := X + funz (un, ul, .mk m1 m2 m3 m4 m5, vl, .mk v1 v2 v3 v4 v5)) (by omega) (by unfold funz; simp only; omega)]
        rw [show n + 1 + sumN tymn s1 + sumN vamn s2 + stn.goS s3 + sumN funz (s4.take (i + 1)) = X + funz (un, ul, .mk m1 m2 m3 m4 m5, vl, .mk v1 v2 v3 v4 v5) from by rw [hs]; omega]
        exact (keepI [0, 1] _ (WkH.refl _) rfl rfl rfl ⟨⟨_, WkV.refl _, rfl⟩, ⟨_, WkV.refl _, rfl⟩, ⟨_, WkV.refl _, rfl⟩, ⟨_, WkV.refl _, rfl⟩, ⟨_, WkV.refl _, rfl⟩, trivial⟩)
      simp -implicitDefEqProofs only [Jg, Jh, Jk, Jm, Jp, Jv, Jy, Jz, JD, JJ, JK, JL, JN, JP, JS, JU, JV, J12, J13, J1e, J1g, noescs, Jg, J1i, J1o ti89 rfl, J1o ti161 rfl, J1p ti65, J1s, J1t, J1D, J1M, J2q, J2r, J2s, J2t, J2v, J2x, J2y, J2z, J2B, J2C, J2D, J2E, J2F, J2G, J2H, J2I, J2J, J2K, J2N, J2O, J2S, J2U, J2W, J2Z, J30, ↓reduceIte, reduceCtorEq, beq_self_eq_true, cond_true, cond_false, J33, J35, decide_true, eq_self, J3b, hb2]
      refine callS [0] (t1) rfl rfl rfl ?_
      rintro _ _ ⟨rfl, rfl⟩
      refine ⟨_, _, rfl, ?_⟩
      simp -implicitDefEqProofs only [Jg, Jh, Jk, Jm, Jp, Jv, JD, JJ, JK, JL, JP, JS, JU, JV, J12, J13, J1e, J1g, noescs, Jg, J1i, J1o ti89 rfl, J1o ti161 rfl, J1p ti87, J1s, J1t, J1D, J1M, J2q, J2r, J2s, J2t, J2u, J2v, J2x, J2y, J2z, J2B, J2D, J2E, J2F, J2G, J2H, J2I, J2J, J2K, J2N, J2O, J2S, J2U, J2W, J2Z, J30, ↓reduceIte, reduceCtorEq, beq_self_eq_true, cond_true, cond_false, J33, J35, eq_self, J3b, J3c]
      refine callS [0] (t2) rfl rfl rfl ?_
      rintro _ _ ⟨rfl, rfl⟩
      refine ⟨_, _, rfl, ?_⟩
      simp -implicitDefEqProofs only [Jm, Js, Jv, JD, JG, JJ, JK, JL, JP, JV, JW, J13, J1i, J1k, J1q ti3, J1O, J1P, J1Q, J1R, J2q, J2r, J2s, J2t, J2u, J2v, J2x, J2B, J2D, J2E, J2G, J2H, J2I, J2J, J2O, J2W, ↓reduceIte, beq_self_eq_true, cond_true, cond_false, J33, J35, eq_self, J3b, hw]
      refine ⟨i + 1, by omega, by omega, ?_⟩
      rw [show n + 1 + sumN tymn s1 + sumN vamn s2 + stn.goS s3 + sumN funz (s4.take (i + 1)) = X + funz (un, ul, .mk m1 m2 m3 m4 m5, vl, .mk v1 v2 v3 v4 v5) from by rw [hs]; omega]
      exact (keepI [0, 1] _ (WkH.refl _) rfl rfl rfl ⟨⟨_, WkV.refl _, rfl⟩, ⟨_, WkV.refl _, rfl⟩, ⟨_, WkV.refl _, rfl⟩, ⟨_, WkV.refl _, rfl⟩, ⟨_, WkV.refl _, rfl⟩, trivial⟩)
    have hc : ((i : Int) < (s4.length : Int)) = False := by simp; omega
    have e : n + 1 + sumN tymn s1 + sumN vamn s2 + stn.goS s3 + sumN funz (s4.take i) = n + 1 + sumN tymn s1 + sumN vamn s2 + stn.goS s3 + stn.goF s4 := by rw [sumN_take_all h5]; omega
    rw [e]
    clear hw h5 e hi
    simp -implicitDefEqProofs only [Jm, Jo, Jp, Jr, Ju, Jv, Jy, Jz, JA, JB, JD, JE, JI, JJ, JK, JL, JN, JO, JP, JS, JT, JV, JW, J13, J1i, J1j, J1o ti65 rfl, J1p ti63, J3e ti63, J1q ti3, J3f ti62 rfl, J1s, J1t, J1D, J1E, J1I, J1O, J1P, J1Q, J1R, J2x, J2y, J2z, J2E, J2F, J2H, J2I, J2W, J2X, J2Z, J30, ↓reduceIte, reduceCtorEq, beq_self_eq_true, cond_true, cond_false, true_and, false_and, J33, J35, decide_false, J38, eq_self, forall_const, false_implies, J3b, hc, encSigs_len]
    clear hc
    refine loopI (α := Nat) (fun i => [(113, .one (.d (.int .i64 i))), (112, .one (.d (.int .i64 s5.length))), (111, .one (.d (.sl (encSt.sigs s5)))), (0, .one (.ptr 0 0)), (3, .one (.ptr 1 0))]) (fun i => [.box [.d (.int .i64 (cnt most (n + 1 + sumN tymn s1 + sumN vamn s2 + stn.goS s3 + stn.goF s4 + sumN sigz (s5.take i)))), .d (.int .i64 most)], .box [.d (.sl (s1.map encTym)), .d (.sl (s2.map encVam)), .d (.sl (encSt.subs s3)), .d (.sl (encSt.funs s4)), .d (.sl (encSt.sigs s5))]])
      (fun i => i ≤ s5.length) (fun i => s5.length - i) 0
      (keepI [0, 1] _ (WkH.refl _) rfl rfl rfl ⟨⟨_, WkV.refl _, rfl⟩, ⟨_, WkV.refl _, rfl⟩, ⟨_, WkV.refl _, rfl⟩, ⟨_, WkV.refl _, rfl⟩, ⟨_, WkV.refl _, rfl⟩, trivial⟩) (Nat.zero_le _) ?_
    intro i hi
    have hw : IntKind.i64.wrap ((i : Int) + 1) = ((i + 1 : Nat) : Int) := wrap_nat (by omega)
    rcases Nat.lt_or_ge i s5.length with h5 | h5
    case inl =>
      have hc : ((i : Int) < (s5.length : Int)) = True := by simp; omega
      obtain ⟨u, hu⟩ : ∃ u, s5[i]? = some u := ⟨s5[i], List.getElem?_eq_getElem h5⟩
      have hs := sumN_take (f := sigz) hu
      have hmu := sumN_mem (f := sigz) (List.mem_of_getElem? hu)
      generalize hX : n + 1 + sumN tymn s1 + sumN vamn s2 + stn.goS s3 + stn.goF s4 + sumN sigz (s5.take i) = X
      have hgu : (encSt.sigs s5)[i]? = some (encSig u) := by rw [encSigs_m, List.getElem?_map, hu]; rfl
      have a1 := hA X
      have t1 := vc_cabs hm (ih u.2.2 (by have := sigz_e u; omega) (by omega)) u.2.1 (by have := sigz_e u; omega) (X + 1)
      have e1 : X + 1 + (u.2.1.length + stn u.2.2) = X + sigz u := by unfold sigz; omega
      rw [e1] at t1
      simp only [cb] at t1
      obtain ⟨un, ul, ⟨m1, m2, m3, m4, m5⟩⟩ := u
      simp only [encSig, encSt, abW, List.map_cons, List.map_nil] at hgu t1
      simp -implicitDefEqProofs only [Jg, Jh, Jk, Jm, Jo, Jp, Jr, Ju, Jv, Jy, Jz, JA, JB, JD, JE, JI, JJ, JK, JL, JN, JO, JP, JQ, JS, JT, JU, JV, JW, J12, J13, J1e, J1g, noescs, Jg, J1h, J1i, J1j, J1p ti162, J1q ti3, J3f ti63 rfl, bt162, J3g ti162, J1r ti162, J1s, J1t, J1u, J1v, J1w, J1x, J1y, J1z, J1A, J1C, J1E, J1M, J1O, J1P, J1Q, J1R, J2x, J2y, J2z, J2B, J2C, J2D, J2E, J2G, J2H, J2I, J2J, J2K, J2L, J2M, J2N, J2O, J2P, J2S, J2U, J2W, J2X, J30, ↓reduceIte, reduceCtorEq, beq_self_eq_true, cond_true, cond_false, true_and, and_true, false_and, J33, J35, decide_true, eq_self, forall_const, false_implies, J3b, J3c, hc, hgu, Int.natCast_nonneg, Int.toNat_natCast]
      refine callS [0] (a1) rfl rfl rfl ?_
      rintro _ _ ⟨rfl, rfl⟩
      refine ⟨_, _, rfl, ?_⟩
      by_cases hb2 : X + 1 ≤ most
      case neg =>
        simp -implicitDefEqProofs only [Jm, Js, Ju, Jv, Jz, JD, JG, JJ, JK, JL, JO, JP, JV, JW, J13, J1i, J1k, J1q ti3, J1O, J1P, J1Q, J1R, J2q, J2r, J2s, J2t, J2v, J2x, J2B, J2D, J2E, J2G, J2H, J2I, J2J, J2O, J2W, ↓reduceIte, beq_self_eq_true, cond_true, cond_false, J33, J35, decide_false, eq_self, J3b, hb2, hw]
        refine ⟨i + 1, by omega, by omega, ?_⟩
        rw [cnt_eq (a := X + 1) (b := X + sigz (un, ul, .mk m1 m2 m3 m4 m5)) (by omega) (by unfold sigz; simp only; omega)]
        rw [show n + 1 + sumN tymn s1 + sumN vamn s2 + stn.goS s3 + stn.goF s4 + sumN sigz (s5.take (i + 1)) = X + sigz (un, ul, .mk m1 m2 m3 m4 m5) from by rw [hs]; omega]
        exact (keepI [0, 1] _ (WkH.refl _) rfl rfl rfl ⟨⟨_, WkV.refl _, rfl⟩, ⟨_, WkV.refl _, rfl⟩, ⟨_, WkV.refl _, rfl⟩, ⟨_, WkV.refl _, rfl⟩, ⟨_, WkV.refl _, rfl⟩, trivial⟩)
      simp -implicitDefEqProofs only [Jg, Jh, Jk, Jm, Jp, Jv, Jz, JD, JJ, JK, JL, JN, JP, JS, JU, JV, J12, J13, J1e, J1g, noescs, Jg, J1i, J1o ti162 rfl, J1p ti87, J1s, J1t, J1D, J1M, J2q, J2r, J2s, J2t, J2v, J2x, J2y, J2z, J2B, J2D, J2E, J2F, J2G, J2H, J2I, J2J, J2K, J2N, J2O, J2S, J2U, J2W, J2Z, J30, ↓reduceIte, reduceCtorEq, beq_self_eq_true, cond_true, cond_false, J33, J35, decide_true, eq_self, J3b, J3c, hb2]
      refine callS [0] (t1) rfl rfl rfl ?_
      rintro _ _ ⟨rfl, rfl⟩
      refine ⟨_, _, rfl, ?_⟩
      simp -implicitDefEqProofs only [Jm, Js, Jv, JD, JG, JJ, JK, JL, JP, JV, JW, J13, J1i, J1k, J1q ti3, J1O, J1P, J1Q, J1R, J2q, J2r, J2s, J2t, J2u, J2v, J2x, J2B, J2D, J2E, J2G, J2H, J2I, J2J, J2O, J2W, ↓reduceIte, beq_self_eq_true, cond_true, cond_false, J33, J35, eq_self, J3b, hw]
      refine ⟨i + 1, by omega, by omega, ?_⟩
      rw [show n + 1 + sumN tymn s1 + sumN vamn s2 + stn.goS s3 + stn.goF s4 + sumN sigz (s5.take (i + 1)) = X + sigz (un, ul, .mk m1 m2 m3 m4 m5) from by rw [hs]; omega]
      exact (keepI [0, 1] _ (WkH.refl _) rfl rfl rfl ⟨⟨_, WkV.refl _, rfl⟩, ⟨_, WkV.refl _, rfl⟩, ⟨_, WkV.refl _, rfl⟩, ⟨_, WkV.refl _, rfl⟩, ⟨_, WkV.refl _, rfl⟩, trivial⟩)
    have hc : ((i : Int) < (s5.length : Int)) = False := by simp; omega
    have e : n + 1 + sumN tymn s1 + sumN vamn s2 + stn.goS s3 + stn.goF s4 + sumN sigz (s5.take i) = n + 1 + sumN tymn s1 + sumN vamn s2 + stn.goS s3 + stn.goF s4 + stn.goG s5 := by rw [sumN_take_all h5]; omega
    rw [e]
    clear hw h5 e hi
    simp -implicitDefEqProofs only [Jm, Jo, Jp, Jr, Ju, Jv, Jy, Jz, JA, JB, JD, JE, JI, JJ, JK, JL, JN, JO, JP, JS, JT, JV, J1i, J1j, J1q ti3, J3f ti63 rfl, J1E, J1O, J1P, J1Q, J1R, J2x, J2H, J2I, J2W, J2X, ↓reduceIte, beq_self_eq_true, cond_true, cond_false, true_and, false_and, J35, decide_false, J38, eq_self, forall_const, false_implies, J3b, hc]
    clear hc
    rw [show n + 1 + sumN tymn s1 + sumN vamn s2 + stn.goS s3 + stn.goF s4 + stn.goG s5 = n + stn (.mk s1 s2 s3 s4 s5) from by simp only [stn]; omega]
    apply vend_of [0]; rfl; rfl
    exact ⟨rfl, rfl⟩

end Go.Vt.Tryz
