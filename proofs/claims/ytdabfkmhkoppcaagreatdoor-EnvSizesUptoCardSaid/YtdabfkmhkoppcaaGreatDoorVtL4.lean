/- The environment: a part of a record; a path's steps. -/
import Derived.Test.YtdabfkmhkoppcaaGreatDoorVtL3
set_option maxRecDepth 100000
set_option linter.unusedSimpArgs false
namespace Go.Vt.Tryz
open Go.Vt renaming opsB_leaf → J1, opsB_no → J2, opsB_ro → J3, opsB_alt → J4, wp_opsB → J5, again_nil → J8, again_cons → J9, obOf_nil → Ja, obOf_cons → Jb, wadd → Jc, ob_some → Jm, vbool_eq → Jo, vif_tt → Jp, vif_ff → Jq, vD_bool → Jr, vD_int → Js, wp_skip → Ju, wp_ops → Jv, wp_seq → Jy, wp_cond → Jz, wp_ret → JC, th_normal → JD, th_ret → JF, ops_nil → JJ, ops_cons → JK, go_none → JL, cond_tt → JN, cond_ff → JO, put_some → JP, put_none → JQ, asL → JS, asI → JT, asFn → JU, opd_tmp → JV, opd_int → JW, opd_func → J12, so_move → J13, so_assign → J14, so_box → J16, so_extract → J1b, so_call → J1e, esc_tmp → J1f, esc_func → J1g, bobj_none → J1h, lk_cons → J1i, nilC_int → J1k, so_alloc → J1o, so_load → J1p, so_buildSlice → J1q, so_build → J1r, so_store → J1s, vload → J1t, mkV → J1u, vstore → J1v, vcells → J1w, known → J1x, toDs → J1y, toD → J1z, fzLs → J1A, fzL → J1B, fzOne → J1C, splice → J1D, vindexAddr → J1F, vbuild → J1G, vfill → J1H, vbr → J1I, vlen → J1J, vslice → J1K, vbound → J1L, opdO → J1M, opds → J1N, opdPairs → J1O, vbin2 → J1P, vbin → J1Q, vint → J1R, vstr → J1S, capOk → J1Z, vrows → J20, fzVs → J21, allLen → J26, putBack → J2r, fzIds → J2s, lentVs → J2t, lentV → J2u, lentLs → J2v, lentL → J2w, so_len → J3f, so_bin → J3g, so_indexAddr → J3h, so_slice → J3i
open List renaming any_cons → Je, any_nil → Jf, contains_cons → Jg, contains_nil → Jh, lookup_nil → J2y, getElem?_cons_zero → J2z, getElem?_cons_succ → J2A, take_succ_cons → J2C, take_zero → J2D, take_nil → J2E, drop_succ_cons → J2F, drop_zero → J2G, drop_nil → J2H, length_cons → J2I, length_nil → J2J, append_nil → J2K, nil_append → J2L, cons_append → J2M, map_cons → J2N, map_nil → J2O, set_cons_zero → J2P, set_cons_succ → J2Q, all_cons → J2S, all_nil → J2T
open Bool renaming or_true → Ji, or_false → Jk, and_true → J2V, false_eq_true → J39
open Nat renaming reduceBEq → J2X, reduceEqDiff → J2Y, reduceLeDiff → J30, reduceAdd → J31, reduceMul → J32, zero_add → J3c, le_refl → J3d
open Option renaming map_some → J34, bind_some → J36, bind_none → J37, isSome_some → J38
open Go.Proofs

def selT (s : ByteArray) (t : Tm) : Tm := .mk 15 0 0 s [] [] [t]

theorem vc_sel (s : ByteArray) (t : Tm) : VC Tryz.prog 44 [.one (.d (.str s)), tmV t] [] fun r h' => r = tmV (selT s t) ∧ h' = [] := by
  obtain ⟨k, n, i, nm, ls, ts, kids⟩ := t
  refine VC_of_fn mixed fn44 (by simp) ?_
  show vwp Tryz.prog 0 vc44 _ [(0, .one (.d (.str s))), (1, .agg [.d (.int .i64 k), .d (.int .i64 n), .d (.int .i64 i), .d (.str nm), .d (.sl (txts ls)), .d (.sl (encTt.encs ts)), .d (.sl (encTm.encs kids))])] []
  unfold vc44
  rw [vwpI_eq]
  simp -implicitDefEqProofs only [Jm, Jv, Jy, JC, JD, JJ, JK, JL, JP, JQ, JS, JV, JW, J13, J16, J1h, J1i, bt39, bt39, J1o ti39, J1p ti39, J1q ti37 rfl, J1r ti39, J1s ti39, J1t, J1u, J1v, J1w, J1x, J1y, J1z, J1A, J1B, J1C, AObj.freeze, J1D, J1G, J1H, J1I, J1O, J20, J21, J2y, J2z, J2A, J2C, J2D, J2E, J2F, J2G, J2H, J2I, J2J, J2K, J2L, J2M, J2P, J2Q, J2S, J2T, J2V, J2X, J2Y, J30, J31, J32, ↓reduceIte, beq_self_eq_true, cond_true, cond_false, true_and, and_self, J34, J36, J38, eq_self, J3c, J3d]
  apply vend_wk (r1 := .agg [.d (.int .i64 15), .d (.int .i64 0), .d (.int .i64 0), .d (.str s), .d (.sl []), .d (.sl []), .own 2 0 1]) [] []
  · simp only [vres, lk_cons, Nat.reduceBEq, cond_true, cond_false, ti39, vload, List.getElem?_cons_succ, List.getElem?_cons_zero, mkV, List.drop_zero, List.length_cons, List.length_nil, Nat.reduceAdd, Nat.le_refl, if_true, List.take_succ_cons, List.take_zero]; rfl
  · rfl
  · show WkV (.agg _) (.agg _)
    unfold WkV
    exact ⟨.inl rfl, .inl rfl, .inl rfl, .inl rfl, .inr (.inl ⟨rfl, rfl⟩), .inr (.inl ⟨rfl, rfl⟩), .inl rfl, trivial⟩
  · exact WkH.refl _
  · rfl
  · exact ⟨rfl, rfl⟩

/-- A structure of an environment: its name, what it holds, how it is reached. -/
abbrev SubE := ByteArray × Stx × Tm
def encSub (x : SubE) : List D := .str x.1 :: (encSt x.2.1 ++ encTm x.2.2)
def zSub : List L := [.d (.str (ByteArray.mk (Array.mk []))), .nils, .nils, .nils, .nils, .nils, .d (.int .i64 0), .d (.int .i64 0), .d (.int .i64 0), .d (.str (ByteArray.mk (Array.mk []))), .nils, .nils, .nils]

def resR {α : Type} (enc : α → List D) (zs : List L) : Option α → V
  | some a => .tup [.agg ((enc a).map .d), .one (.d (.int .i64 0))]
  | none => .tup [.agg zs, .one (.d (.int .i64 21))]

def FarR {α : Type} (enc : α → List D) (k : Nat) (o : Option α) (r : V) : Prop := ∃ ls b, r = .tup [.agg ls, .one (.d (.bool b))] ∧ ls.length = k ∧ (∀ m, renL.renLs m ls = some ls) ∧ (match o with
  | some a => b = true ∧ ls = (enc a).map .d
  | none => b = false)

def lookS {α : Type} (path : List ByteArray) (near : Option α) (sub : Option SubE) (far : SubE → Option α) : Option α := match path with
  | [] => none
  | [_] => near
  | _ => sub.bind far

def cLook (tE : TypeId) : VCode := (VCode.ops [VOp.mk (some 4) (.box 52 (.tmp 0)) none, VOp.mk (some 8) (.alloc tE) none, VOp.mk (some 9) (.assign (.const (.int .i64 0))) none]).seq ((VCode.ops
  [VOp.mk (some 10) (.alloc tE) none]).seq ((VCode.ops [VOp.mk (some 18) (.move (.tmp 1)) none, VOp.mk (some 19) (.call (.mk (.builtin .len) #[.tmp 18] #[35])) none, VOp.mk (some
  20) (.binOp .sub 3 (.tmp 19) (.const (.int .i64 1)) 3) none, VOp.mk (some 11) (.assign (.tmp 20)) none]).seq (((VCode.ops [VOp.mk (some 21) (.move (.tmp 11)) none, VOp.mk (some
  22) (.binOp .lss 3 (.tmp 21) (.const (.int .i64 0)) 3) none]).seq (VCode.cond (.tmp 22) ((VCode.ops [VOp.mk (some 23) (.load tE (.tmp 10)) none, VOp.mk none (.store tE (.tmp 8)
  (.tmp 23)) none, VOp.mk (some 9) (.assign (.const (.int .i64 21))) none]).seq VCode.ret) VCode.skip)).seq (((VCode.ops [VOp.mk (some 24) (.move (.tmp 11)) none, VOp.mk (some 25)
  (.binOp .eql 3 (.tmp 24) (.const (.int .i64 0)) 3) none]).seq (VCode.cond (.tmp 25) (((VCode.ops [VOp.mk (some 27) (.move (.tmp 2)) none, VOp.mk (some 28) (.move (.tmp 1)) none,
  VOp.mk (some 29) (.indexAddr 35 (.tmp 28) (.const (.int .i64 0))) none, VOp.mk (some 30) (.load 9 (.tmp 29)) none, VOp.mk (some 31) (.call (.mk (.value (.tmp 27)) #[.tmp 30]
  #[9])) none, VOp.mk (some 26) (.move (.tmp 31)) none, VOp.mk (some 32) (.extract (.tmp 26) 0) none, VOp.mk (some 33) (.extract (.tmp 26) 1) none, VOp.mk (some 12) (.alloc tE)
  none, VOp.mk none (.store tE (.tmp 12) (.tmp 32)) none, VOp.mk (some 13) (.assign (.tmp 33)) none]).seq ((VCode.ops [VOp.mk (some 34) (.move (.tmp 13)) none]).seq (VCode.cond
  (.tmp 34) ((VCode.ops [VOp.mk (some 35) (.load tE (.tmp 12)) none, VOp.mk none (.store tE (.tmp 8) (.tmp 35)) none, VOp.mk (some 9) (.assign (.const (.int .i64 0))) none]).seq
  VCode.ret) VCode.skip))).seq ((VCode.ops [VOp.mk (some 36) (.load tE (.tmp 10)) none, VOp.mk none (.store tE (.tmp 8) (.tmp 36)) none, VOp.mk (some 9) (.assign (.const (.int .i64
  21))) none]).seq VCode.ret)) VCode.skip)).seq ((VCode.opsB (VBT.ro 0 (VOp.mk (some 38) (.load 52 (.tmp 4)) none) (VBT.ro 1 (VOp.mk (some 39) (.move (.tmp 1)) none) (VBT.ro 2
  (VOp.mk (some 40) (.move (.tmp 11)) none) (VBT.ro 3 (VOp.mk (some 41) (.slice 35 (.tmp 39) none (some (.tmp 40)) none) none) (VBT.alt 4 (VOp.mk (some 42) (.call (.mk (.value
  (.func 14)) #[.tmp 38, .tmp 41] #[52, 35])) none) (VBT.ro 5 (VOp.mk (some 37) (.move (.tmp 42)) none) (VBT.ro 6 (VOp.mk (some 43) (.extract (.tmp 37) 0) none) (VBT.ro 7 (VOp.mk
  (some 44) (.extract (.tmp 37) 1) none) (VBT.alt 8 (VOp.mk (some 14) (.alloc 67) none) (VBT.alt 9 (VOp.mk none (.store 67 (.tmp 14) (.tmp 43)) none) (VBT.ro 10 (VOp.mk (some 15)
  (.assign (.tmp 44)) none) VBT.leaf) VBT.no) VBT.no)))) (VBT.alt 8 (VOp.mk (some 14) (.alloc 67) none) (VBT.alt 4 (VOp.mk (some 42) (.call (.mk (.value (.func 14)) #[.tmp 38, .tmp
  41] #[52, 35])) none) (VBT.ro 5 (VOp.mk (some 37) (.move (.tmp 42)) none) (VBT.ro 6 (VOp.mk (some 43) (.extract (.tmp 37) 0) none) (VBT.ro 7 (VOp.mk (some 44) (.extract (.tmp 37)
  1) none) (VBT.alt 9 (VOp.mk none (.store 67 (.tmp 14) (.tmp 43)) none) (VBT.ro 10 (VOp.mk (some 15) (.assign (.tmp 44)) none) VBT.leaf) VBT.no)))) VBT.no) VBT.no)))))) [(8, [0,
  3])]).seq (((VCode.ops [VOp.mk (some 45) (.move (.tmp 15)) none, VOp.mk (some 46) (.binOp .neq 43 (.tmp 45) (.const (.int .i64 0)) 43) none]).seq (VCode.cond (.tmp 46) ((VCode.ops
  [VOp.mk (some 47) (.load tE (.tmp 10)) none, VOp.mk (some 48) (.move (.tmp 15)) none, VOp.mk none (.store tE (.tmp 8) (.tmp 47)) none, VOp.mk (some 9) (.assign (.tmp 48))
  none]).seq VCode.ret) VCode.skip)).seq (((VCode.opsB (VBT.ro 0 (VOp.mk (some 50) (.move (.tmp 3)) none) (VBT.ro 1 (VOp.mk (some 51) (.load 67 (.tmp 14)) none) (VBT.ro 2 (VOp.mk
  (some 52) (.move (.tmp 1)) none) (VBT.ro 3 (VOp.mk (some 53) (.move (.tmp 11)) none) (VBT.ro 4 (VOp.mk (some 54) (.indexAddr 35 (.tmp 52) (.tmp 53)) none) (VBT.ro 5 (VOp.mk (some
  55) (.load 9 (.tmp 54)) none) (VBT.alt 6 (VOp.mk (some 56) (.call (.mk (.value (.tmp 50)) #[.tmp 51, .tmp 55] #[67, 9])) none) (VBT.ro 7 (VOp.mk (some 49) (.move (.tmp 56)) none)
  (VBT.ro 8 (VOp.mk (some 57) (.extract (.tmp 49) 0) none) (VBT.ro 9 (VOp.mk (some 58) (.extract (.tmp 49) 1) none) (VBT.alt 10 (VOp.mk (some 16) (.alloc tE) none) (VBT.alt 11
  (VOp.mk none (.store tE (.tmp 16) (.tmp 57)) none) (VBT.ro 12 (VOp.mk (some 17) (.assign (.tmp 58)) none) VBT.leaf) VBT.no) VBT.no)))) (VBT.alt 10 (VOp.mk (some 16) (.alloc tE)
  none) (VBT.alt 6 (VOp.mk (some 56) (.call (.mk (.value (.tmp 50)) #[.tmp 51, .tmp 55] #[67, 9])) none) (VBT.ro 7 (VOp.mk (some 49) (.move (.tmp 56)) none) (VBT.ro 8 (VOp.mk (some
  57) (.extract (.tmp 49) 0) none) (VBT.ro 9 (VOp.mk (some 58) (.extract (.tmp 49) 1) none) (VBT.alt 11 (VOp.mk none (.store tE (.tmp 16) (.tmp 57)) none) (VBT.ro 12 (VOp.mk (some
  17) (.assign (.tmp 58)) none) VBT.leaf) VBT.no)))) VBT.no) VBT.no)))))))) [(10, [1, 4, 5])]).seq ((VCode.ops [VOp.mk (some 59) (.move (.tmp 17)) none]).seq (VCode.cond (.tmp 59)
  ((VCode.ops [VOp.mk (some 60) (.load tE (.tmp 16)) none, VOp.mk none (.store tE (.tmp 8) (.tmp 60)) none, VOp.mk (some 9) (.assign (.const (.int .i64 0))) none]).seq VCode.ret)
  VCode.skip))).seq ((VCode.ops [VOp.mk (some 61) (.load tE (.tmp 10)) none, VOp.mk none (.store tE (.tmp 8) (.tmp 61)) none, VOp.mk (some 9) (.assign (.const (.int .i64 21)))
  none]).seq VCode.ret))))))))

def cWhole (tE tN tR : TypeId) (fn fo ff : FuncId) : VCode := (VCode.ops [VOp.mk (some 2) (.box 52 (.tmp 0)) none, VOp.mk (some 4) (.alloc tE) none, VOp.mk (some 5) (.assign (.const (.int .i64 0))) none]).seq ((VCode.ops [VOp.mk (some 6) (.load 52 (.tmp 2)) none, VOp.mk (some 7) (.move (.tmp 1)) none, VOp.mk (some 8) (.makeFunc (.func fn) #[] #[.tmp 2]) none, VOp.mk (some 9) (.call (.mk (.value (.func fo)) #[.tmp 6, .tmp 7, .tmp 8, .func ff] #[52, 35, tN, tR])) none, VOp.mk (some 10) (.extract (.tmp 9) 0) none, VOp.mk (some 11) (.extract (.tmp 9) 1) none, VOp.mk none (.store tE (.tmp 4) (.tmp 10)) none, VOp.mk (some 5) (.assign (.tmp 11)) none]).seq VCode.ret)

theorem back0 {h : AHeap} {r : V} (hr : ∀ m, renV m r = some r) : back h [] [] r [] = some (r, h) := by
  unfold back
  split
  · rfl
  · rw [hr]
    simp [renOs, putBack, fzIds]

section
variable {α : Type} {enc : α → List D} {nm : α → ByteArray} {k : Nat} {tS tE tF : TypeId} {fl fB fI : FuncId} {zs : List L} {d0 d1 d2 d3 d4 d5 : D}

set_option maxHeartbeats 4000000 in
theorem vc_lookG (hk : Knd α enc nm k) (H : Lst tS tE tF fl fB fI k zs) {fo : FuncId} (hfo : FnOk Tryz.prog fo 62 (cLook tE) [.cell 8 tE, .tmp 9]) (path : List ByteArray) (hp : path.length < 1000000000) (fn ff : FuncId)
    (near : Option α) (hnear : ∀ s, path = [s] → VC Tryz.prog fn [.one (.d (.str s)), .one (.ptr 0 0)] [.box [.d d0, .d d1, .d d2, .d d3, .d d4, .d d5]] fun r h' => r = nearR enc zs near ∧ h' = [.box [.d d0, .d d1, .d d2, .d d3, .d d4, .d d5]])
    (sub : Option SubE) (hsub : 2 ≤ path.length → VC Tryz.prog 14 [.agg [.d d0, .d d1, .d d2, .d d3, .d d4, .d d5], .one (.d (.sl (txts path.dropLast)))] [] fun r h' => r = resR encSub zSub sub ∧ h' = [])
    (far : SubE → Option α) (hfar : ∀ x s, sub = some x → path.getLast? = some s → VC Tryz.prog ff [.agg ((encSub x).map .d), .one (.d (.str s))] [] fun r h' => FarR enc k (far x) r ∧ h' = []) :
    VC Tryz.prog fo [.agg [.d d0, .d d1, .d d2, .d d3, .d d4, .d d5], .one (.d (.sl (txts path))), .one (.fn fn [.ptr 0 0]), .one (.fn ff [])] [.box [.d d0, .d d1, .d d2, .d d3, .d d4, .d d5]] fun r h' => r = resR enc zs (lookS path near sub far) ∧ h' = [.box [.d d0, .d d1, .d d2, .d d3, .d d4, .d d5]] := by
  refine H.E.elim fun bE g => g.elim fun fs g => ?_
  have hE := g.1
  have hbE := H.bE
  have hz1 := H.zl
  have hz2 : zs.take k = zs := List.take_of_length_le (by omega)
  have hz3 : zs.drop k = [] := List.drop_of_length_le (by omega)
  have hzr := H.zr
  have hzd := H.zd
  refine VC_of_fn mixed hfo (by simp) ?_
  show vwp Tryz.prog 1 (cLook tE) _ [(0, .agg [.d d0, .d d1, .d d2, .d d3, .d d4, .d d5]), (1, .one (.d (.sl (txts path)))), (2, .one (.fn fn [.ptr 0 0])), (3, .one (.fn ff []))] [.box [.d d0, .d d1, .d d2, .d d3, .d d4, .d d5]]
  unfold cLook
  rw [vwpI_eq]
  have hw : IntKind.i64.wrap ((path.length : Int) - 1) = (path.length : Int) - 1 := wrap_p (by omega) (by omega)
  have hdone : ∀ (T : Sl) (h : AHeap) (ls : List L) (i : Int), T.lookup 8 = some (.one (.ptr 2 0)) → T.lookup 9 = some (.one (.d (.int .i64 i))) → h[0]? = some (.box [.d d0, .d d1, .d d2, .d d3, .d d4, .d d5]) → h[2]? = some (.box ls) → ls.length = k → (∀ h ids, lendLs h ids ls = some ls) → .tup [.agg ls, .one (.d (.int .i64 i))] = resR enc zs (lookS path near sub far) →
      vend Tryz.prog 1 [.cell 8 tE, .tmp 9] (fun r h' => r = resR enc zs (lookS path near sub far) ∧ h' = [.box [.d d0, .d d1, .d d2, .d d3, .d d4, .d d5]]) .ret T h := by
    intro T h ls i h8 h9 hh0 hh2 hls hld hr
    refine vend_of (vs := [.agg ls, .one (.d (.int .i64 i))]) (r := .tup [.agg ls, .one (.d (.int .i64 i))]) (hs := [.box [.d d0, .d d1, .d d2, .d d3, .d d4, .d d5]]) [0] ?_ ?_ ⟨hr, rfl⟩
    · simp [vres, hE, h8, h9, hh2, vload, mkV, hls]
      rw [List.take_of_length_le (by omega)]
    · simp [fin, nodup, handO, hh0, lendR, lendVs, lendV, hld, lendL, vone, renL, renO, renL.renLs]
  simp -implicitDefEqProofs only [J3, J5, Jc, Je, Jf, Jg, Jh, Jk, Jm, Jo, Jr, Js, Ju, Jv, Jy, Jz, JC, JD, JF, JJ, JK, JL, JN, JO, JP, JQ, JS, JT, JV, JW, J13, J14, J16, Jg, J1h, J1i, J1k, bt52, J3f ti35, J3g ti3, J1p ti52, J3h ti35 rfl, J3i ti35, J1t, J1u, J1v, J1w, J1x, J1D, J1F, J1J, J1K, J1L, J1M, J1P, J1Q, J1R, J1S, J26, J2y, J2z, J2A, J2C, J2D, J2E, J2G, J2I, J2J, J2K, J2L, J2M, J2P, J2Q, J2X, J31, ↓reduceIte, reduceCtorEq, beq_self_eq_true, cond_true, cond_false, true_and, J34, J36, decide_eq_true_eq, decide_eq_false_iff_not, beq_iff_eq, beq_eq_false_iff_ne, eq_self, ne_eq, J3c, J3d, so_alloc hE, so_store hE, so_load hE, hbE, hz1, hz2, hz3, hw, txts_length]
  refine ⟨fun h1 => ?_, fun h1 => ⟨fun h2 => ?_, fun h2 => ?_⟩⟩
  · refine hdone _ _ zs 21 rfl rfl rfl rfl hz1 hzd ?_
    have : path = [] := List.eq_nil_of_length_eq_zero (by omega)
    subst this
    rfl
  · obtain ⟨s, rfl⟩ : ∃ s, path = [s] := by
      rcases path with _ | ⟨s, _ | ⟨t, r⟩⟩
      · simp at h1
      · exact ⟨s, rfl⟩
      · simp at h2; omega
    have hg : (txts [s])[Int.toNat 0]? = some [.str s] := rfl
    obtain ⟨ls, b, e, hl1, hlr, hld⟩ := nearR_len hk H.zl H.zr H.zd near
    have hl2 : ls.take k = ls := List.take_of_length_le (by omega)
    have hn := hnear s rfl
    rw [e] at hn
    simp -implicitDefEqProofs only [Jm, Jp, JK, JL, JP, JS, JU, JV, J1e, J1f, J1i, J1p ti9, J1t, J1u, J1N, J1Z, J2y, J2z, J2I, J2J, J2L, J2M, J2N, J2O, J2S, J2T, J2V, J2X, ↓reduceIte, beq_self_eq_true, cond_true, cond_false, J34, J36, J39, eq_self, J3c, hg, Int.le_refl]
    refine callS [0] hn rfl rfl rfl ?_
    rintro _ _ ⟨rfl, rfl⟩
    refine ⟨.tup [.agg ls, .one (.d (.bool b))], [.box [.d d0, .d d1, .d d2, .d d3, .d d4, .d d5], .box [.d d0, .d d1, .d d2, .d d3, .d d4, .d d5], .box zs, .box zs], ?_, ?_⟩
    · simp [back, lentVs, lentV, lentL, renV, renV.renVs, hlr, renL, renOs, renO, renL.renLs, putBack, fzIds]
    simp -implicitDefEqProofs only [Jm, Jv, Jy, Jz, JD, JJ, JK, JL, JP, JQ, JS, JV, J13, J14, J1b, J1h, J1i, J1v, J1w, J1x, J1D, J2y, J2z, J2A, J2D, J2I, J2J, J2K, J2L, J2M, J2P, J2Q, J2X, J31, ↓reduceIte, beq_self_eq_true, cond_true, cond_false, J34, J36, eq_self, J3c, J3d, so_alloc hE, so_store hE, hbE, hz1, hz3, hl1]
    refine ⟨fun hb => ?_, fun hb => ?_⟩
    all_goals
      simp -implicitDefEqProofs only [Jm, Ju, Jv, Jy, JC, JD, JF, JJ, JK, JL, JP, JQ, JS, JV, JW, J14, J1i, J1t, J1u, J1v, J1w, J1x, J1D, J2y, J2z, J2A, J2D, J2G, J2I, J2J, J2K, J2L, J2P, J2Q, J2X, ↓reduceIte, beq_self_eq_true, cond_true, cond_false, J34, J36, eq_self, J3c, J3d, so_store hE, so_load hE, hz1, hz2, hz3, hl1, hl2]
    · refine hdone _ _ ls 0 rfl rfl rfl rfl hl1 hld ?_
      cases near with
      | none => unfold nearR at e; simp at e; rw [hb] at e; simp at e
      | some a => unfold nearR at e; simp at e; rw [← e.1]; rfl
    · refine hdone _ _ zs 21 rfl rfl rfl rfl hz1 hzd ?_
      cases near with
      | none => rfl
      | some a => unfold nearR at e; simp at e; rw [hb] at e; simp at e
  · have hlen : 2 ≤ path.length := by omega
    have hN : ((path.length : Int) - 1).toNat = path.length - 1 := by omega
    have h0 : (0 : Int) ≤ (path.length : Int) - 1 := by omega
    have hk1 : path.length - 1 ≤ path.length := by omega
    have ht : (txts path).take (path.length - 1) = txts path.dropLast := by rw [List.dropLast_eq_take, txts, ← List.map_take]; rfl
    have hsub := hsub hlen
    have hne : ((21 : Int) = 0) = False := by simp
    obtain ⟨s, hs⟩ : ∃ s, path.getLast? = some s := by
      cases e : path.getLast? with
      | none => rw [List.getLast?_eq_none_iff] at e; subst e; simp at hlen
      | some s => exact ⟨s, rfl⟩
    have hgl : (txts path)[path.length - 1]? = some [.str s] := by
      rw [txts, List.getElem?_map, ← List.getLast?_eq_getElem?, hs]
      rfl
    have hlook : lookS path near sub far = sub.bind far := by
      rcases path with _ | ⟨s, _ | ⟨t, r⟩⟩
      · simp at hlen
      · simp at hlen
      · rfl
    rw [hlook] at hdone ⊢
    simp -implicitDefEqProofs only [J2, J4, J8, J9, Ja, Jb, Jc, Je, Jf, Jg, Jh, Ji, Jk, Jm, Jp, JL, JP, JS, JU, JV, J12, J1e, J1g, noescs, Jg, J1h, J1i, bt67, J1o ti67, J1p ti52, J3i ti35, J1t, J1u, J1w, J1K, J1L, J1M, J1N, J26, J2y, J2z, J2A, J2C, J2E, J2G, J2I, J2J, J2K, J2L, J2M, J2O, J2T, J2V, J2X, J31, ↓reduceIte, beq_self_eq_true, cond_true, cond_false, true_and, and_true, and_self, J34, J36, eq_self, J3c, J3d, hN, h0, hk1, ht, true_or, Nat.zero_le, txts_length]
    cases sub with
    | none =>
      simp only [resR, zSub] at hsub
      refine ⟨?_, ?_⟩
      all_goals
        refine callS [] (hsub) rfl rfl rfl ?_
        rintro _ _ ⟨rfl, rfl⟩
        refine ⟨_, _, rfl, ?_⟩
        simp -implicitDefEqProofs only [J1, J2, J3, J4, J5, J8, J9, Ja, Jb, Jc, Je, Jf, Jg, Jh, Ji, Jk, Jm, Jo, Jp, Jq, Jr, Ju, Jv, Jy, Jz, JC, JD, JF, JJ, JK, JL, JN, JO, JP, JQ, JS, JT, JU, JV, JW, J13, J14, J1b, J1e, J1f, Jg, J1h, J1i, J1k, bt67, J1o ti67, J3g ti43, J1p ti9, J1p ti52, J1p ti67, J1s ti67, J3h ti35 rfl, J3i ti35, J1t, J1u, J1v, J1w, J1x, J1y, J1z, J1A, J1B, J1D, J1F, J1K, J1L, J1M, J1N, J1P, J1Q, J1R, J1S, J26, J2y, J2z, J2A, J2C, J2D, J2E, J2F, J2G, J2H, J2I, J2J, J2K, J2L, J2M, J2N, J2O, J2P, J2Q, J2T, J2V, J2X, J31, ↓reduceIte, beq_self_eq_true, cond_true, cond_false, true_and, and_true, and_self, J34, J36, J37, bne_iff_ne, bne_eq_false_iff_eq, J39, eq_self, forall_const, not_false_eq_true, ne_eq, false_implies, J3c, J3d, so_alloc hE, so_store hE, so_load hE, hbE, hz1, hz2, hz3, hN, h0, hk1, ht, true_or, Nat.zero_le, txts_length, hne, hgl]
        exact hdone _ _ zs 21 rfl rfl rfl rfl hz1 hzd rfl
    | some x =>
      have hfar := hfar x s rfl hs
      obtain ⟨xn, ⟨x1, x2, x3, x4, x5⟩, ⟨y1, y2, y3, y4, y5, y6, y7⟩⟩ := x
      simp only [resR, encSub, encSt, encTm, List.map_cons, List.map_nil, List.cons_append, List.nil_append] at hsub hfar
      refine ⟨?_, ?_⟩
      all_goals
        refine callS [] (hsub) rfl rfl rfl ?_
        rintro _ _ ⟨rfl, rfl⟩
        refine ⟨_, _, rfl, ?_⟩
        simp -implicitDefEqProofs only [J1, J2, J3, J4, J5, J8, J9, Ja, Jb, Jc, Je, Jf, Jg, Jh, Ji, Jk, Jm, Jo, Jp, Jq, Jr, Ju, Jv, Jy, Jz, JC, JD, JF, JJ, JK, JL, JN, JO, JP, JQ, JS, JT, JU, JV, JW, J13, J14, J1b, J1e, J1f, Jg, J1h, J1i, J1k, bt67, J1o ti67, J3g ti43, J1p ti9, J1p ti52, J1p ti67, J1s ti67, J3h ti35 rfl, J3i ti35, J1t, J1u, J1v, J1w, J1x, J1y, J1z, J1A, J1B, J1D, J1F, J1K, J1L, J1M, J1N, J1P, J1Q, J1R, J1S, J26, J2r, J2s, J2t, J2u, J2v, J2w, J2y, J2z, J2A, J2C, J2D, J2E, J2F, J2G, J2H, J2I, J2J, J2K, J2L, J2M, J2N, J2O, J2P, J2Q, J2T, J2V, J2X, J31, ↓reduceIte, beq_self_eq_true, cond_true, cond_false, true_and, and_true, and_self, J34, J36, bne_iff_ne, bne_eq_false_iff_eq, J39, eq_self, forall_const, not_true_eq_false, ne_eq, false_implies, J3c, J3d, so_alloc hE, so_store hE, so_load hE, hbE, hz1, hz2, hz3, hN, h0, hk1, ht, true_or, Nat.zero_le, txts_length, hgl]
      all_goals
        refine ⟨?_, ?_⟩
      all_goals
        refine callS [] hfar rfl rfl rfl ?_
        rintro _ _ ⟨⟨ls, b, rfl, hl1, hlr, hb⟩, rfl⟩
        have hl2 : ls.take k = ls := List.take_of_length_le (by omega)
        refine ⟨.tup [.agg ls, .one (.d (.bool b))], _, back0 (by simp [renV, renV.renVs, hlr, renL]), ?_⟩
        simp -implicitDefEqProofs only [J1, J2, J3, J4, J8, J9, Ja, Jb, Jc, Je, Jf, Jg, Jh, Ji, Jk, Jm, Jp, Jq, Jv, Jy, Jz, JD, JJ, JK, JL, JP, JQ, JS, JT, JV, J13, J14, J1b, Jg, J1h, J1i, J1p ti9, J1p ti67, J3h ti35 rfl, J1t, J1u, J1v, J1w, J1x, J1D, J1F, J2y, J2z, J2A, J2C, J2D, J2E, J2G, J2I, J2J, J2K, J2L, J2M, J2N, J2O, J2P, J2Q, J2X, J31, ↓reduceIte, beq_self_eq_true, cond_true, cond_false, true_and, and_true, and_self, J34, J36, J39, eq_self, J3c, J3d, so_alloc hE, so_store hE, hbE, hz1, hz3, hN, h0, hgl, hl1]
        refine ⟨fun hb1 => ?_, fun hb1 => ?_⟩
        all_goals
          simp -implicitDefEqProofs only [Jm, Ju, Jv, Jy, JC, JD, JF, JJ, JK, JL, JP, JQ, JS, JV, JW, J14, J1i, J1t, J1u, J1v, J1w, J1x, J1D, J2y, J2z, J2A, J2D, J2G, J2I, J2J, J2K, J2L, J2P, J2Q, J2X, ↓reduceIte, beq_self_eq_true, cond_true, cond_false, J34, J36, eq_self, J3c, J3d, so_store hE, so_load hE, hz1, hz2, hz3, hl1, hl2]
        · have hld : ∀ h ids, lendLs h ids ls = some ls := by
            intro h ids
            cases e : far (xn, .mk x1 x2 x3 x4 x5, .mk y1 y2 y3 y4 y5 y6 y7) with
            | none => rw [e] at hb; simp at hb; rw [hb1] at hb; simp at hb
            | some a => rw [e] at hb; rw [hb.2]; exact lendLs_ds _
          refine hdone _ _ ls 0 rfl rfl rfl rfl hl1 hld ?_
          show _ = resR enc zs (far (xn, .mk x1 x2 x3 x4 x5, .mk y1 y2 y3 y4 y5 y6 y7))
          cases e : far (xn, .mk x1 x2 x3 x4 x5, .mk y1 y2 y3 y4 y5 y6 y7) with
          | none => rw [e] at hb; simp at hb; rw [hb1] at hb; simp at hb
          | some a => rw [e] at hb; rw [hb.2]; rfl
        · refine hdone _ _ zs 21 rfl rfl rfl rfl hz1 hzd ?_
          show _ = resR enc zs (far (xn, .mk x1 x2 x3 x4 x5, .mk y1 y2 y3 y4 y5 y6 y7))
          cases e : far (xn, .mk x1 x2 x3 x4 x5, .mk y1 y2 y3 y4 y5 y6 y7) with
          | none => rfl
          | some a => rw [e] at hb; simp at hb; rw [hb1] at hb; simp at hb
end

end Go.Vt.Tryz
set_option maxRecDepth 100000
set_option linter.unusedSimpArgs false
namespace Go.Vt.Tryz
open Go.Proofs

section
variable {α : Type} {enc : α → List D} {nm : α → ByteArray} {k : Nat} {tS tE tF : TypeId} {fl fB fI : FuncId} {zs : List L} {d0 d1 d2 d3 d4 d5 : D}

theorem resR_len (hk : Knd α enc nm k) (hz : zs.length = k) (hr : ∀ m, renL.renLs m zs = some zs) (hd : ∀ h ids, lendLs h ids zs = some zs) (o : Option α) :
    ∃ ls i, resR enc zs o = .tup [.agg ls, .one (.d (.int .i64 i))] ∧ ls.length = k ∧ (∀ m, renL.renLs m ls = some ls) ∧ (∀ h ids, lendLs h ids ls = some ls) := by
  obtain ⟨ls, b, e, h1, h2, h3⟩ := nearR_len hk hz hr hd o
  cases o with
  | none => unfold nearR at e; simp at e; exact ⟨zs, 21, rfl, hz, hr, hd⟩
  | some a => unfold nearR at e; simp at e; exact ⟨_, 0, rfl, e.1 ▸ h1, e.1 ▸ h2, e.1 ▸ h3⟩

/-- The parts of one kind's walk. -/
structure Kin (tS tE tF tN tR : TypeId) (fl fB fI fc fn fo ff fv : FuncId) (j : Nat) : Prop where
  eq : FnOk Tryz.prog fc 8 (cEq tE) [.tmp 3]
  near : FnOk Tryz.prog fn 11 (cNear tE tS tF j fc fl) [.cell 3 tE, .tmp 4]
  look : FnOk Tryz.prog fo 62 (cLook tE) [.cell 8 tE, .tmp 9]
  whole : FnOk Tryz.prog fv 12 (cWhole tE tN tR fn fo ff) [.cell 4 tE, .tmp 5]
  nl : noEsc Tryz.prog fl = false
  no : noEsc Tryz.prog fo = false

theorem vc_wholeG {tN tR : TypeId} {fc fn fo ff fv : FuncId} {j : Nat} (hk : Knd α enc nm k) (H : Lst tS tE tF fl fB fI k zs) (Q : Kin tS tE tF tN tR fl fB fI fc fn fo ff fv j) (path : List ByteArray) (hp : path.length < 1000000000)
    (l : List α) (hl : l.length < 1000000000) (hj : [L.d d0, .d d1, .d d2, .d d3, .d d4, .d d5][j]? = some (.d (.sl (l.map enc))))
    (sub : Option SubE) (hsub : 2 ≤ path.length → VC Tryz.prog 14 [.agg [.d d0, .d d1, .d d2, .d d3, .d d4, .d d5], .one (.d (.sl (txts path.dropLast)))] [] fun r h' => r = resR encSub zSub sub ∧ h' = [])
    (far : ByteArray → SubE → Option α) (hfar : ∀ x s, sub = some x → VC Tryz.prog ff [.agg ((encSub x).map .d), .one (.d (.str s))] [] fun r h' => FarR enc k (far s x) r ∧ h' = []) :
    VC Tryz.prog fv [.agg [.d d0, .d d1, .d d2, .d d3, .d d4, .d d5], .one (.d (.sl (txts path)))] [] fun r h' => r = resR enc zs (lookS path (lastOf nm l (path.headD ByteArray.empty)) sub (far (path.getLastD ByteArray.empty))) ∧ h' = [] := by
  have hlook := vc_lookG hk H Q.look path hp fn ff (lastOf nm l (path.headD ByteArray.empty)) (fun s e => by subst e; exact vc_nearG hk H Q.eq Q.near Q.nl l hl s hj (fun _ => rfl)) sub hsub (far (path.getLastD ByteArray.empty)) (fun x s hx hs => by
    have : path.getLastD ByteArray.empty = s := by
      rw [List.getLastD_eq_getLast?, hs]; rfl
    rw [this]
    exact hfar x s hx)
  obtain ⟨ls, i, e, hl1, hlr, hld⟩ := resR_len hk H.zl H.zr H.zd (lookS path (lastOf nm l (path.headD ByteArray.empty)) sub (far (path.getLastD ByteArray.empty)))
  rw [e] at hlook ⊢
  refine H.E.elim fun bE g => g.elim fun fs g => ?_
  have hE := g.1
  refine VC_of_fn mixed Q.whole (by simp) ?_
  show vwp Tryz.prog 0 (cWhole tE tN tR fn fo ff) _ [(0, .agg [.d d0, .d d1, .d d2, .d d3, .d d4, .d d5]), (1, .one (.d (.sl (txts path))))] []
  unfold cWhole
  rw [vw_seq, vw_ops]
  refine vop_st (r := .one (.ptr 0 0)) (h' := [.box [.d d0, .d d1, .d d2, .d d3, .d d4, .d d5]]) (by simp [vop, opd_tmp, lk_cons, known, vcells, bobj, bt52]) ?_
  refine vop_st (vop_alloc hE H.bE) ?_
  refine vop_st (r := .one (.d (.int .i64 0))) (h' := [.box [.d d0, .d d1, .d d2, .d d3, .d d4, .d d5], .box zs]) rfl ?_
  rw [vops_nil, vt_normal, vw_seq, vw_ops]
  refine vop_st (r := .agg [.d d0, .d d1, .d d2, .d d3, .d d4, .d d5]) (h' := [.box [.d d0, .d d1, .d d2, .d d3, .d d4, .d d5], .box zs]) ?_ ?_
  · simp [vop, ti52, opd_tmp, put_some, lk_cons, vload, mkV]
  refine vop_st (r := .one (.d (.sl (txts path)))) (h' := [.box [.d d0, .d d1, .d d2, .d d3, .d d4, .d d5], .box zs]) rfl ?_
  refine vop_st (r := .one (.fn fn [.ptr 0 0])) (h' := [.box [.d d0, .d d1, .d d2, .d d3, .d d4, .d d5], .box zs]) rfl ?_
  refine vcall_st (f' := fo) (caps := []) (vs := [.agg [.d d0, .d d1, .d d2, .d d3, .d d4, .d d5], .one (.d (.sl (txts path))), .one (.fn fn [.ptr 0 0]), .one (.fn ff [])]) Q.no rfl rfl rfl ?_
  refine callS [0] hlook rfl rfl rfl ?_
  rintro _ _ ⟨rfl, rfl⟩
  refine ⟨.tup [.agg ls, .one (.d (.int .i64 i))], [.box [.d d0, .d d1, .d d2, .d d3, .d d4, .d d5], .box zs], ?_, ?_⟩
  · simp [back, lentVs, lentV, lentLs, lentL, renV, renV.renVs, hlr, renL, renOs, renO, renL.renLs, putBack, fzIds]
  rw [kn_run]
  refine vop_st (r := .agg ls) (h' := [.box [.d d0, .d d1, .d d2, .d d3, .d d4, .d d5], .box zs]) rfl ?_
  refine vop_st (r := .one (.d (.int .i64 i))) (h' := [.box [.d d0, .d d1, .d d2, .d d3, .d d4, .d d5], .box zs]) rfl ?_
  refine vop_st (vop_store (id := 1) (ls := ls) (l0 := zs) hE rfl rfl rfl hl1 H.zl) ?_
  refine vop_st (r := .one (.d (.int .i64 i))) (h' := [.box [.d d0, .d d1, .d d2, .d d3, .d d4, .d d5], .box ls]) rfl ?_
  rw [vops_nil, vt_normal, vw_ret]
  refine vend_of (vs := [.agg ls, .one (.d (.int .i64 i))]) (r := .tup [.agg ls, .one (.d (.int .i64 i))]) (hs := []) [] ?_ ?_ ⟨rfl, rfl⟩
  · simp [vres, hE, lk_cons, put_some, put_none, vload, mkV, hl1]
    rw [List.take_of_length_le (by omega)]
  · simp [fin, nodup, handO, lendR, lendVs, lendV, hld, lendL, idx, vone, renL]
end

end Go.Vt.Tryz
