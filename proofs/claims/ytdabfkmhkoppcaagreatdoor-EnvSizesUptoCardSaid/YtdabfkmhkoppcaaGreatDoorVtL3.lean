/- The environment: what stands last by name, for all types at once. -/
import Derived.Test.YtdabfkmhkoppcaaGreatDoorVtL1
set_option maxRecDepth 100000
set_option linter.unusedSimpArgs false
namespace Go.Vt.Tryz
open Go.Vt renaming ob_some → Jm, vbool_eq → Jo, vD_bool → Jr, wp_ops → Jv, wp_seq → Jy, wp_ret → JC, th_normal → JD, ops_nil → JJ, ops_cons → JK, go_none → JL, put_some → JP, asL → JS, opd_tmp → JV, opd_bool → JX, so_assign → J14, so_box → J16, bobj_none → J1h, lk_cons → J1i, nilC_tmp → J1j, so_load → J1p, so_bin → J1q, vload → J1r, mkV → J1s, vcells → J1u, known → J1v, vfieldAddr → J1C, vbin2 → J1N, vbin → J1O, vint → J1P, vstr → J1Q
open List renaming lookup_nil → J2w, getElem?_cons_zero → J2x, getElem?_cons_succ → J2y, drop_zero → J2E, length_cons → J2G, length_nil → J2H, nil_append → J2J, cons_append → J2K, map_cons → J2L
open Bool renaming false_eq_true → J37
open Nat renaming reduceBEq → J2V, reduceLeDiff → J2Y, zero_add → J3a, add_zero → J3c
open Option renaming map_some → J32, bind_some → J34
open Go.Proofs

def cEq (tE : TypeId) : VCode := (VCode.ops [VOp.mk (some 2) (.box tE (.tmp 0)) none, VOp.mk (some 3) (.assign (.const (.bool false))) none]).seq ((VCode.ops [VOp.mk (some 4) (.fieldAddr tE
  (.tmp 2) 0) none, VOp.mk (some 5) (.load 9 (.tmp 4)) none, VOp.mk (some 6) (.load 9 (.tmp 1)) none, VOp.mk (some 7) (.binOp .eql 9 (.tmp 5) (.tmp 6) 9) none, VOp.mk (some 3)
  (.assign (.tmp 7)) none]).seq VCode.ret)

def cNear (tE tS tF : TypeId) (j : Nat) (fc fl : FuncId) : VCode := (VCode.ops [VOp.mk (some 2) (.box 9 (.tmp 0)) none, VOp.mk (some 3) (.alloc tE) none, VOp.mk (some 4) (.assign (.const (.bool false))) none]).seq ((VCode.ops
  [VOp.mk (some 5) (.fieldAddr 52 (.tmp 1) j) none, VOp.mk (some 6) (.load tS (.tmp 5)) none, VOp.mk (some 7) (.makeFunc (.func fc) #[] #[.tmp 2]) none, VOp.mk (some 8) (.call (.mk
  (.value (.func fl)) #[.tmp 6, .tmp 7] #[tS, tF])) none, VOp.mk (some 9) (.extract (.tmp 8) 0) none, VOp.mk (some 10) (.extract (.tmp 8) 1) none, VOp.mk none (.store tE (.tmp 3)
  (.tmp 9)) none, VOp.mk (some 4) (.assign (.tmp 10)) none]).seq VCode.ret)

/-- What is known of a kind of entry: a row's width, what a zero one is, its name. -/
structure Knd (α : Type) (enc : α → List D) (nm : α → ByteArray) (k : Nat) : Prop where
  head : ∀ a, ∃ r, enc a = .str (nm a) :: r
  len : ∀ a, (enc a).length = k

def lastOf {α : Type} (nm : α → ByteArray) (l : List α) (s : ByteArray) : Option α := l.reverse.find? fun a => decide (nm a = s)

def nearR {α : Type} (enc : α → List D) (zs : List L) : Option α → V
  | some a => .tup [.agg ((enc a).map .d), .one (.d (.bool true))]
  | none => .tup [.agg zs, .one (.d (.bool false))]

def rowNm : List D → ByteArray
  | .str s :: _ => s
  | _ => ByteArray.empty

theorem last_nm {α : Type} {enc : α → List D} {nm : α → ByteArray} {k : Nat} (hk : Knd α enc nm k) (zs : List L) (l : List α) (s : ByteArray) : lastR zs (fun x => decide (rowNm x = s)) (l.map enc) = nearR enc zs (lastOf nm l s) := by
  unfold lastR lastOf
  rw [← List.map_reverse, List.find?_map]
  have : ((fun x => decide (rowNm x = s)) ∘ enc) = fun a => decide (nm a = s) := by
    funext a
    obtain ⟨r, e⟩ := hk.head a
    simp [e, rowNm]
  rw [this]
  cases List.find? (fun a => decide (nm a = s)) l.reverse <;> rfl

theorem vc_eqG {tS tE tF : TypeId} {fl fB fI : FuncId} {k : Nat} {zs : List L} (H : Lst tS tE tF fl fB fI k zs) {fc : FuncId} (hfc : FnOk Tryz.prog fc 8 (cEq tE) [.tmp 3]) (s : ByteArray) (r : List D) (name : ByteArray) :
    VC Tryz.prog fc [.agg ((D.str s :: r).map .d), .one (.ptr 0 0)] [.box [.d (.str name)]] fun r h' => r = .one (.d (.bool (decide (s = name)))) ∧ h' = [.box [.d (.str name)]] := by
  refine H.E.elim fun bE g => g.elim fun fs g => ?_
  have hE := g.1
  have hfs := g.2
  have hbE := H.bE
  refine VC_of_fn mixed hfc (by simp) ?_
  show vwp Tryz.prog 1 (cEq tE) _ [(0, .agg ((D.str s :: r).map .d)), (1, .one (.ptr 0 0))] [.box [.d (.str name)]]
  unfold cEq
  rw [vwpI_eq]
  simp -implicitDefEqProofs only [Jm, Jo, Jr, Jv, Jy, JC, JD, JJ, JK, JL, JP, JS, JV, JX, J14, J16, J1h, J1i, J1j, J1p ti9, J1q ti9, J1r, J1s, J1u, J1v, J1C, J1N, J1O, J1P, J1Q, J2w, J2x, J2y, J2E, J2G, J2H, J2J, J2K, J2L, J2V, J2Y, ↓reduceIte, reduceCtorEq, beq_self_eq_true, cond_true, cond_false, J32, J34, decide_eq_true_eq, decide_eq_false_iff_not, J37, eq_self, J3a, J3c, so_fieldAddr hE rfl, hbE, hfs, Option.bind_some]
  by_cases e : s = name
  · simp -implicitDefEqProofs only [and_true, decide_true, eq_self, forall_const, not_true_eq_false, false_implies, e]
    apply vend_of [0]; rfl; rfl
    exact ⟨by simp [], rfl⟩
  · simp -implicitDefEqProofs only [true_and, decide_false, forall_const, not_false_eq_true, false_implies, e]
    apply vend_of [0]; rfl; rfl
    exact ⟨by simp [], rfl⟩

theorem vc_lastN {α : Type} {enc : α → List D} {nm : α → ByteArray} {k : Nat} (hk : Knd α enc nm k) {tS tE tF : TypeId} {fl fB fI : FuncId} {zs : List L} (H : Lst tS tE tF fl fB fI k zs) {fc : FuncId} (hfc : FnOk Tryz.prog fc 8 (cEq tE) [.tmp 3]) (l : List α) (hl : l.length < 1000000000) (name : ByteArray) :
    VC Tryz.prog fl [.one (.d (.sl (l.map enc))), .one (.fn fc [.ptr 0 0])] [.box [.d (.str name)]] fun r h' => r = nearR enc zs (lastOf nm l name) ∧ h' = [.box [.d (.str name)]] := by
  rw [← last_nm hk zs l name]
  refine vc_lastG H (es := l.map enc) (fun x hx => ?_) (by simpa using hl) fc name _ (fun x hx => ?_)
  · obtain ⟨a, _, rfl⟩ := List.mem_map.1 hx
    exact hk.len a
  · obtain ⟨a, _, rfl⟩ := List.mem_map.1 hx
    obtain ⟨r, e⟩ := hk.head a
    rw [e]
    exact vc_eqG H hfc (nm a) r name

theorem nearR_len {α : Type} {enc : α → List D} {nm : α → ByteArray} {k : Nat} (hk : Knd α enc nm k) {zs : List L} (hz : zs.length = k) (hr : ∀ m, renL.renLs m zs = some zs) (hd : ∀ h ids, lendLs h ids zs = some zs) (o : Option α) :
    ∃ ls b, nearR enc zs o = .tup [.agg ls, .one (.d (.bool b))] ∧ ls.length = k ∧ (∀ m, renL.renLs m ls = some ls) ∧ (∀ h ids, lendLs h ids ls = some ls) := by
  cases o with
  | none => exact ⟨zs, false, rfl, hz, hr, hd⟩
  | some a =>
    refine ⟨(enc a).map .d, true, rfl, by rw [List.length_map, hk.len], fun m => ?_, fun h ids => lendLs_ds _⟩
    generalize enc a = x
    induction x with
    | nil => rfl
    | cons d r ih => simp only [List.map_cons, renL.renLs, ih]; rfl

/-- What stands last by name in a list of an environment. -/
theorem vc_nearG {α : Type} {enc : α → List D} {nm : α → ByteArray} {k : Nat} (hk : Knd α enc nm k) {tS tE tF : TypeId} {fl fB fI : FuncId} {zs : List L} (H : Lst tS tE tF fl fB fI k zs) {fc : FuncId} (hfc : FnOk Tryz.prog fc 8 (cEq tE) [.tmp 3]) {j : Nat} {fn : FuncId} (hfn : FnOk Tryz.prog fn 11 (cNear tE tS tF j fc fl) [.cell 3 tE, .tmp 4]) (nl : noEsc Tryz.prog fl = false)
    (l : List α) (hl : l.length < 1000000000) (name : ByteArray) {e0 e1 e2 e3 e4 e5 : L} (hj : [e0, e1, e2, e3, e4, e5][j]? = some (.d (.sl (l.map enc)))) (hrn : ∀ m, renL.renLs m [e0, e1, e2, e3, e4, e5] = some [e0, e1, e2, e3, e4, e5]) :
    VC Tryz.prog fn [.one (.d (.str name)), .one (.ptr 0 0)] [.box [e0, e1, e2, e3, e4, e5]] fun r h' => r = nearR enc zs (lastOf nm l name) ∧ h' = [.box [e0, e1, e2, e3, e4, e5]] := by
  refine H.E.elim fun bE g => g.elim fun fs g => ?_
  have hE := g.1
  refine H.S.elim fun bS g => g.elim fun zS g => g.elim fun eS g => ?_
  have hS := g.1
  have hbE := H.bE
  have hj6 : j < 6 := by have := (List.getElem?_eq_some_iff.1 hj).1; simpa using this
  obtain ⟨ls, b, e, hls, hr, hd⟩ := nearR_len hk H.zl H.zr H.zd (lastOf nm l name)
  have hlast := vc_lastN hk H hfc l hl name
  rw [e] at hlast ⊢
  refine VC_of_fn mixed hfn (by simp) ?_
  show vwp Tryz.prog 1 (cNear tE tS tF j fc fl) _ [(0, .one (.d (.str name))), (1, .one (.ptr 0 0))] [.box [e0, e1, e2, e3, e4, e5]]
  unfold cNear
  rw [vw_seq, vw_ops]
  refine vop_st (r := .one (.ptr 1 0)) (h' := [.box [e0, e1, e2, e3, e4, e5], .box [.d (.str name)]]) (by simp [vop, opd_tmp, known, vcells, bobj, bt9]) ?_
  refine vop_st (vop_alloc hE H.bE) ?_
  refine vop_st (r := .one (.d (.bool false))) (h' := [.box [e0, e1, e2, e3, e4, e5], .box [.d (.str name)], .box zs]) rfl ?_
  rw [vops_nil, vt_normal, vw_seq, vw_ops]
  refine vop_st (r := .one (.ptr 0 j)) (h' := [.box [e0, e1, e2, e3, e4, e5], .box [.d (.str name)], .box zs]) ?_ ?_
  · simp only [vop, ti52, opd_tmp, put_some, lk_cons, Nat.reduceBEq, cond_true, cond_false]
    rcases j with _ | _ | _ | _ | _ | _ | j
    all_goals first | omega | simp [vfieldAddr]
  refine vop_st (r := .one (.d (.sl (l.map enc)))) (h' := [.box [e0, e1, e2, e3, e4, e5], .box [.d (.str name)], .box zs]) ?_ ?_
  · simp only [vop, hS, opd_tmp, put_some, lk_cons, Nat.reduceBEq, cond_true, cond_false]
    rcases j with _ | _ | _ | _ | _ | _ | j
    all_goals first | omega | (simp at hj; subst hj; simp [vload, mkV])
  refine vop_st (r := .one (.fn fc [.ptr 1 0])) (h' := [.box [e0, e1, e2, e3, e4, e5], .box [.d (.str name)], .box zs]) rfl ?_
  refine vcall_st (f' := fl) (caps := []) (vs := [.one (.d (.sl (l.map enc))), .one (.fn fc [.ptr 1 0])]) nl rfl rfl rfl ?_
  refine callS [1] hlast rfl rfl rfl ?_
  rintro _ _ ⟨rfl, rfl⟩
  refine ⟨.tup [.agg ls, .one (.d (.bool b))], [.box [e0, e1, e2, e3, e4, e5], .box [.d (.str name)], .box zs], ?_, ?_⟩
  · simp [back, lentVs, lentV, lentL, renV, renV.renVs, hr, renL, renOs, renO, renL.renLs, putBack, fzIds]
  rw [kn_run]
  refine vop_st (r := .agg ls) (h' := [.box [e0, e1, e2, e3, e4, e5], .box [.d (.str name)], .box zs]) rfl ?_
  refine vop_st (r := .one (.d (.bool b))) (h' := [.box [e0, e1, e2, e3, e4, e5], .box [.d (.str name)], .box zs]) rfl ?_
  refine vop_st (vop_store (id := 2) (ls := ls) (l0 := zs) hE rfl rfl rfl hls H.zl) ?_
  refine vop_st (r := .one (.d (.bool b))) (h' := [.box [e0, e1, e2, e3, e4, e5], .box [.d (.str name)], .box ls]) rfl ?_
  rw [vops_nil, vt_normal, vw_ret]
  refine vend_of (vs := [.agg ls, .one (.d (.bool b))]) (r := .tup [.agg ls, .one (.d (.bool b))]) (hs := [.box [e0, e1, e2, e3, e4, e5]]) [0] ?_ ?_ ⟨rfl, rfl⟩
  · simp [vres, hE, lk_cons, put_some, put_none, vload, mkV, hls]
    rw [List.take_of_length_le (by omega)]
  · simp [fin, nodup, handO, lendR, lendVs, lendV, hd, lendL, idx, vone, renL, renO, hrn]

end Go.Vt.Tryz
