/- The environment: values and types at a path. -/
import Derived.Test.YtdabfkmhkoppcaaGreatDoorVtL6
set_option maxRecDepth 100000
set_option linter.unusedSimpArgs false
namespace Go.Vt.Tryz
open Go.Vt renaming opsW_nil → J6, opsW_cons → J7, again_nil → J8, again_cons → J9, obOf_nil → Ja, obOf_cons → Jb, wadd → Jc, ro → Jd, ob_some → Jm, vif_tt → Jp, vif_ff → Jq, wp_ops → Jv, wp_opsW → Jw, wp_seq → Jy, wp_ret → JC, th_normal → JD, ops_nil → JJ, ops_cons → JK, go_none → JL, put_some → JP, put_none → JQ, asL → JS, asFn → JU, opd_tmp → JV, opd_bool → JX, opd_func → J12, so_move → J13, so_assign → J14, so_box → J16, so_makeFunc → J1a, so_extract → J1b, so_call → J1e, esc_func → J1g, bobj_none → J1h, lk_cons → J1i, so_alloc → J1o, so_fieldAddr → J1p, so_load → J1q, so_store → J1r, so_build → J1s, vload → J1t, mkV → J1u, vstore → J1v, vcells → J1w, known → J1x, toDs → J1y, toD → J1z, fzLs → J1A, fzL → J1B, splice → J1D, vfieldAddr → J1E, vbuild → J1G, vfill → J1H, opds → J1N, opdPairs → J1O, vcaps → J1Y, putBack → J2r, fzIds → J2s, lentVs → J2t, lentV → J2u, lentLs → J2v, lentL → J2w
open List renaming any_cons → Je, any_nil → Jf, contains_cons → Jg, contains_nil → Jh, lookup_nil → J2y, getElem?_cons_zero → J2z, getElem?_cons_succ → J2A, take_succ_cons → J2C, take_zero → J2D, take_nil → J2E, drop_succ_cons → J2F, drop_zero → J2G, drop_nil → J2H, length_cons → J2I, length_nil → J2J, append_nil → J2K, nil_append → J2L, cons_append → J2M, map_nil → J2O, set_cons_zero → J2P, set_cons_succ → J2Q, all_nil → J2T
open Bool renaming or_true → Ji, or_false → Jk, and_true → J2V, false_eq_true → J39
open Nat renaming reduceBEq → J2X, reduceLeDiff → J30, reduceAdd → J31, zero_add → J3c, le_refl → J3d, add_zero → J3e
open Option renaming map_some → J34, bind_some → J36
open Go.Proofs

/-- What stands at a path (its last name first). -/
def atP {α : Type} (nm : α → ByteArray) (l : List α) (subs : List SubE) (far : ByteArray → SubE → Option α) : List ByteArray → Option α
  | [] => none
  | [s] => lastOf nm l s
  | s :: t :: r => (subAt subs (t :: r)).bind (far s)

section
variable {α : Type} {enc : α → List D} {nm : α → ByteArray} {k : Nat} {tS tE tF : TypeId} {fl fB fI : FuncId} {zs : List L} {d0 d1 d2 d4 d5 : D}

theorem vc_At {tN tR : TypeId} {fc fn fo ff fv : FuncId} {j : Nat} (hk : Knd α enc nm k) (H : Lst tS tE tF fl fB fI k zs) (Q : Kin tS tE tF tN tR fl fB fI fc fn fo ff fv j)
    (l : List α) (hl : l.length < 1000000000) {subs : List SubE} (hs : subs.length < 1000000000) (hB : ∀ x ∈ subs, stn x.2.1 ≤ 999999990) (hj : [L.d d0, .d d1, .d d2, .d (.sl (subs.map encSub)), .d d4, .d d5][j]? = some (.d (.sl (l.map enc))))
    (far : ByteArray → SubE → Option α) (hfar : ∀ x s, stn x.2.1 ≤ 999999990 → VC Tryz.prog ff [.agg ((encSub x).map .d), .one (.d (.str s))] [] fun r h' => FarR enc k (far s x) r ∧ h' = []) (p : List ByteArray) (hp : p.length < 1000000000) :
    VC Tryz.prog fv [.agg [.d d0, .d d1, .d d2, .d (.sl (subs.map encSub)), .d d4, .d d5], .one (.d (.sl (txts p.reverse)))] [] fun r h' => r = resR enc zs (atP nm l subs far p) ∧ h' = [] := by
  have := vc_wholeG (d0 := d0) (d1 := d1) (d2 := d2) (d3 := .sl (subs.map encSub)) (d4 := d4) (d5 := d5) hk H Q p.reverse (by simpa using hp) l hl hj (subAt subs p.tail) (fun _ => by
    rw [show p.reverse.dropLast = p.tail.reverse by cases p <;> simp]
    exact vc_Sub hs hB p.tail (by rw [List.length_tail]; omega)) far (fun x s h => hfar x s (subAt_small hB p.tail x h))
  rw [lookS_rev subs (lastOf nm l (p.reverse.headD ByteArray.empty)) far p] at this
  rcases p with _ | ⟨s, _ | ⟨t, r⟩⟩
  · exact this
  · exact this
  · exact this
end

/-! ### Values -/

abbrev ValE := ByteArray × Sc × Tm
def encVal (x : ValE) : List D := .str x.1 :: (encSc x.2.1 ++ encTm x.2.2)
theorem kndVal : Knd ValE encVal (·.1) 12 := ⟨fun a => ⟨_, rfl⟩, fun a => by obtain ⟨n, ⟨a, ⟨b, c, d⟩⟩, ⟨f, g, h, i, j, k, l⟩⟩ := a; rfl⟩
theorem kndVam : Knd Vam encVam (·.name) 5 := ⟨fun a => ⟨_, rfl⟩, fun a => by obtain ⟨n, ⟨a, ⟨b, c, d⟩⟩⟩ := a; rfl⟩
def farVal (s : ByteArray) (x : SubE) : Option ValE := (lastOf (·.name) x.2.1.vals s).map fun m => (s, m.s, selT s x.2.2)

def z39 : List L := [L.d (D.str (ByteArray.mk (Array.mk []))), L.d (D.int IntKind.i64 (0)), L.d (D.int IntKind.i64 (0)), L.d (D.int IntKind.i64 (0)), L.nils, L.d (D.int IntKind.i64 (0)), L.d (D.int IntKind.i64 (0)), L.d (D.int IntKind.i64 (0)), L.d (D.str (ByteArray.mk (Array.mk []))), L.nils, L.nils, L.nils]
theorem lst39 : Lst 45 42 123 39 112 168 12 z39 where
  S := ⟨_, _, _, ti45, rfl⟩
  E := ⟨_, _, ti42, rfl⟩
  F := ⟨_, ti123⟩
  bS := bt45
  bE := bt42
  bF := bt123
  last := fn39
  back := fn112
  itr := ⟨Tryz.f168, _, Tryz.func168, rfl, rfl, rfl, by kernel_rfl, by kernel_rfl, rfl⟩
  nB := by kernel_rfl
  zl := rfl
  zr := fun _ => rfl
  zd := fun _ _ => rfl

def z42 : List L := [L.d (D.str (ByteArray.mk (Array.mk []))), L.d (D.int IntKind.i64 (0)), L.d (D.int IntKind.i64 (0)), L.d (D.int IntKind.i64 (0)), L.nils]
theorem lst42 : Lst 60 126 129 42 113 169 5 z42 where
  S := ⟨_, _, _, ti60, rfl⟩
  E := ⟨_, _, ti126, rfl⟩
  F := ⟨_, ti129⟩
  bS := bt60
  bE := bt126
  bF := bt129
  last := fn42
  back := fn113
  itr := ⟨Tryz.f169, _, Tryz.func169, rfl, rfl, rfl, by kernel_rfl, by kernel_rfl, rfl⟩
  nB := by kernel_rfl
  zl := rfl
  zr := fun _ => rfl
  zd := fun _ _ => rfl

theorem kinVal : Kin 45 42 123 124 131 39 112 168 40 38 37 41 10 0 where
  eq := fn40
  near := fn38
  look := fn37
  whole := fn10
  nl := by kernel_rfl
  no := by kernel_rfl

theorem vc_farVal (x : SubE) (s : ByteArray) (hx : stn x.2.1 ≤ 999999990) : VC Tryz.prog 41 [.agg ((encSub x).map .d), .one (.d (.str s))] [] fun r h' => FarR encVal 12 (farVal s x) r ∧ h' = [] := by
  have hx := (subs_small hx).2.1
  obtain ⟨xn, ⟨x1, x2, x3, x4, x5⟩, ⟨y1, y2, y3, y4, y5, y6, y7⟩⟩ := x
  have hl := vc_lastN kndVam lst42 fn43 x2 (by simp only [Stx.vals] at hx; omega) s
  simp only [encSub, encSt, encTm, List.map_cons, List.map_nil, List.cons_append, List.nil_append]
  have hsel := vc_sel s (.mk y1 y2 y3 y4 y5 y6 y7)
  simp only [tmV, encTm, List.map_cons, List.map_nil, selT] at hsel
  refine VC_of_fn mixed fn41 (by simp) ?_
  show vwp Tryz.prog 0 vc41 _ [(0, .agg [.d (.str xn), .d (.sl (x1.map encTym)), .d (.sl (x2.map encVam)), .d (.sl (encSt.subs x3)), .d (.sl (encSt.funs x4)), .d (.sl (encSt.sigs x5)), .d (.int .i64 y1), .d (.int .i64 y2), .d (.int .i64 y3), .d (.str y4), .d (.sl (txts y5)), .d (.sl (encTt.encs y6)), .d (.sl (encTm.encs y7))]), (1, .one (.d (.str s)))] []
  unfold vc41
  rw [vwpI_eq]
  simp -implicitDefEqProofs only [Jg, Jh, Jk, Jm, Jp, Jv, Jy, JD, JJ, JK, JL, JP, JS, JU, JV, JX, J12, J14, J16, J1a, J1e, J1g, noescs, Jg, J1h, J1i, bt9, bt67, bt42, J1o ti42, J1p ti65 rfl, J1p ti67 rfl, J1q ti60, J1t, J1u, J1w, J1x, J1E, J1N, J1Y, J2y, J2z, J2A, J2F, J2G, J2I, J2J, J2K, J2L, J2M, J2O, J2T, J2V, J2X, J30, J31, ↓reduceIte, reduceCtorEq, beq_self_eq_true, cond_true, cond_false, J34, J36, J39, eq_self, J3c]
  cases e : lastOf (·.name) x2 s with
  | none =>
    rw [e] at hl
    simp only [nearR, z42] at hl
    refine callS [1] (hl) rfl rfl rfl ?_
    rintro _ _ ⟨rfl, rfl⟩
    refine ⟨_, _, rfl, ?_⟩
    simp -implicitDefEqProofs only [J7, Jc, Jd, Je, Jf, Jg, Jh, Ji, Jk, Jm, Jp, Jq, Jw, Jy, JD, JJ, JK, JL, JP, JQ, JS, JU, JV, J12, J13, J14, J1b, J1e, J1g, noescs, Jg, J1h, J1i, bt126, J1o ti126, J1p ti67 rfl, J1p ti126 rfl, J1q ti9, J1q ti34, J1q ti39, J1r ti126, J1t, J1u, J1v, J1w, J1x, J1y, J1z, J1A, J1B, J1D, J1E, J1N, J2r, J2s, J2t, J2u, J2w, J2y, J2z, J2A, J2C, J2D, J2E, J2F, J2G, J2H, J2I, J2J, J2K, J2L, J2M, J2O, J2P, J2Q, J2T, J2V, J2X, J30, J31, ↓reduceIte, reduceCtorEq, beq_self_eq_true, cond_true, cond_false, J34, J36, J39, eq_self, J3c, J3d]
    refine callS [] (hsel) rfl rfl rfl ?_
    rintro _ _ ⟨rfl, rfl⟩
    refine ⟨_, _, rfl, ?_⟩
    simp -implicitDefEqProofs only [J6, J7, J8, J9, Ja, Jb, Jc, Jd, Je, Jf, Jg, Jh, Ji, Jk, Jm, Jp, Jq, JC, JD, JL, JP, JQ, JS, JV, J14, Jg, J1i, J1p ti126 rfl, J1q ti9, J1q ti34, J1r ti42, J1s ti42, J1t, J1u, J1v, J1w, J1x, J1y, J1z, J1A, J1B, J1D, J1E, J1G, J1H, J1O, J2r, J2s, J2t, J2u, J2v, J2w, J2y, J2z, J2A, J2C, J2D, J2E, J2F, J2G, J2H, J2I, J2J, J2K, J2L, J2M, J2P, J2Q, J2X, J30, J31, ↓reduceIte, reduceCtorEq, beq_self_eq_true, cond_true, cond_false, true_and, and_self, J34, J36, J39, eq_self, J3c, J3d]
    apply vend_of []; rfl; rfl
    rw [show farVal s (xn, .mk x1 x2 x3 x4 x5, .mk y1 y2 y3 y4 y5 y6 y7) = none by simp [farVal, Stx.vals, e]]
    exact ⟨⟨_, _, rfl, rfl, fun _ => rfl, rfl⟩, rfl⟩
  | some m =>
    rw [e] at hl
    obtain ⟨mn, ⟨m1, ⟨m2, m3, m4⟩⟩⟩ := m
    simp only [nearR, encVam, encSc, encTy, List.map_cons, List.map_nil] at hl
    refine callS [1] (hl) rfl rfl rfl ?_
    rintro _ _ ⟨rfl, rfl⟩
    refine ⟨_, _, rfl, ?_⟩
    simp -implicitDefEqProofs only [J7, Jc, Jd, Je, Jf, Jg, Jh, Ji, Jk, Jm, Jp, Jq, Jw, Jy, JD, JJ, JK, JL, JP, JQ, JS, JU, JV, J12, J13, J14, J1b, J1e, J1g, noescs, Jg, J1h, J1i, bt126, J1o ti126, J1p ti67 rfl, J1p ti126 rfl, J1q ti9, J1q ti34, J1q ti39, J1r ti126, J1t, J1u, J1v, J1w, J1x, J1y, J1z, J1A, J1B, J1D, J1E, J1N, J2r, J2s, J2t, J2u, J2w, J2y, J2z, J2A, J2C, J2D, J2E, J2F, J2G, J2H, J2I, J2J, J2K, J2L, J2M, J2O, J2P, J2Q, J2T, J2V, J2X, J30, J31, ↓reduceIte, reduceCtorEq, beq_self_eq_true, cond_true, cond_false, J34, J36, J39, eq_self, J3c, J3d]
    refine callS [] (hsel) rfl rfl rfl ?_
    rintro _ _ ⟨rfl, rfl⟩
    refine ⟨_, _, rfl, ?_⟩
    simp -implicitDefEqProofs only [J6, J7, J8, J9, Ja, Jb, Jc, Jd, Je, Jf, Jg, Jh, Ji, Jk, Jm, Jp, Jq, JC, JD, JL, JP, JQ, JS, JV, J14, Jg, J1i, J1p ti126 rfl, J1q ti9, J1q ti34, J1r ti42, J1s ti42, J1t, J1u, J1v, J1w, J1x, J1y, J1z, J1A, J1B, J1D, J1E, J1G, J1H, J1O, J2r, J2s, J2t, J2u, J2v, J2w, J2y, J2z, J2A, J2C, J2D, J2E, J2F, J2G, J2H, J2I, J2J, J2K, J2L, J2M, J2P, J2Q, J2X, J30, J31, ↓reduceIte, reduceCtorEq, beq_self_eq_true, cond_true, cond_false, true_and, and_self, J34, J36, J39, eq_self, J3c, J3d]
    apply vend_of []; rfl; rfl
    rw [show farVal s (xn, .mk x1 x2 x3 x4 x5, .mk y1 y2 y3 y4 y5 y6 y7) = some (s, ⟨m1, .mk m2 m3 m4⟩, selT s (.mk y1 y2 y3 y4 y5 y6 y7)) by simp [farVal, Stx.vals, e]]
    exact ⟨⟨_, _, rfl, rfl, fun _ => rfl, rfl, rfl⟩, rfl⟩

/-! ### Types -/

theorem kndTym : Knd Tym encTym (·.name) 5 := ⟨fun a => ⟨_, rfl⟩, fun a => by obtain ⟨n, ⟨b, c, d⟩, e⟩ := a; rfl⟩
abbrev encTyp := encTym
def farTyp (s : ByteArray) (x : SubE) : Option Tym := (lastOf (·.name) x.2.1.types s).map fun m => ⟨s, m.t, m.cts⟩

def z56 : List L := [L.d (D.str (ByteArray.mk (Array.mk []))), L.d (D.int IntKind.i64 (0)), L.d (D.int IntKind.i64 (0)), L.nils, L.nils]
theorem lst56 : Lst 47 72 148 56 117 179 5 z56 where
  S := ⟨_, _, _, ti47, rfl⟩
  E := ⟨_, _, ti72, rfl⟩
  F := ⟨_, ti148⟩
  bS := bt47
  bE := bt72
  bF := bt148
  last := fn56
  back := fn117
  itr := ⟨Tryz.f179, _, Tryz.func179, rfl, rfl, rfl, by kernel_rfl, by kernel_rfl, rfl⟩
  nB := by kernel_rfl
  zl := rfl
  zr := fun _ => rfl
  zd := fun _ _ => rfl

def z59 : List L := [L.d (D.str (ByteArray.mk (Array.mk []))), L.d (D.int IntKind.i64 (0)), L.d (D.int IntKind.i64 (0)), L.nils, L.nils]
theorem lst59 : Lst 59 133 152 59 118 180 5 z59 where
  S := ⟨_, _, _, ti59, rfl⟩
  E := ⟨_, _, ti133, rfl⟩
  F := ⟨_, ti152⟩
  bS := bt59
  bE := bt133
  bF := bt152
  last := fn59
  back := fn118
  itr := ⟨Tryz.f180, _, Tryz.func180, rfl, rfl, rfl, by kernel_rfl, by kernel_rfl, rfl⟩
  nB := by kernel_rfl
  zl := rfl
  zr := fun _ => rfl
  zd := fun _ _ => rfl

theorem kinTyp : Kin 47 72 148 149 153 56 117 179 57 55 54 58 15 2 where
  eq := fn57
  near := fn55
  look := fn54
  whole := fn15
  nl := by kernel_rfl
  no := by kernel_rfl

theorem vc_farTyp (x : SubE) (s : ByteArray) (hx : stn x.2.1 ≤ 999999990) : VC Tryz.prog 58 [.agg ((encSub x).map .d), .one (.d (.str s))] [] fun r h' => FarR encTyp 5 (farTyp s x) r ∧ h' = [] := by
  have hx := (subs_small hx).2.2.1
  obtain ⟨xn, ⟨x1, x2, x3, x4, x5⟩, ⟨y1, y2, y3, y4, y5, y6, y7⟩⟩ := x
  have hl := vc_lastN kndTym lst59 fn60 x1 (by simp only [Stx.types] at hx; omega) s
  simp only [encSub, encSt, encTm, List.map_cons, List.map_nil, List.cons_append, List.nil_append]
  refine VC_of_fn mixed fn58 (by simp) ?_
  show vwp Tryz.prog 0 vc58 _ [(0, .agg [.d (.str xn), .d (.sl (x1.map encTym)), .d (.sl (x2.map encVam)), .d (.sl (encSt.subs x3)), .d (.sl (encSt.funs x4)), .d (.sl (encSt.sigs x5)), .d (.int .i64 y1), .d (.int .i64 y2), .d (.int .i64 y3), .d (.str y4), .d (.sl (txts y5)), .d (.sl (encTt.encs y6)), .d (.sl (encTm.encs y7))]), (1, .one (.d (.str s)))] []
  unfold vc58
  rw [vwpI_eq]
  simp -implicitDefEqProofs only [Jg, Jh, Jk, Jm, Jp, Jv, Jy, JD, JJ, JK, JL, JP, JS, JU, JV, JX, J12, J14, J16, J1a, J1e, J1g, noescs, Jg, J1h, J1i, bt9, bt67, bt72, J1o ti72, J1p ti65 rfl, J1p ti67 rfl, J1q ti59, J1t, J1u, J1w, J1x, J1E, J1N, J1Y, J2y, J2z, J2A, J2F, J2G, J2I, J2J, J2K, J2L, J2M, J2O, J2T, J2V, J2X, J30, J31, ↓reduceIte, reduceCtorEq, beq_self_eq_true, cond_true, cond_false, J34, J36, J39, eq_self, J3c, J3e]
  cases e : lastOf (·.name) x1 s with
  | none =>
    rw [e] at hl
    simp only [nearR, z59] at hl
    refine callS [1] (hl) rfl rfl rfl ?_
    rintro _ _ ⟨rfl, rfl⟩
    refine ⟨_, _, rfl, ?_⟩
    simp -implicitDefEqProofs only [Jm, Jv, Jy, JC, JD, JJ, JK, JL, JP, JQ, JS, JV, J13, J14, J1b, J1h, J1i, bt133, J1o ti133, J1p ti133 rfl, J1q ti9, J1q ti32, J1q ti70, J1r ti72, J1r ti133, J1s ti72, J1t, J1u, J1v, J1w, J1x, J1y, J1z, J1A, J1B, J1D, J1E, J1G, J1H, J1O, J2r, J2s, J2t, J2u, J2w, J2y, J2z, J2A, J2C, J2D, J2E, J2F, J2G, J2H, J2I, J2J, J2K, J2L, J2M, J2P, J2Q, J2X, J30, J31, ↓reduceIte, reduceCtorEq, beq_self_eq_true, cond_true, cond_false, and_self, J34, J36, J39, eq_self, J3c, J3d]
    apply vend_of []; rfl; rfl
    rw [show farTyp s (xn, .mk x1 x2 x3 x4 x5, .mk y1 y2 y3 y4 y5 y6 y7) = none by simp [farTyp, Stx.types, e]]
    exact ⟨⟨_, _, rfl, rfl, fun _ => rfl, rfl⟩, rfl⟩
  | some m =>
    rw [e] at hl
    obtain ⟨mn, ⟨m2, m3, m4⟩, m5⟩ := m
    simp only [nearR, encTym, encTy, List.map_cons, List.map_nil, List.cons_append, List.nil_append] at hl
    refine callS [1] (hl) rfl rfl rfl ?_
    rintro _ _ ⟨rfl, rfl⟩
    refine ⟨_, _, rfl, ?_⟩
    simp -implicitDefEqProofs only [Jm, Jv, Jy, JC, JD, JJ, JK, JL, JP, JQ, JS, JV, J13, J14, J1b, J1h, J1i, bt133, J1o ti133, J1p ti133 rfl, J1q ti9, J1q ti32, J1q ti70, J1r ti72, J1r ti133, J1s ti72, J1t, J1u, J1v, J1w, J1x, J1y, J1z, J1A, J1B, J1D, J1E, J1G, J1H, J1O, J2r, J2s, J2t, J2u, J2w, J2y, J2z, J2A, J2C, J2D, J2E, J2F, J2G, J2H, J2I, J2J, J2K, J2L, J2M, J2P, J2Q, J2X, J30, J31, ↓reduceIte, reduceCtorEq, beq_self_eq_true, cond_true, cond_false, and_self, J34, J36, J39, eq_self, J3c, J3d]
    apply vend_of []; rfl; rfl
    rw [show farTyp s (xn, .mk x1 x2 x3 x4 x5, .mk y1 y2 y3 y4 y5 y6 y7) = some ⟨s, .mk m2 m3 m4, m5⟩ by simp [farTyp, Stx.types, e]]
    exact ⟨⟨_, _, rfl, rfl, fun _ => rfl, rfl, rfl⟩, rfl⟩

end Go.Vt.Tryz
