/- The environment: functors and signatures at a path. -/
import Derived.Test.YtdabfkmhkoppcaaGreatDoorVtL9
set_option maxRecDepth 100000
set_option linter.unusedSimpArgs false
namespace Go.Vt.Tryz
open Go.Vt renaming opsW_nil → J6, opsW_cons → J7, again_nil → J8, again_cons → J9, obOf_nil → Ja, obOf_cons → Jb, wadd → Jc, ro → Jd, ob_some → Jm, vif_tt → Jp, vif_ff → Jq, wp_ops → Jv, wp_opsW → Jw, wp_seq → Jy, wp_ret → JC, th_normal → JD, ops_nil → JJ, ops_cons → JK, go_none → JL, put_some → JP, put_none → JQ, asL → JS, asFn → JU, opd_tmp → JV, opd_bool → JX, opd_func → J12, so_move → J13, so_assign → J14, so_box → J16, so_makeFunc → J1a, so_extract → J1b, so_call → J1e, esc_func → J1g, bobj_none → J1h, lk_cons → J1i, so_alloc → J1o, so_fieldAddr → J1p, so_load → J1q, so_store → J1r, so_build → J1s, vload → J1t, mkV → J1u, vstore → J1v, vcells → J1w, known → J1x, toDs → J1y, toD → J1z, fzLs → J1A, fzL → J1B, splice → J1D, vfieldAddr → J1E, vbuild → J1G, vfill → J1H, opds → J1N, opdPairs → J1O, vcaps → J1Y, putBack → J2r, fzIds → J2s, lentVs → J2t, lentV → J2u, lentLs → J2v, lentL → J2w
open List renaming any_cons → Je, any_nil → Jf, contains_cons → Jg, contains_nil → Jh, lookup_nil → J2y, getElem?_cons_zero → J2z, getElem?_cons_succ → J2A, take_succ_cons → J2C, take_zero → J2D, take_nil → J2E, drop_succ_cons → J2F, drop_zero → J2G, drop_nil → J2H, length_cons → J2I, length_nil → J2J, append_nil → J2K, nil_append → J2L, cons_append → J2M, map_nil → J2O, set_cons_zero → J2P, set_cons_succ → J2Q, all_nil → J2T
open Bool renaming or_true → Ji, or_false → Jk, and_true → J2V, false_eq_true → J39
open Nat renaming reduceBEq → J2X, reduceLeDiff → J30, reduceAdd → J31, zero_add → J3c, le_refl → J3d
open Option renaming map_some → J34, bind_some → J36
open Go.Proofs

def encFm (m : ByteArray × FnE) : List D := .str m.1 :: encFn m.2
def encAb (x : List Int × Stx) : List D := .sl (nums x.1) :: encSt x.2
theorem encFuns_m : ∀ l, encSt.funs l = l.map encFm
  | [] => rfl
  | (s, l, x, m, y) :: r => by simp [encSt.funs, encFuns_m r, encFm, encFn]
theorem encSigs_m : ∀ l, encSt.sigs l = l.map encSig
  | [] => rfl
  | (s, l, x) :: r => by simp [encSt.sigs, encSigs_m r, encSig]

theorem kndFun : Knd FunE encFun (·.1) 20 := ⟨fun a => ⟨_, rfl⟩, fun a => by obtain ⟨n, ⟨l1, ⟨a, b, c, d, e⟩, l2, ⟨a', b', c', d', e'⟩⟩, ⟨f, g, h, i, j, k, l⟩⟩ := a; rfl⟩
theorem kndFm : Knd (ByteArray × FnE) encFm (·.1) 13 := ⟨fun a => ⟨_, rfl⟩, fun a => by obtain ⟨n, ⟨l1, ⟨a, b, c, d, e⟩, l2, ⟨a', b', c', d', e'⟩⟩⟩ := a; rfl⟩
theorem kndSig : Knd SigE encSig (·.1) 7 := ⟨fun a => ⟨_, rfl⟩, fun a => by obtain ⟨n, l1, ⟨a, b, c, d, e⟩⟩ := a; rfl⟩

def farFun (s : ByteArray) (x : SubE) : Option FunE := (lastOf (·.1) x.2.1.funs s).map fun m => (s, m.2, selT s x.2.2)
def farSig (s : ByteArray) (x : SubE) : Option SigE := (lastOf (·.1) x.2.1.sigs s).map fun m => (s, m.2)

def z69 : List L := [L.d (D.str (ByteArray.mk (Array.mk []))), L.nils, L.nils, L.nils, L.nils, L.nils, L.nils, L.nils, L.nils, L.nils, L.nils, L.nils, L.nils, L.d (D.int IntKind.i64 (0)), L.d (D.int IntKind.i64 (0)), L.d (D.int IntKind.i64 (0)), L.d (D.str (ByteArray.mk (Array.mk []))), L.nils, L.nils, L.nils]
theorem lst69 : Lst 49 91 166 69 120 181 20 z69 where
  S := ⟨_, _, _, ti49, rfl⟩
  E := ⟨_, _, ti91, rfl⟩
  F := ⟨_, ti166⟩
  bS := bt49
  bE := bt91
  bF := bt166
  last := fn69
  back := fn120
  itr := ⟨Tryz.f181, _, Tryz.func181, rfl, rfl, rfl, by kernel_rfl, by kernel_rfl, rfl⟩
  nB := by kernel_rfl
  zl := rfl
  zr := fun _ => rfl
  zd := fun _ _ => rfl

def z72 : List L := [L.d (D.str (ByteArray.mk (Array.mk []))), L.nils, L.nils, L.nils, L.nils, L.nils, L.nils, L.nils, L.nils, L.nils, L.nils, L.nils, L.nils]
theorem lst72 : Lst 62 161 170 72 121 182 13 z72 where
  S := ⟨_, _, _, ti62, rfl⟩
  E := ⟨_, _, ti161, rfl⟩
  F := ⟨_, ti170⟩
  bS := bt62
  bE := bt161
  bF := bt170
  last := fn72
  back := fn121
  itr := ⟨Tryz.f182, _, Tryz.func182, rfl, rfl, rfl, by kernel_rfl, by kernel_rfl, rfl⟩
  nB := by kernel_rfl
  zl := rfl
  zr := fun _ => rfl
  zd := fun _ _ => rfl

theorem kinFun : Kin 49 91 166 167 171 69 120 181 70 68 67 71 21 4 where
  eq := fn70
  near := fn68
  look := fn67
  whole := fn21
  nl := by kernel_rfl
  no := by kernel_rfl

theorem vc_farFun (x : SubE) (s : ByteArray) (hx : stn x.2.1 ≤ 999999990) : VC Tryz.prog 71 [.agg ((encSub x).map .d), .one (.d (.str s))] [] fun r h' => FarR encFun 20 (farFun s x) r ∧ h' = [] := by
  have hx := (subs_small hx).2.2.2.1
  obtain ⟨xn, ⟨x1, x2, x3, x4, x5⟩, ⟨y1, y2, y3, y4, y5, y6, y7⟩⟩ := x
  have hl := vc_lastN kndFm lst72 fn73 x4 (by simp only [Stx.funs] at hx; omega) s
  rw [← encFuns_m] at hl
  simp only [encSub, encSt, encTm, List.map_cons, List.map_nil, List.cons_append, List.nil_append]
  have hsel := vc_sel s (.mk y1 y2 y3 y4 y5 y6 y7)
  simp only [tmV, encTm, List.map_cons, List.map_nil, selT] at hsel
  refine VC_of_fn mixed fn71 (by simp) ?_
  show vwp Tryz.prog 0 vc71 _ [(0, .agg [.d (.str xn), .d (.sl (x1.map encTym)), .d (.sl (x2.map encVam)), .d (.sl (encSt.subs x3)), .d (.sl (encSt.funs x4)), .d (.sl (encSt.sigs x5)), .d (.int .i64 y1), .d (.int .i64 y2), .d (.int .i64 y3), .d (.str y4), .d (.sl (txts y5)), .d (.sl (encTt.encs y6)), .d (.sl (encTm.encs y7))]), (1, .one (.d (.str s)))] []
  unfold vc71
  rw [vwpI_eq]
  simp -implicitDefEqProofs only [Jg, Jh, Jk, Jm, Jp, Jv, Jy, JD, JJ, JK, JL, JP, JS, JU, JV, JX, J12, J14, J16, J1a, J1e, J1g, noescs, Jg, J1h, J1i, bt9, bt67, bt91, J1o ti91, J1p ti65 rfl, J1p ti67 rfl, J1q ti62, J1t, J1u, J1w, J1x, J1E, J1N, J1Y, J2y, J2z, J2A, J2F, J2G, J2I, J2J, J2K, J2L, J2M, J2O, J2T, J2V, J2X, J30, J31, ↓reduceIte, reduceCtorEq, beq_self_eq_true, cond_true, cond_false, J34, J36, J39, eq_self, J3c]
  cases e : lastOf (·.1) x4 s with
  | none =>
    rw [e] at hl
    simp only [nearR, z72] at hl
    refine callS [1] (hl) rfl rfl rfl ?_
    rintro _ _ ⟨rfl, rfl⟩
    refine ⟨_, _, rfl, ?_⟩
    simp -implicitDefEqProofs only [J7, Jc, Jd, Je, Jf, Jg, Jh, Ji, Jk, Jm, Jp, Jq, Jw, Jy, JD, JJ, JK, JL, JP, JQ, JS, JU, JV, J12, J13, J14, J1b, J1e, J1g, noescs, Jg, J1h, J1i, bt161, J1o ti161, J1p ti67 rfl, J1p ti161 rfl, J1q ti9, J1q ti39, J1q ti89, J1r ti161, J1t, J1u, J1v, J1w, J1x, J1y, J1z, J1A, J1B, J1D, J1E, J1N, J2r, J2s, J2t, J2u, J2w, J2y, J2z, J2A, J2C, J2D, J2E, J2F, J2G, J2H, J2I, J2J, J2K, J2L, J2M, J2O, J2P, J2Q, J2T, J2V, J2X, J30, J31, ↓reduceIte, reduceCtorEq, beq_self_eq_true, cond_true, cond_false, J34, J36, J39, eq_self, J3c, J3d]
    refine callS [] (hsel) rfl rfl rfl ?_
    rintro _ _ ⟨rfl, rfl⟩
    refine ⟨_, _, rfl, ?_⟩
    simp -implicitDefEqProofs only [J6, J7, J8, J9, Ja, Jb, Jc, Jd, Je, Jf, Jg, Jh, Ji, Jk, Jm, Jp, Jq, JC, JD, JL, JP, JQ, JS, JV, J14, Jg, J1i, J1p ti161 rfl, J1q ti9, J1q ti89, J1r ti91, J1s ti91, J1t, J1u, J1v, J1w, J1x, J1y, J1z, J1A, J1B, J1D, J1E, J1G, J1H, J1O, J2r, J2s, J2t, J2u, J2v, J2w, J2y, J2z, J2A, J2C, J2D, J2E, J2F, J2G, J2H, J2I, J2J, J2K, J2L, J2M, J2P, J2Q, J2X, J30, J31, ↓reduceIte, reduceCtorEq, beq_self_eq_true, cond_true, cond_false, true_and, and_self, J34, J36, J39, eq_self, J3c, J3d]
    apply vend_of []; rfl; rfl
    rw [show farFun s (xn, .mk x1 x2 x3 x4 x5, .mk y1 y2 y3 y4 y5 y6 y7) = none by simp [farFun, Stx.funs, e]]
    exact ⟨⟨_, _, rfl, rfl, fun _ => rfl, rfl⟩, rfl⟩
  | some m =>
    rw [e] at hl
    obtain ⟨mn, l1, ⟨m1, m2, m3, m4, m5⟩, l2, ⟨q1, q2, q3, q4, q5⟩⟩ := m
    simp only [nearR, encFm, encFn, encSt, List.map_cons, List.map_nil, List.cons_append, List.nil_append] at hl
    refine callS [1] (hl) rfl rfl rfl ?_
    rintro _ _ ⟨rfl, rfl⟩
    refine ⟨_, _, rfl, ?_⟩
    simp -implicitDefEqProofs only [J7, Jc, Jd, Je, Jf, Jg, Jh, Ji, Jk, Jm, Jp, Jq, Jw, Jy, JD, JJ, JK, JL, JP, JQ, JS, JU, JV, J12, J13, J14, J1b, J1e, J1g, noescs, Jg, J1h, J1i, bt161, J1o ti161, J1p ti67 rfl, J1p ti161 rfl, J1q ti9, J1q ti39, J1q ti89, J1r ti161, J1t, J1u, J1v, J1w, J1x, J1y, J1z, J1A, J1B, J1D, J1E, J1N, J2r, J2s, J2t, J2u, J2w, J2y, J2z, J2A, J2C, J2D, J2E, J2F, J2G, J2H, J2I, J2J, J2K, J2L, J2M, J2O, J2P, J2Q, J2T, J2V, J2X, J30, J31, ↓reduceIte, reduceCtorEq, beq_self_eq_true, cond_true, cond_false, J34, J36, J39, eq_self, J3c, J3d]
    refine callS [] (hsel) rfl rfl rfl ?_
    rintro _ _ ⟨rfl, rfl⟩
    refine ⟨_, _, rfl, ?_⟩
    simp -implicitDefEqProofs only [J6, J7, J8, J9, Ja, Jb, Jc, Jd, Je, Jf, Jg, Jh, Ji, Jk, Jm, Jp, Jq, JC, JD, JL, JP, JQ, JS, JV, J14, Jg, J1i, J1p ti161 rfl, J1q ti9, J1q ti89, J1r ti91, J1s ti91, J1t, J1u, J1v, J1w, J1x, J1y, J1z, J1A, J1B, J1D, J1E, J1G, J1H, J1O, J2r, J2s, J2t, J2u, J2v, J2w, J2y, J2z, J2A, J2C, J2D, J2E, J2F, J2G, J2H, J2I, J2J, J2K, J2L, J2M, J2P, J2Q, J2X, J30, J31, ↓reduceIte, reduceCtorEq, beq_self_eq_true, cond_true, cond_false, true_and, and_self, J34, J36, J39, eq_self, J3c, J3d]
    apply vend_of []; rfl; rfl
    rw [show farFun s (xn, .mk x1 x2 x3 x4 x5, .mk y1 y2 y3 y4 y5 y6 y7) = some (s, (l1, .mk m1 m2 m3 m4 m5, l2, .mk q1 q2 q3 q4 q5), selT s (.mk y1 y2 y3 y4 y5 y6 y7)) by simp [farFun, Stx.funs, e]]
    exact ⟨⟨_, _, rfl, rfl, fun _ => rfl, rfl, rfl⟩, rfl⟩


def z76 : List L := [L.d (D.str (ByteArray.mk (Array.mk []))), L.nils, L.nils, L.nils, L.nils, L.nils, L.nils]
theorem lst76 : Lst 50 100 175 76 122 183 7 z76 where
  S := ⟨_, _, _, ti50, rfl⟩
  E := ⟨_, _, ti100, rfl⟩
  F := ⟨_, ti175⟩
  bS := bt50
  bE := bt100
  bF := bt175
  last := fn76
  back := fn122
  itr := ⟨Tryz.f183, _, Tryz.func183, rfl, rfl, rfl, by kernel_rfl, by kernel_rfl, rfl⟩
  nB := by kernel_rfl
  zl := rfl
  zr := fun _ => rfl
  zd := fun _ _ => rfl

def z79 : List L := [L.d (D.str (ByteArray.mk (Array.mk []))), L.nils, L.nils, L.nils, L.nils, L.nils, L.nils]
theorem lst79 : Lst 63 162 179 79 123 184 7 z79 where
  S := ⟨_, _, _, ti63, rfl⟩
  E := ⟨_, _, ti162, rfl⟩
  F := ⟨_, ti179⟩
  bS := bt63
  bE := bt162
  bF := bt179
  last := fn79
  back := fn123
  itr := ⟨Tryz.f184, _, Tryz.func184, rfl, rfl, rfl, by kernel_rfl, by kernel_rfl, rfl⟩
  nB := by kernel_rfl
  zl := rfl
  zr := fun _ => rfl
  zd := fun _ _ => rfl

theorem kinSig : Kin 50 100 175 176 180 76 122 183 77 75 74 78 25 5 where
  eq := fn77
  near := fn75
  look := fn74
  whole := fn25
  nl := by kernel_rfl
  no := by kernel_rfl

theorem vc_farSig (x : SubE) (s : ByteArray) (hx : stn x.2.1 ≤ 999999990) : VC Tryz.prog 78 [.agg ((encSub x).map .d), .one (.d (.str s))] [] fun r h' => FarR encSig 7 (farSig s x) r ∧ h' = [] := by
  have hx := (subs_small hx).2.2.2.2
  obtain ⟨xn, ⟨x1, x2, x3, x4, x5⟩, ⟨y1, y2, y3, y4, y5, y6, y7⟩⟩ := x
  have hl := vc_lastN kndSig lst79 fn80 x5 (by simp only [Stx.sigs] at hx; omega) s
  rw [← encSigs_m] at hl
  simp only [encSub, encSt, encTm, List.map_cons, List.map_nil, List.cons_append, List.nil_append]
  refine VC_of_fn mixed fn78 (by simp) ?_
  show vwp Tryz.prog 0 vc78 _ [(0, .agg [.d (.str xn), .d (.sl (x1.map encTym)), .d (.sl (x2.map encVam)), .d (.sl (encSt.subs x3)), .d (.sl (encSt.funs x4)), .d (.sl (encSt.sigs x5)), .d (.int .i64 y1), .d (.int .i64 y2), .d (.int .i64 y3), .d (.str y4), .d (.sl (txts y5)), .d (.sl (encTt.encs y6)), .d (.sl (encTm.encs y7))]), (1, .one (.d (.str s)))] []
  unfold vc78
  rw [vwpI_eq]
  simp -implicitDefEqProofs only [Jg, Jh, Jk, Jm, Jp, Jv, Jy, JD, JJ, JK, JL, JP, JS, JU, JV, JX, J12, J14, J16, J1a, J1e, J1g, noescs, Jg, J1h, J1i, bt9, bt67, bt100, J1o ti100, J1p ti65 rfl, J1p ti67 rfl, J1q ti63, J1t, J1u, J1w, J1x, J1E, J1N, J1Y, J2y, J2z, J2A, J2F, J2G, J2I, J2J, J2K, J2L, J2M, J2O, J2T, J2V, J2X, J30, J31, ↓reduceIte, reduceCtorEq, beq_self_eq_true, cond_true, cond_false, J34, J36, J39, eq_self, J3c]
  cases e : lastOf (·.1) x5 s with
  | none =>
    rw [e] at hl
    simp only [nearR, z79] at hl
    refine callS [1] (hl) rfl rfl rfl ?_
    rintro _ _ ⟨rfl, rfl⟩
    refine ⟨_, _, rfl, ?_⟩
    simp -implicitDefEqProofs only [Jm, Jv, Jy, JC, JD, JJ, JK, JL, JP, JQ, JS, JV, J13, J14, J1b, J1h, J1i, bt162, J1o ti162, J1p ti162 rfl, J1q ti9, J1q ti87, J1r ti100, J1r ti162, J1s ti100, J1t, J1u, J1v, J1w, J1x, J1y, J1z, J1A, J1B, J1D, J1E, J1G, J1H, J1O, J2r, J2s, J2t, J2u, J2w, J2y, J2z, J2A, J2C, J2D, J2E, J2F, J2G, J2H, J2I, J2J, J2K, J2L, J2M, J2P, J2Q, J2X, J30, J31, ↓reduceIte, reduceCtorEq, beq_self_eq_true, cond_true, cond_false, and_self, J34, J36, J39, eq_self, J3c, J3d]
    apply vend_of []; rfl; rfl
    rw [show farSig s (xn, .mk x1 x2 x3 x4 x5, .mk y1 y2 y3 y4 y5 y6 y7) = none by simp [farSig, Stx.sigs, e]]
    exact ⟨⟨_, _, rfl, rfl, fun _ => rfl, rfl⟩, rfl⟩
  | some m =>
    rw [e] at hl
    obtain ⟨mn, l1, ⟨m1, m2, m3, m4, m5⟩⟩ := m
    simp only [nearR, encSig, encSt, List.map_cons, List.map_nil] at hl
    refine callS [1] (hl) rfl rfl rfl ?_
    rintro _ _ ⟨rfl, rfl⟩
    refine ⟨_, _, rfl, ?_⟩
    simp -implicitDefEqProofs only [Jm, Jv, Jy, JC, JD, JJ, JK, JL, JP, JQ, JS, JV, J13, J14, J1b, J1h, J1i, bt162, J1o ti162, J1p ti162 rfl, J1q ti9, J1q ti87, J1r ti100, J1r ti162, J1s ti100, J1t, J1u, J1v, J1w, J1x, J1y, J1z, J1A, J1B, J1D, J1E, J1G, J1H, J1O, J2r, J2s, J2t, J2u, J2w, J2y, J2z, J2A, J2C, J2D, J2E, J2F, J2G, J2H, J2I, J2J, J2K, J2L, J2M, J2P, J2Q, J2X, J30, J31, ↓reduceIte, reduceCtorEq, beq_self_eq_true, cond_true, cond_false, and_self, J34, J36, J39, eq_self, J3c, J3d]
    apply vend_of []; rfl; rfl
    rw [show farSig s (xn, .mk x1 x2 x3 x4 x5, .mk y1 y2 y3 y4 y5 y6 y7) = some (s, l1, .mk m1 m2 m3 m4 m5) by simp [farSig, Stx.sigs, e]]
    exact ⟨⟨_, _, rfl, rfl, fun _ => rfl, rfl, rfl⟩, rfl⟩


def funP (funs : List FunE) (subs : List SubE) (p : List ByteArray) : Option FunE := atP (·.1) funs subs farFun p
def sigP (sigs : List SigE) (subs : List SubE) (p : List ByteArray) : Option SigE := atP (·.1) sigs subs farSig p
def fz : FunE := (ByteArray.mk (Array.mk []), ([], .mk [] [] [] [] [], [], .mk [] [] [] [] []), tm0)
def gz : SigE := (ByteArray.mk (Array.mk []), [], .mk [] [] [] [] [])

theorem vc_Fun (vals : List ValE) (cons : List ConE) (typs : List Tym) (subs : List SubE) (funs : List FunE) (sigs : List SigE) (h0 : funs.length < 1000000000) (h3 : subs.length < 1000000000) (hB : Small 999999990 subs) (p : List ByteArray) (hp : p.length < 1000000000) :
    VC Tryz.prog 21 [envV vals cons typs subs funs sigs, .one (.d (.sl (txts p.reverse)))] [] fun r h' => r = resD encFun fz (funP funs subs p) ∧ h' = [] := by
  refine VC_wk (vc_At kndFun lst69 kinFun funs h0 h3 (fun x hx => (hB x hx).1) rfl farFun (fun x s hx => vc_farFun x s hx) p hp) ?_
  rintro r h' ⟨rfl, rfl⟩
  refine ⟨_, resR_wk ?_ _, rfl, rfl⟩
  exact ⟨.inl rfl, .inr (.inl ⟨rfl, rfl⟩), .inr (.inl ⟨rfl, rfl⟩), .inr (.inl ⟨rfl, rfl⟩), .inr (.inl ⟨rfl, rfl⟩), .inr (.inl ⟨rfl, rfl⟩), .inr (.inl ⟨rfl, rfl⟩), .inr (.inl ⟨rfl, rfl⟩), .inr (.inl ⟨rfl, rfl⟩), .inr (.inl ⟨rfl, rfl⟩), .inr (.inl ⟨rfl, rfl⟩), .inr (.inl ⟨rfl, rfl⟩), .inr (.inl ⟨rfl, rfl⟩), .inl rfl, .inl rfl, .inl rfl, .inl rfl, .inr (.inl ⟨rfl, rfl⟩), .inr (.inl ⟨rfl, rfl⟩), .inr (.inl ⟨rfl, rfl⟩), trivial⟩

theorem vc_Sig (vals : List ValE) (cons : List ConE) (typs : List Tym) (subs : List SubE) (funs : List FunE) (sigs : List SigE) (h0 : sigs.length < 1000000000) (h3 : subs.length < 1000000000) (hB : Small 999999990 subs) (p : List ByteArray) (hp : p.length < 1000000000) :
    VC Tryz.prog 25 [envV vals cons typs subs funs sigs, .one (.d (.sl (txts p.reverse)))] [] fun r h' => r = resD encSig gz (sigP sigs subs p) ∧ h' = [] := by
  refine VC_wk (vc_At kndSig lst76 kinSig sigs h0 h3 (fun x hx => (hB x hx).1) rfl farSig (fun x s hx => vc_farSig x s hx) p hp) ?_
  rintro r h' ⟨rfl, rfl⟩
  refine ⟨_, resR_wk ?_ _, rfl, rfl⟩
  exact ⟨.inl rfl, .inr (.inl ⟨rfl, rfl⟩), .inr (.inl ⟨rfl, rfl⟩), .inr (.inl ⟨rfl, rfl⟩), .inr (.inl ⟨rfl, rfl⟩), .inr (.inl ⟨rfl, rfl⟩), .inr (.inl ⟨rfl, rfl⟩), trivial⟩

end Go.Vt.Tryz
