/- The library's stable sort, for all types at once: it comes to an end, and what it leaves is a permutation. -/
import Derived.Test.YtdabfkmhkoppcaaGreatDoorVtSA
import Derived.Test.YtdabfkmhkoppcaaGreatDoorVtL1
set_option maxRecDepth 100000
set_option linter.unusedSimpArgs false
namespace Go.Vt.Tryz
open Go.Vt renaming ob_some → Jm, vbool_eq → Jo, vif_tt → Jp, vif_ff → Jq, vD_bool → Jr, vD_int → Js, wp_skip → Ju, wp_ops → Jv, wp_seq → Jy, wp_cond → Jz, wp_block → JA, wp_exit → JB, th_normal → JD, th_exit → JE, bl_normal → JG, bl_exit → JI, ops_nil → JJ, ops_cons → JK, go_none → JL, go_some → JM, cond_tt → JN, cond_ff → JO, put_some → JP, put_none → JQ, asL → JS, asI → JT, asFn → JU, opd_tmp → JV, opd_int → JW, opd_bool → JX, opd_func → J12, so_move → J13, so_assign → J14, so_pick → J15, so_call → J1e, esc_tmp → J1f, esc_func → J1g, lk_cons → J1i, nilC_tmp → J1j, nilC_int → J1k, so_bin → J1o, vload → J1s, mkV → J1t, vstore → J1u, vcells → J1v, known → J1w, splice → J1C, vindexAddr → J1E, opds → J1M, vbin2 → J1O, vbin → J1P, vint → J1Q, vstr → J1R, vpick → J1V, capOk → J1Y, vundef → J2d, gb_b → J2e, sb_ft → J2j, putBack → J2q, fzIds → J2r, lentVs → J2s, lentV → J2t, lentL → J2v, idx → J2w
open List renaming contains_cons → Jg, contains_nil → Jh, lookup_nil → J2x, getElem?_cons_zero → J2y, getElem?_cons_succ → J2z, take_succ_cons → J2B, take_zero → J2C, take_nil → J2D, drop_succ_cons → J2E, drop_zero → J2F, drop_nil → J2G, length_cons → J2H, length_nil → J2I, append_nil → J2J, nil_append → J2K, cons_append → J2L, map_cons → J2M, map_nil → J2N, set_cons_zero → J2O, set_cons_succ → J2P, all_cons → J2R, all_nil → J2S
open Bool renaming or_false → Jk, and_true → J2U, false_eq_true → J38
open Nat renaming reduceBEq → J2W, reduceAdd → J30, zero_add → J3b, le_refl → J3c
open Option renaming map_some → J33, bind_some → J35
open Go.Proofs

/-! ### Rows -/

theorem sw_get {α : Type} {rows : List α} {i j : Nat} {y : α} (hi : i < rows.length) (hy : rows[j]? = some y) : (rows.set i y)[j]? = some y := by
  rw [List.getElem?_set]
  split
  · first | rfl | rw [if_pos hi]
  · exact hy

theorem sw_perm {α : Type} {rows : List α} {i j : Nat} {x y : α} (hx : rows[i]? = some x) (hy : rows[j]? = some y) : List.Perm ((rows.set i y).set j x) rows := by
  obtain ⟨hi, rfl⟩ := List.getElem?_eq_some_iff.1 hx
  obtain ⟨hj, rfl⟩ := List.getElem?_eq_some_iff.1 hy
  exact List.set_set_perm hi hj

theorem fzLs_ds {h : AHeap} : ∀ x : List D, fzLs h (x.map .d) = h
  | [] => rfl
  | _ :: r => fzLs_ds r
theorem toDs_ds {h : AHeap} : ∀ x : List D, toDs h (x.map .d) = some x
  | [] => rfl
  | d :: r => by simp only [List.map_cons, toDs, toDs_ds r]; rfl

theorem wrapA {a b c : Nat} (h : a + b = c) (hc : c < 1000000000000) : IntKind.i64.wrap ((a : Int) + (b : Int)) = (c : Int) := by rw [IntKind.wrap_i64]; omega
theorem wrapA1 {a c : Nat} (h : a + 1 = c) (hc : c < 1000000000000) : IntKind.i64.wrap ((a : Int) + 1) = (c : Int) := by rw [IntKind.wrap_i64]; omega
theorem wrapS {a b c : Nat} (h : a = b + c) (ha : a < 1000000000000) : IntKind.i64.wrap ((a : Int) - (b : Int)) = (c : Int) := by rw [IntKind.wrap_i64]; omega
theorem wrapS1 {a c : Nat} (h : a = c + 1) (ha : a < 1000000000000) : IntKind.i64.wrap ((a : Int) - 1) = (c : Int) := by rw [IntKind.wrap_i64]; omega

theorem half1 {n : Nat} (h : n < 1000000000000) : IntKind.u64.wrap (n : Int) = (n : Int) := by rw [IntKind.wrap_u64]; omega
theorem half2 {n : Nat} : ((n : Int)).fdiv (2 ^ Int.toNat 1) = ((n / 2 : Nat) : Int) := by
  show ((n : Int)).fdiv 2 = _
  rw [Int.fdiv_eq_ediv_of_nonneg _ (by omega)]
  omega
theorem half3 {n : Nat} (h : n < 1000000000000) : IntKind.i64.wrap (n : Int) = (n : Int) := by rw [IntKind.wrap_i64]; omega
theorem shr_ok : (0 ≤ (1 : Int) ∧ Int.toNat 1 ≤ IntKind.u64.bits) = True := by simp [IntKind.bits]

/-- The types of a slice that is sorted. -/
structure SortE (tS tE : TypeId) (k : Nat) : Prop where
  S : ∃ b z b2 zs, ti Tryz.prog tS = some (TI.mk 1 b false z TK.slice [] (some (EI.mk k b2 (some (.agg zs)) true))) ∧ b2 ≤ 1000 ∧ zs.length = k ∧ k ≠ 0
  E : ∃ b z fs, ti Tryz.prog tE = some (TI.mk k b true z TK.struct fs none)

/-- What compares two rows. -/
def CmpOk (fc nm : FuncId) (R : List D → Prop) : Prop := ∀ x y, R x → R y → VC Tryz.prog fc [.agg (x.map .d), .agg (y.map .d), .one (.ptr 0 0)] [.box [.fn nm []]] fun r h' => (∃ c : Int, r = .one (.d (.int .i64 c))) ∧ h' = [.box [.fn nm []]]

/-- A sort's heap: the array, the box of what names a row. -/
def sh (k ver : Nat) (nm : FuncId) (rows : List (List D)) : AHeap := [.arr false k ver rows, .box [.fn nm []]]

/-- What a part of the sort does. -/
def Sorts (f : FuncId) (avs : List V) (k ver : Nat) (nm : FuncId) (rows : List (List D)) : Prop :=
  VC Tryz.prog f avs [.arr false k ver rows, .box [.fn nm []]] fun r h' => r = .tup [] ∧ ∃ rows', List.Perm rows' rows ∧ h' = [.arr false k ver rows', .box [.fn nm []]]

theorem cmp_call {fc nm : FuncId} {R : List D → Prop} {x y : List D} {k ver : Nat} {rows : List (List D)} {K : Kn (V × AHeap)} (H : CmpOk fc nm R) (hx : R x) (hy : R y)
    (hk : ∀ c : Int, K.run (.one (.d (.int .i64 c)), [.arr false k ver rows, .box [.fn nm []]])) : @vcallI Tryz.prog fc [.agg (x.map .d), .agg (y.map .d), .one (.ptr 1 0)] [.arr false k ver rows, .box [.fn nm []]] K := by
  refine callS [1] (H x y hx hy) rfl ?_ rfl ?_
  · simp [lendVs, lendV, lendLs_ds, lendL, renL, idx]
  rintro _ _ ⟨⟨c, rfl⟩, rfl⟩
  refine ⟨.one (.d (.int .i64 c)), [.arr false k ver rows, .box [.fn nm []]], ?_, hk c⟩
  simp [back, renV, renL, renOs, renO, renL.renLs, lentVs, lentV, lentLs_ds, lentL, fzIds, putBack, flatV, flatL]

theorem rowOf {α : Type} {l : List α} {i : Nat} (h : i < l.length) : ∃ x, l[i]? = some x := ⟨l[i], List.getElem?_eq_getElem h⟩

theorem take_all {α β : Type} {f : α → β} {l : List α} {k : Nat} (h : l.length = k) : (l.map f).take k = l.map f := List.take_of_length_le (by simp [h])
theorem drop_all {α : Type} {l : List α} {k : Nat} (h : l.length = k) : l.drop k = [] := List.drop_of_length_le (by simp [h])

section
variable {tS tE tF : TypeId} {k : Nat} {fc nm : FuncId} {R : List D → Prop} {ver : Nat}

/-- Two stretches change their places. -/
theorem vc_swapR (H : SortE tS tE k) {f : FuncId} (hF : FnOk Tryz.prog f 38 (cSwapR tS tE) []) (rows : List (List D)) (hr : ∀ x ∈ rows, x.length = k) (hbig : rows.length < 1000000000) (a b n : Nat) (ha : a + n ≤ rows.length) (hb : b + n ≤ rows.length) :
    Sorts f [.one (.own 0 ver rows.length), .one (.d (.int .i64 a)), .one (.d (.int .i64 b)), .one (.d (.int .i64 n)), .one (.fn fc [.ptr 1 0])] k ver nm rows := by
  obtain ⟨b1, z1, b2, z2, hS, hb2, hz2, hk0⟩ := H.S
  obtain ⟨b3, z3, fs3, hE⟩ := H.E
  unfold Sorts
  refine VC_of_fn mixed hF (by simp) ?_
  generalize hlen : rows.length = len at *
  show vwp Tryz.prog 2 (cSwapR tS tE) _ [(0, .one (.own 0 ver len)), (1, .one (.d (.int .i64 a))), (2, .one (.d (.int .i64 b))), (3, .one (.d (.int .i64 n))), (4, .one (.fn fc [.ptr 1 0]))] [.arr false k ver rows, .box [.fn nm []]]
  unfold cSwapR
  rw [vwpI_eq]
  simp -implicitDefEqProofs only [Jm, Jv, Jy, JA, JD, JJ, JK, JL, JP, JW, J14, J33]
  refine loopI (α := Nat × List (List D)) (fun x => [(10, .one (.d (.int .i64 x.1))), (0, .one (.own 0 ver len)), (1, .one (.d (.int .i64 a))), (2, .one (.d (.int .i64 b))), (3, .one (.d (.int .i64 n)))]) (fun x => [.arr false k ver x.2, .box [.fn nm []]])
    (fun x => x.1 ≤ n ∧ List.Perm x.2 rows) (fun x => n - x.1) (0, rows)
    (keepI [0, 1] _ (WkH.refl _) rfl rfl rfl ⟨⟨_, WkV.refl _, rfl⟩, ⟨_, WkV.refl _, rfl⟩, ⟨_, WkV.refl _, rfl⟩, ⟨_, WkV.refl _, rfl⟩, ⟨_, WkV.refl _, rfl⟩, trivial⟩) ⟨Nat.zero_le _, .refl _⟩ ?_
  rintro ⟨i, rs⟩ ⟨hi, hp⟩
  have hl : rs.length = len := by rw [hp.length_eq, hlen]
  have hrk : ∀ x ∈ rs, x.length = k := fun x hx => hr x (hp.mem_iff.1 hx)
  simp only at hi hl hp
  rcases Nat.lt_or_ge i n with h | h
  · have hc : ((i : Int) < (n : Int)) = True := by simp; omega
    obtain ⟨x, hx⟩ := rowOf (l := rs) (i := a + i) (by omega)
    obtain ⟨y, hy⟩ := rowOf (l := rs) (i := b + i) (by omega)
    have hxk := hrk x (List.mem_of_getElem? hx)
    have hyk := hrk y (List.mem_of_getElem? hy)
    have hy2 := sw_get (i := a + i) (rows := rs) (by omega) hy
    have w1 := wrapA (a := a) (b := i) rfl (by omega)
    have w2 := wrapA (a := b) (b := i) rfl (by omega)
    have w3 := wrapA1 (a := i) rfl (by omega)
    have l1 : ((a + i : Nat) : Int) < (len : Int) := by omega
    have l2 : ((b + i : Nat) : Int) < (len : Int) := by omega
    simp -implicitDefEqProofs only [Jm, Jo, Jp, Jr, Js, Ju, Jv, Jy, Jz, JA, JB, JD, JE, JG, JI, JJ, JK, JL, JN, JO, JP, JQ, JS, JT, JV, JW, J13, J14, J1i, J1j, J1k, J1o ti3, J1s, J1t, J1u, J1v, J1w, J1C, J1E, J1O, J1P, J1Q, J1R, J2x, J2y, J2C, J2F, J2H, J2I, J2J, J2K, J2O, J2W, J30, ↓reduceIte, reduceCtorEq, beq_self_eq_true, cond_true, cond_false, true_and, and_true, and_self, J33, J35, decide_true, eq_self, forall_const, false_implies, J3b, J3c, so_indexAddr hS rfl, so_load hE, so_store hE, hc, w1, w2, l1, l2, hx, hy, hxk, hyk, hy2, Int.natCast_nonneg, Int.toNat_natCast, List.length_map, take_all hxk, take_all hyk, fzLs_ds, toDs_ds, drop_all hxk, drop_all hyk, w3]
    refine ⟨(i + 1, (rs.set (a + i) y).set (b + i) x), ⟨by show i + 1 ≤ n; omega, (sw_perm hx hy).trans hp⟩, by show n - (i + 1) < n - i; omega, ?_⟩
    exact (keepI [0, 1] _ (WkH.refl _) rfl rfl rfl ⟨⟨_, WkV.refl _, rfl⟩, ⟨_, WkV.refl _, rfl⟩, ⟨_, WkV.refl _, rfl⟩, ⟨_, WkV.refl _, rfl⟩, ⟨_, WkV.refl _, rfl⟩, trivial⟩)
  · have hc : ((i : Int) < (n : Int)) = False := by simp; omega
    simp -implicitDefEqProofs only [Jm, Jo, Jp, Jr, Js, Ju, Jv, Jy, Jz, JA, JB, JD, JE, JI, JJ, JK, JL, JN, JO, JP, JV, J13, J1i, J1j, J1o ti3, J1O, J1P, J1Q, J1R, J2x, J2H, J2I, J2W, J30, ↓reduceIte, beq_self_eq_true, cond_true, cond_false, true_and, J33, J35, decide_false, J38, eq_self, forall_const, false_implies, J3b, hc]
    apply vend_of [0, 1]; rfl; rfl
    exact ⟨rfl, _, hp, rfl⟩

/-- Two neighbouring stretches change their places. -/
theorem vc_rot (H : SortE tS tE k) {f fR : FuncId} (hR : FnOk Tryz.prog fR 38 (cSwapR tS tE) []) (hF : FnOk Tryz.prog f 58 (cRot tS tF fR) []) (hne : fR ≠ 288) (rows : List (List D)) (hr : ∀ x ∈ rows, x.length = k) (hbig : rows.length < 1000000000) (a m b : Nat) (ha : a < m) (hm : m < b) (hb : b ≤ rows.length) :
    Sorts f [.one (.own 0 ver rows.length), .one (.d (.int .i64 a)), .one (.d (.int .i64 m)), .one (.d (.int .i64 b)), .one (.fn fc [.ptr 1 0])] k ver nm rows := by
  unfold Sorts
  refine VC_of_fn mixed hF (by simp) ?_
  generalize hlen : rows.length = len at *
  show vwp Tryz.prog 2 (cRot tS tF fR) _ [(0, .one (.own 0 ver len)), (1, .one (.d (.int .i64 a))), (2, .one (.d (.int .i64 m))), (3, .one (.d (.int .i64 b))), (4, .one (.fn fc [.ptr 1 0]))] [.arr false k ver rows, .box [.fn nm []]]
  unfold cRot
  rw [vwpI_eq]
  have w1 := wrapS (a := m) (b := a) (c := m - a) (by omega) (by omega)
  have w2 := wrapS (a := b) (b := m) (c := b - m) (by omega) (by omega)
  simp -implicitDefEqProofs only [Jm, Js, Jv, Jy, JA, JD, JJ, JK, JL, JP, JV, J13, J14, J1i, J1j, J1o ti3, J1O, J1P, J1Q, J1R, J2x, J2W, ↓reduceIte, beq_self_eq_true, cond_true, cond_false, J33, J35, eq_self, w1, w2]
  refine loopI (α := Nat × Nat × List (List D)) (fun x => [(10, .one (.d (.int .i64 x.1))), (11, .one (.d (.int .i64 x.2.1))), (0, .one (.own 0 ver len)), (2, .one (.d (.int .i64 m))), (4, .one (.fn fc [.ptr 1 0]))]) (fun x => [.arr false k ver x.2.2, .box [.fn nm []]])
    (fun x => 1 ≤ x.1 ∧ 1 ≤ x.2.1 ∧ x.1 ≤ m ∧ m + x.2.1 ≤ len ∧ List.Perm x.2.2 rows) (fun x => x.1 + x.2.1) (m - a, b - m, rows)
    (keepI [0, 1] _ (WkH.refl _) rfl rfl rfl ⟨⟨_, WkV.refl _, rfl⟩, ⟨_, WkV.refl _, rfl⟩, ⟨_, WkV.refl _, rfl⟩, ⟨_, WkV.refl _, rfl⟩, ⟨_, WkV.refl _, rfl⟩, trivial⟩) ⟨by show 1 ≤ m - a; omega, by show 1 ≤ b - m; omega, by show m - a ≤ m; omega, by show m + (b - m) ≤ len; omega, .refl _⟩ ?_
  rintro ⟨i, j, rs⟩ ⟨hi, hj, him, hjm, hp⟩
  have hl : rs.length = len := by rw [hp.length_eq, hlen]
  have hrk : ∀ x ∈ rs, x.length = k := fun x hx => hr x (hp.mem_iff.1 hx)
  simp only at hi hj him hjm hl hp
  have v1 := wrapS (a := m) (b := i) (c := m - i) (by omega) (by omega)
  rcases Nat.lt_trichotomy i j with h | h | h
  · have hc : ((i : Int) = (j : Int)) = False := by simp; omega
    have hc2 : ((j : Int) < (i : Int)) = False := by simp; omega
    have v2 := wrapA (a := m) (b := j) rfl (by omega)
    have v3 := wrapS (a := m + j) (b := i) (c := m + j - i) (by omega) (by omega)
    have v4 := wrapS (a := j) (b := i) (c := j - i) (by omega) (by omega)
    have hs := vc_swapR (ver := ver) (nm := nm) (fc := fc) H hR rs hrk (by omega) (m - i) (m + j - i) i (by omega) (by omega)
    unfold Sorts at hs
    rw [hl] at hs
    simp -implicitDefEqProofs only [Jg, Jh, Jk, Jm, Jo, Jp, Jr, Js, Ju, Jv, Jy, Jz, JA, JB, JD, JE, JI, JJ, JK, JL, JN, JO, JP, JU, JV, J12, J13, J1e, J1g, noescs, Jg, J1i, J1j, J1o ti3, J1M, J1O, J1P, J1Q, J1R, J2x, J2J, J2K, J2N, J2S, J2U, J2W, ↓reduceIte, beq_self_eq_true, cond_true, cond_false, true_and, and_true, J33, J35, decide_false, bne_iff_ne, beq_eq_false_iff_ne, bne_eq_false_iff_eq, J38, eq_self, forall_const, not_false_eq_true, ne_eq, false_implies, gt_iff_lt, hc, hc2, v1, v2, v3, hne]
    refine callS [0, 1] (hs) rfl rfl rfl ?_
    rintro _ _ ⟨rfl, rs', hp', rfl⟩
    refine ⟨_, _, rfl, ?_⟩
    simp -implicitDefEqProofs only [Jm, Js, Jv, JD, JG, JJ, JK, JL, JP, JV, J13, J14, J1i, J1j, J1o ti3, J1O, J1P, J1Q, J1R, J2q, J2r, J2s, J2t, J2v, J2w, J2x, J2B, J2D, J2E, J2G, J2H, J2I, J2J, J2O, J2P, J2W, J30, ↓reduceIte, beq_self_eq_true, cond_true, cond_false, J33, J35, eq_self, J3b, v4]
    refine ⟨(i, j - i, rs'), ⟨hi, by show 1 ≤ j - i; omega, him, by show m + (j - i) ≤ len; omega, hp'.trans hp⟩, by show i + (j - i) < i + j; omega, ?_⟩
    exact (keepI [0, 1] _ (WkH.refl _) rfl rfl rfl ⟨⟨_, WkV.refl _, rfl⟩, ⟨_, WkV.refl _, rfl⟩, ⟨_, WkV.refl _, rfl⟩, ⟨_, WkV.refl _, rfl⟩, ⟨_, WkV.refl _, rfl⟩, trivial⟩)
  · subst h
    have hc : ((i : Int) = (i : Int)) = True := by simp
    have hs := vc_swapR (ver := ver) (nm := nm) (fc := fc) H hR rs hrk (by omega) (m - i) m i (by omega) (by omega)
    unfold Sorts at hs
    rw [hl] at hs
    simp -implicitDefEqProofs only [Jg, Jh, Jk, Jm, Jo, Jp, Jr, Js, Ju, Jv, Jy, Jz, JA, JB, JD, JE, JI, JJ, JK, JL, JN, JO, JP, JU, JV, J12, J13, J1e, J1g, noescs, Jg, J1i, J1j, J1o ti3, J1M, J1O, J1P, J1Q, J1R, J2x, J2J, J2K, J2N, J2S, J2U, J2W, ↓reduceIte, beq_self_eq_true, cond_true, cond_false, true_and, J33, J35, decide_eq_true_eq, decide_eq_false_iff_not, bne_iff_ne, beq_eq_false_iff_ne, bne_eq_false_iff_eq, eq_self, forall_const, not_true_eq_false, not_false_eq_true, ne_eq, false_implies, gt_iff_lt, v1, hne]
    refine callS [0, 1] (hs) rfl rfl rfl ?_
    rintro _ _ ⟨rfl, rs', hp', rfl⟩
    refine ⟨_, _, rfl, ?_⟩
    simp -implicitDefEqProofs only [JJ, JP, J2q, J2r, J2s, J2t, J2v, J2w, J2B, J2D, J2E, J2G, J2H, J2I, J2J, J2O, J2P, J30, ↓reduceIte, eq_self, J3b]
    apply vend_of [0, 1]; rfl; rfl
    exact ⟨rfl, _, hp'.trans hp, rfl⟩
  · have hc : ((i : Int) = (j : Int)) = False := by simp; omega
    have hc2 : ((j : Int) < (i : Int)) = True := by simp; omega
    have v4 := wrapS (a := i) (b := j) (c := i - j) (by omega) (by omega)
    have hs := vc_swapR (ver := ver) (nm := nm) (fc := fc) H hR rs hrk (by omega) (m - i) m j (by omega) (by omega)
    unfold Sorts at hs
    rw [hl] at hs
    simp -implicitDefEqProofs only [Jg, Jh, Jk, Jm, Jo, Jp, Jr, Js, Ju, Jv, Jy, Jz, JA, JB, JD, JE, JI, JJ, JK, JL, JN, JO, JP, JU, JV, J12, J13, J1e, J1g, noescs, Jg, J1i, J1j, J1o ti3, J1M, J1O, J1P, J1Q, J1R, J2x, J2J, J2K, J2N, J2S, J2U, J2W, ↓reduceIte, reduceCtorEq, beq_self_eq_true, cond_true, cond_false, and_true, J33, J35, decide_true, bne_iff_ne, beq_eq_false_iff_ne, bne_eq_false_iff_eq, eq_self, forall_const, not_false_eq_true, ne_eq, false_implies, gt_iff_lt, hc, hc2, v1, hne]
    refine callS [0, 1] (hs) rfl rfl rfl ?_
    rintro _ _ ⟨rfl, rs', hp', rfl⟩
    refine ⟨_, _, rfl, ?_⟩
    simp -implicitDefEqProofs only [Jm, Js, Jv, JD, JG, JJ, JK, JL, JP, JV, J13, J14, J1i, J1j, J1o ti3, J1O, J1P, J1Q, J1R, J2q, J2r, J2s, J2t, J2v, J2w, J2x, J2B, J2D, J2E, J2G, J2H, J2I, J2J, J2O, J2P, J2W, J30, ↓reduceIte, beq_self_eq_true, cond_true, cond_false, J33, J35, eq_self, J3b, v4]
    refine ⟨(i - j, j, rs'), ⟨by show 1 ≤ i - j; omega, hj, by show i - j ≤ m; omega, hjm, hp'.trans hp⟩, by show i - j + j < i + j; omega, ?_⟩
    exact (keepI [0, 1] _ (WkH.refl _) rfl rfl rfl ⟨⟨_, WkV.refl _, rfl⟩, ⟨_, WkV.refl _, rfl⟩, ⟨_, WkV.refl _, rfl⟩, ⟨_, WkV.refl _, rfl⟩, ⟨_, WkV.refl _, rfl⟩, trivial⟩)

/-- Sorted by insertion. -/
theorem vc_ins (H : SortE tS tE k) (hC : CmpOk fc nm R) {f : FuncId} (hF : FnOk Tryz.prog f 53 (cIns tS tE) []) (rows : List (List D)) (hR : ∀ x ∈ rows, R x) (hr : ∀ x ∈ rows, x.length = k) (hbig : rows.length < 1000000000) (a b : Nat) (ha : a ≤ rows.length) (hb : b ≤ rows.length) :
    Sorts f [.one (.own 0 ver rows.length), .one (.d (.int .i64 a)), .one (.d (.int .i64 b)), .one (.fn fc [.ptr 1 0])] k ver nm rows := by
  obtain ⟨b1, z1, b2, z2, hS, hb2, hz2, hk0⟩ := H.S
  obtain ⟨b3, z3, fs3, hE⟩ := H.E
  unfold Sorts
  refine VC_of_fn mixed hF (by simp) ?_
  generalize hlen : rows.length = len at *
  show vwp Tryz.prog 2 (cIns tS tE) _ [(0, .one (.own 0 ver len)), (1, .one (.d (.int .i64 a))), (2, .one (.d (.int .i64 b))), (3, .one (.fn fc [.ptr 1 0]))] [.arr false k ver rows, .box [.fn nm []]]
  unfold cIns
  rw [vwpI_eq]
  have w0 := wrapA1 (a := a) rfl (by omega)
  simp -implicitDefEqProofs only [Jm, Js, Jv, Jy, JA, JD, JJ, JK, JL, JP, JV, JW, J13, J14, J1i, J1k, J1o ti3, J1O, J1P, J1Q, J1R, J2x, J2W, ↓reduceIte, beq_self_eq_true, cond_true, cond_false, J33, J35, eq_self, w0]
  refine loopI (α := Nat × List (List D)) (fun x => [(8, .one (.d (.int .i64 x.1))), (0, .one (.own 0 ver len)), (1, .one (.d (.int .i64 a))), (2, .one (.d (.int .i64 b))), (3, .one (.fn fc [.ptr 1 0]))]) (fun x => [.arr false k ver x.2, .box [.fn nm []]])
    (fun x => a + 1 ≤ x.1 ∧ List.Perm x.2 rows) (fun x => len - x.1) (a + 1, rows)
    (keepI [0, 1] _ (WkH.refl _) rfl rfl rfl ⟨⟨_, WkV.refl _, rfl⟩, ⟨_, WkV.refl _, rfl⟩, ⟨_, WkV.refl _, rfl⟩, ⟨_, WkV.refl _, rfl⟩, ⟨_, WkV.refl _, rfl⟩, trivial⟩) ⟨Nat.le_refl _, .refl _⟩ ?_
  rintro ⟨i, rs⟩ ⟨hi, hp⟩
  simp only at hi hp
  rcases Nat.lt_or_ge i b with h | h
  · have hc : ((i : Int) < (b : Int)) = True := by simp; omega
    have w1 := wrapA1 (a := i) rfl (by omega)
    simp -implicitDefEqProofs only [Jm, Jo, Jp, Jr, Ju, Jv, Jy, Jz, JA, JB, JD, JE, JI, JJ, JK, JL, JN, JO, JP, JV, J13, J14, J1i, J1j, J1o ti3, J1O, J1P, J1Q, J1R, J2x, J2H, J2I, J2W, J30, ↓reduceIte, reduceCtorEq, beq_self_eq_true, cond_true, cond_false, and_true, J33, J35, decide_true, eq_self, forall_const, false_implies, J3b, hc]
    refine loopI (α := Nat × List (List D)) (fun x => [(9, .one (.d (.int .i64 x.1))), (8, .one (.d (.int .i64 i))), (0, .one (.own 0 ver len)), (1, .one (.d (.int .i64 a))), (2, .one (.d (.int .i64 b))), (3, .one (.fn fc [.ptr 1 0]))]) (fun x => [.arr false k ver x.2, .box [.fn nm []]])
      (fun x => x.1 ≤ i ∧ List.Perm x.2 rows) (fun x => x.1) (i, rs)
      (keepI [0, 1] _ (WkH.refl _) rfl rfl rfl ⟨⟨_, WkV.refl _, rfl⟩, ⟨_, WkV.refl _, rfl⟩, ⟨_, WkV.refl _, rfl⟩, ⟨_, WkV.refl _, rfl⟩, ⟨_, WkV.refl _, rfl⟩, ⟨_, WkV.refl _, rfl⟩, trivial⟩) ⟨Nat.le_refl _, hp⟩ ?_
    rintro ⟨j, ss⟩ ⟨hj, hq⟩
    have hl : ss.length = len := by rw [hq.length_eq, hlen]
    have hrk : ∀ x ∈ ss, x.length = k := fun x hx => hr x (hq.mem_iff.1 hx)
    have hRk : ∀ x ∈ ss, R x := fun x hx => hR x (hq.mem_iff.1 hx)
    simp only at hj hl hq
    rcases Nat.lt_or_ge a j with h2 | h2
    · have hd : ((a : Int) < (j : Int)) = True := by simp; omega
      obtain ⟨x, hx⟩ := rowOf (l := ss) (i := j) (by omega)
      obtain ⟨y, hy⟩ := rowOf (l := ss) (i := j - 1) (by omega)
      have hxk := hrk x (List.mem_of_getElem? hx)
      have hyk := hrk y (List.mem_of_getElem? hy)
      have hy2 := sw_get (i := j) (rows := ss) (by omega) hy
      have w2 := wrapS1 (a := j) (c := j - 1) (by omega) (by omega)
      have l1 : (j : Int) < (len : Int) := by omega
      have l2 : ((j - 1 : Nat) : Int) < (len : Int) := by omega
      simp -implicitDefEqProofs only [Jm, Jo, Jp, Jq, Jr, Js, Jv, Jy, Jz, JB, JD, JE, JG, JI, JJ, JK, JL, JM, JO, JP, JS, JT, JU, JV, JW, JX, J13, J14, J15, J1e, J1f, J1i, J1j, J1k, J1o ti3, J1s, J1t, J1E, J1M, J1O, J1P, J1Q, J1R, J1V, J1Y, J2d, J2e, J2j, J2x, J2y, J2z, J2F, J2K, J2L, J2M, J2N, J2R, J2S, J2U, J2W, ↓reduceIte, reduceCtorEq, beq_self_eq_true, cond_true, cond_false, true_and, and_true, and_self, J33, J35, decide_true, eq_self, forall_const, false_implies, J3c, gt_iff_lt, so_indexAddr hS rfl, so_load hE, hd, w2, l1, l2, hx, hy, hxk, hyk, Int.natCast_nonneg, Int.toNat_natCast, List.length_map, take_all hxk, take_all hyk]
      refine cmp_call hC (hRk x (List.mem_of_getElem? hx)) (hRk y (List.mem_of_getElem? hy)) fun c => ?_
      rcases Int.lt_or_le c 0 with h3 | h3
      · have he : (c < 0) = True := by simp; omega
        simp -implicitDefEqProofs only [Jm, Jo, Jp, Jr, Js, Ju, Jv, Jy, Jz, JA, JB, JD, JE, JG, JI, JJ, JK, JL, JM, JN, JO, JP, JQ, JS, JT, JV, JW, JX, J13, J14, J15, J1i, J1k, J1o ti3, J1s, J1t, J1u, J1v, J1w, J1C, J1E, J1O, J1P, J1Q, J1R, J1V, J2e, J2x, J2y, J2C, J2F, J2J, J2K, J2O, J2W, ↓reduceIte, reduceCtorEq, beq_self_eq_true, cond_true, cond_false, true_and, and_true, and_self, J33, J35, decide_true, eq_self, forall_const, false_implies, J3b, J3c, so_indexAddr hS rfl, so_load hE, so_store hE, he, w2, l1, l2, hx, hy, hxk, hyk, hy2, Int.natCast_nonneg, Int.toNat_natCast, List.length_map, take_all hxk, take_all hyk, fzLs_ds, toDs_ds, drop_all hxk, drop_all hyk]
        refine ⟨(j - 1, (ss.set j y).set (j - 1) x), ⟨by show j - 1 ≤ i; omega, (sw_perm hx hy).trans hq⟩, by show j - 1 < j; omega, ?_⟩
        exact (keepI [0, 1] _ (WkH.refl _) rfl rfl rfl ⟨⟨_, WkV.refl _, rfl⟩, ⟨_, WkV.refl _, rfl⟩, ⟨_, WkV.refl _, rfl⟩, ⟨_, WkV.refl _, rfl⟩, ⟨_, WkV.refl _, rfl⟩, ⟨_, WkV.refl _, rfl⟩, trivial⟩)
      · have he : (c < 0) = False := by simp; omega
        simp -implicitDefEqProofs only [Jm, Jo, Jp, Jr, Js, Ju, Jv, Jy, Jz, JA, JB, JD, JE, JG, JI, JJ, JK, JL, JM, JN, JO, JP, JV, JW, JX, J13, J14, J15, J1i, J1k, J1o ti3, J1O, J1P, J1Q, J1R, J1V, J2e, J2x, J2W, ↓reduceIte, beq_self_eq_true, cond_true, cond_false, true_and, J33, J35, decide_false, J38, eq_self, forall_const, false_implies, he, w1]
        refine ⟨(i + 1, ss), ⟨by show a + 1 ≤ i + 1; omega, hq⟩, by show len - (i + 1) < len - i; omega, ?_⟩
        exact (keepI [0, 1] _ (WkH.refl _) rfl rfl rfl ⟨⟨_, WkV.refl _, rfl⟩, ⟨_, WkV.refl _, rfl⟩, ⟨_, WkV.refl _, rfl⟩, ⟨_, WkV.refl _, rfl⟩, ⟨_, WkV.refl _, rfl⟩, trivial⟩)
    · have hd : ((a : Int) < (j : Int)) = False := by simp; omega
      simp -implicitDefEqProofs only [Jm, Jo, Jp, Jq, Jr, Js, Jv, Jy, Jz, JB, JD, JE, JG, JI, JJ, JK, JL, JM, JO, JP, JV, JW, JX, J13, J14, J15, J1i, J1j, J1k, J1o ti3, J1O, J1P, J1Q, J1R, J1V, J2d, J2e, J2j, J2x, J2W, ↓reduceIte, beq_self_eq_true, cond_true, cond_false, true_and, J33, J35, decide_false, J38, eq_self, forall_const, false_implies, gt_iff_lt, hd, w1]
      refine ⟨(i + 1, ss), ⟨by show a + 1 ≤ i + 1; omega, hq⟩, by show len - (i + 1) < len - i; omega, ?_⟩
      exact (keepI [0, 1] _ (WkH.refl _) rfl rfl rfl ⟨⟨_, WkV.refl _, rfl⟩, ⟨_, WkV.refl _, rfl⟩, ⟨_, WkV.refl _, rfl⟩, ⟨_, WkV.refl _, rfl⟩, ⟨_, WkV.refl _, rfl⟩, trivial⟩)
  · have hc : ((i : Int) < (b : Int)) = False := by simp; omega
    simp -implicitDefEqProofs only [Jm, Jo, Jp, Jr, Ju, Jv, Jy, Jz, JA, JB, JD, JE, JI, JJ, JK, JL, JN, JO, JP, JV, J13, J14, J1i, J1j, J1o ti3, J1O, J1P, J1Q, J1R, J2x, J2H, J2I, J2W, J30, ↓reduceIte, beq_self_eq_true, cond_true, cond_false, true_and, J33, J35, decide_false, J38, eq_self, forall_const, false_implies, J3b, hc]
    apply vend_of [0, 1]; rfl; rfl
    exact ⟨rfl, _, hp, rfl⟩

end

end Go.Vt.Tryz
set_option maxRecDepth 100000
set_option linter.unusedSimpArgs false
namespace Go.Vt.Tryz
open Go.Vt renaming ob_some → Jm, vbool_eq → Jo, vif_tt → Jp, vif_ff → Jq, vD_bool → Jr, vD_int → Js, wp_skip → Ju, wp_ops → Jv, wp_seq → Jy, wp_cond → Jz, wp_block → JA, wp_exit → JB, wp_ret → JC, th_normal → JD, th_exit → JE, th_ret → JF, bl_normal → JG, bl_exit → JI, ops_nil → JJ, ops_cons → JK, go_none → JL, go_some → JM, cond_tt → JN, cond_ff → JO, put_some → JP, put_none → JQ, asB → JR, asL → JS, asI → JT, asFn → JU, opd_tmp → JV, opd_int → JW, opd_bool → JX, opd_func → J12, so_move → J13, so_assign → J14, so_pick → J15, so_not → J18, so_call → J1e, esc_tmp → J1f, esc_func → J1g, lk_cons → J1i, nilC_tmp → J1j, nilC_int → J1k, so_bin → J1o, so_convI → J1p, vload → J1t, mkV → J1u, vstore → J1v, vcells → J1w, known → J1x, splice → J1D, vindexAddr → J1F, vlen → J1J, opds → J1N, vbin2 → J1P, vbin → J1Q, vint → J1R, vstr → J1S, vpick → J1W, capOk → J1Z, vundef → J2e, gb_b → J2f, sb_ft → J2k, putBack → J2r, fzIds → J2s, lentVs → J2t, lentV → J2u, lentL → J2w, idx → J2x
open List renaming contains_cons → Jg, contains_nil → Jh, lookup_nil → J2y, getElem?_cons_zero → J2z, getElem?_cons_succ → J2A, take_succ_cons → J2C, take_zero → J2D, take_nil → J2E, drop_succ_cons → J2F, drop_zero → J2G, drop_nil → J2H, length_cons → J2I, length_nil → J2J, append_nil → J2K, nil_append → J2L, cons_append → J2M, map_cons → J2N, map_nil → J2O, set_cons_zero → J2P, set_cons_succ → J2Q, all_cons → J2S, all_nil → J2T
open Bool renaming or_false → Jk, and_true → J2V, false_eq_true → J39, not_true → J3a, not_false → J3b
open Nat renaming reduceBEq → J2X, reduceAdd → J31, zero_add → J3c, le_refl → J3d
open Option renaming map_some → J34, bind_some → J36
open Go.Proofs

section
variable {tS tE tF : TypeId} {k : Nat} {fc nm : FuncId} {R : List D → Prop} {ver : Nat}

theorem pm_len {rs rows : List (List D)} (h : List.Perm rs rows) : rs.length = rows.length := h.length_eq

/-- The slots that count are as they were. -/
def Agr (T' T : Sl) : Prop := T'.lookup 0 = T.lookup 0 ∧ T'.lookup 1 = T.lookup 1 ∧ T'.lookup 2 = T.lookup 2 ∧ T'.lookup 3 = T.lookup 3 ∧ T'.lookup 4 = T.lookup 4 ∧ T'.lookup 18 = T.lookup 18 ∧ T'.lookup 20 = T.lookup 20 ∧ T'.lookup 24 = T.lookup 24

theorem vc_symA {f : FuncId} (hne : f ≠ 288) {len : Nat} (rows : List (List D)) (p q r : Nat) {T : Sl} {Q : VX → Sl → AHeap → Prop} (t0 : T.lookup 0 = some (.one (.own 0 ver len))) (t1 : T.lookup 20 = some (.one (.d (.int .i64 p)))) (t2 : T.lookup 2 = some (.one (.d (.int .i64 q)))) (t3 : T.lookup 24 = some (.one (.d (.int .i64 r)))) (t4 : T.lookup 4 = some (.one (.fn fc [.ptr 1 0])))
    (hcall : p < q → q < r → Sorts f [.one (.own 0 ver len), .one (.d (.int .i64 p)), .one (.d (.int .i64 q)), .one (.d (.int .i64 r)), .one (.fn fc [.ptr 1 0])] k ver nm rows)
    (hQ : ∀ T', Agr T' T → ∀ rows', List.Perm rows' rows → Q .normal T' [.arr false k ver rows', .box [.fn nm []]]) : vwp Tryz.prog 2 (cSymA tS tF f) Q T [.arr false k ver rows, .box [.fn nm []]] := by
  unfold cSymA
  rw [vwpI_eq]
  rcases Nat.lt_or_ge p q with h1 | h1
  · have e1 : ((p : Int) < (q : Int)) = True := by simp; omega
    rcases Nat.lt_or_ge q r with h2 | h2
    · have e2 : ((q : Int) < (r : Int)) = True := by simp; omega
      have hc := hcall h1 h2
      unfold Sorts at hc
      simp -implicitDefEqProofs only [Jg, Jh, Jk, Jm, Jo, Jp, Jq, Jr, Ju, Jv, Jy, Jz, JD, JJ, JK, JL, JM, JN, JO, JP, JU, JV, JX, J12, J13, J15, J1e, J1g, noescs, Jg, J1i, J1j, J1o ti3, J1N, J1P, J1Q, J1R, J1S, J1W, J2e, J2f, J2k, J2K, J2L, J2O, J2T, J2V, J2X, ↓reduceIte, reduceCtorEq, beq_self_eq_true, cond_true, cond_false, and_true, J34, J36, decide_true, beq_eq_false_iff_ne, eq_self, forall_const, not_false_eq_true, ne_eq, false_implies, e1, e2, t0, t1, t2, t3, t4, hne]
      refine callS [0, 1] (hc) rfl rfl rfl ?_
      rintro _ _ ⟨rfl, rs', hp', rfl⟩
      refine ⟨_, _, rfl, ?_⟩
      simp -implicitDefEqProofs only [JJ, JP, J2r, J2s, J2t, J2u, J2w, J2x, J2C, J2E, J2F, J2H, J2I, J2J, J2K, J2P, J2Q, J31, ↓reduceIte, eq_self, J3c]
      exact hQ _ (by exact ⟨rfl, rfl, rfl, rfl, rfl, rfl, rfl, rfl⟩) _ hp'
    · have e2 : ((q : Int) < (r : Int)) = False := by simp; omega
      simp -implicitDefEqProofs only [Jm, Jo, Jp, Jq, Jr, Ju, Jv, Jy, Jz, JD, JJ, JK, JL, JM, JN, JO, JP, JV, JX, J13, J15, J1i, J1j, J1o ti3, J1P, J1Q, J1R, J1S, J1W, J2e, J2f, J2k, J2X, ↓reduceIte, reduceCtorEq, beq_self_eq_true, cond_true, cond_false, true_and, and_true, J34, J36, decide_true, decide_false, J39, eq_self, forall_const, false_implies, e1, e2, t0, t1, t2, t3, t4]
      exact hQ _ (by exact ⟨rfl, rfl, rfl, rfl, rfl, rfl, rfl, rfl⟩) _ (.refl _)
  · have e1 : ((p : Int) < (q : Int)) = False := by simp; omega
    simp -implicitDefEqProofs only [Jm, Jo, Jp, Jq, Jr, Ju, Jv, Jy, Jz, JD, JJ, JK, JL, JM, JN, JO, JP, JV, JX, J13, J15, J1i, J1j, J1o ti3, J1P, J1Q, J1R, J1S, J1W, J2e, J2f, J2k, J2X, ↓reduceIte, beq_self_eq_true, cond_true, cond_false, true_and, J34, J36, decide_false, decide_eq_true_eq, decide_eq_false_iff_not, J39, eq_self, forall_const, false_implies, e1, t0, t1, t2, t3, t4]
    exact hQ _ (by exact ⟨rfl, rfl, rfl, rfl, rfl, rfl, rfl, rfl⟩) _ (.refl _)

theorem vc_symB {f : FuncId} (hne : f ≠ 288) {len : Nat} (rows : List (List D)) (p q r : Nat) {T : Sl} {Q : VX → Sl → AHeap → Prop} (t0 : T.lookup 0 = some (.one (.own 0 ver len))) (t1 : T.lookup 1 = some (.one (.d (.int .i64 p)))) (t2 : T.lookup 20 = some (.one (.d (.int .i64 q)))) (t3 : T.lookup 18 = some (.one (.d (.int .i64 r)))) (t4 : T.lookup 4 = some (.one (.fn fc [.ptr 1 0])))
    (hcall : p < q → q < r → Sorts f [.one (.own 0 ver len), .one (.d (.int .i64 p)), .one (.d (.int .i64 q)), .one (.d (.int .i64 r)), .one (.fn fc [.ptr 1 0])] k ver nm rows)
    (hQ : ∀ T', Agr T' T → ∀ rows', List.Perm rows' rows → Q .normal T' [.arr false k ver rows', .box [.fn nm []]]) : vwp Tryz.prog 2 (cSymB tS tF f) Q T [.arr false k ver rows, .box [.fn nm []]] := by
  unfold cSymB
  rw [vwpI_eq]
  rcases Nat.lt_or_ge p q with h1 | h1
  · have e1 : ((p : Int) < (q : Int)) = True := by simp; omega
    rcases Nat.lt_or_ge q r with h2 | h2
    · have e2 : ((q : Int) < (r : Int)) = True := by simp; omega
      have hc := hcall h1 h2
      unfold Sorts at hc
      simp -implicitDefEqProofs only [Jg, Jh, Jk, Jm, Jo, Jp, Jq, Jr, Ju, Jv, Jy, Jz, JD, JJ, JK, JL, JM, JN, JO, JP, JU, JV, JX, J12, J13, J15, J1e, J1g, noescs, Jg, J1i, J1j, J1o ti3, J1N, J1P, J1Q, J1R, J1S, J1W, J2e, J2f, J2k, J2K, J2L, J2O, J2T, J2V, J2X, ↓reduceIte, reduceCtorEq, beq_self_eq_true, cond_true, cond_false, and_true, J34, J36, decide_true, beq_eq_false_iff_ne, eq_self, forall_const, not_false_eq_true, ne_eq, false_implies, e1, e2, t0, t1, t2, t3, t4, hne]
      refine callS [0, 1] (hc) rfl rfl rfl ?_
      rintro _ _ ⟨rfl, rs', hp', rfl⟩
      refine ⟨_, _, rfl, ?_⟩
      simp -implicitDefEqProofs only [JJ, JP, J2r, J2s, J2t, J2u, J2w, J2x, J2C, J2E, J2F, J2H, J2I, J2J, J2K, J2P, J2Q, J31, ↓reduceIte, eq_self, J3c]
      exact hQ _ (by exact ⟨rfl, rfl, rfl, rfl, rfl, rfl, rfl, rfl⟩) _ hp'
    · have e2 : ((q : Int) < (r : Int)) = False := by simp; omega
      simp -implicitDefEqProofs only [Jm, Jo, Jp, Jq, Jr, Ju, Jv, Jy, Jz, JD, JJ, JK, JL, JM, JN, JO, JP, JV, JX, J13, J15, J1i, J1j, J1o ti3, J1P, J1Q, J1R, J1S, J1W, J2e, J2f, J2k, J2X, ↓reduceIte, reduceCtorEq, beq_self_eq_true, cond_true, cond_false, true_and, and_true, J34, J36, decide_true, decide_false, J39, eq_self, forall_const, false_implies, e1, e2, t0, t1, t2, t3, t4]
      exact hQ _ (by exact ⟨rfl, rfl, rfl, rfl, rfl, rfl, rfl, rfl⟩) _ (.refl _)
  · have e1 : ((p : Int) < (q : Int)) = False := by simp; omega
    simp -implicitDefEqProofs only [Jm, Jo, Jp, Jq, Jr, Ju, Jv, Jy, Jz, JD, JJ, JK, JL, JM, JN, JO, JP, JV, JX, J13, J15, J1i, J1j, J1o ti3, J1P, J1Q, J1R, J1S, J1W, J2e, J2f, J2k, J2X, ↓reduceIte, beq_self_eq_true, cond_true, cond_false, true_and, J34, J36, decide_false, decide_eq_true_eq, decide_eq_false_iff_not, J39, eq_self, forall_const, false_implies, e1, t0, t1, t2, t3, t4]
    exact hQ _ (by exact ⟨rfl, rfl, rfl, rfl, rfl, rfl, rfl, rfl⟩) _ (.refl _)

theorem vc_symC {f : FuncId} (hne : f ≠ 288) {len : Nat} (rows : List (List D)) (p q r : Nat) {T : Sl} {Q : VX → Sl → AHeap → Prop} (t0 : T.lookup 0 = some (.one (.own 0 ver len))) (t1 : T.lookup 18 = some (.one (.d (.int .i64 p)))) (t2 : T.lookup 24 = some (.one (.d (.int .i64 q)))) (t3 : T.lookup 3 = some (.one (.d (.int .i64 r)))) (t4 : T.lookup 4 = some (.one (.fn fc [.ptr 1 0])))
    (hcall : p < q → q < r → Sorts f [.one (.own 0 ver len), .one (.d (.int .i64 p)), .one (.d (.int .i64 q)), .one (.d (.int .i64 r)), .one (.fn fc [.ptr 1 0])] k ver nm rows)
    (hQ : ∀ T', Agr T' T → ∀ rows', List.Perm rows' rows → Q .normal T' [.arr false k ver rows', .box [.fn nm []]]) : vwp Tryz.prog 2 (cSymC tS tF f) Q T [.arr false k ver rows, .box [.fn nm []]] := by
  unfold cSymC
  rw [vwpI_eq]
  rcases Nat.lt_or_ge p q with h1 | h1
  · have e1 : ((p : Int) < (q : Int)) = True := by simp; omega
    rcases Nat.lt_or_ge q r with h2 | h2
    · have e2 : ((q : Int) < (r : Int)) = True := by simp; omega
      have hc := hcall h1 h2
      unfold Sorts at hc
      simp -implicitDefEqProofs only [Jg, Jh, Jk, Jm, Jo, Jp, Jq, Jr, Ju, Jv, Jy, Jz, JD, JJ, JK, JL, JM, JN, JO, JP, JU, JV, JX, J12, J13, J15, J1e, J1g, noescs, Jg, J1i, J1j, J1o ti3, J1N, J1P, J1Q, J1R, J1S, J1W, J2e, J2f, J2k, J2K, J2L, J2O, J2T, J2V, J2X, ↓reduceIte, reduceCtorEq, beq_self_eq_true, cond_true, cond_false, and_true, J34, J36, decide_true, beq_eq_false_iff_ne, eq_self, forall_const, not_false_eq_true, ne_eq, false_implies, e1, e2, t0, t1, t2, t3, t4, hne]
      refine callS [0, 1] (hc) rfl rfl rfl ?_
      rintro _ _ ⟨rfl, rs', hp', rfl⟩
      refine ⟨_, _, rfl, ?_⟩
      simp -implicitDefEqProofs only [JJ, JP, J2r, J2s, J2t, J2u, J2w, J2x, J2C, J2E, J2F, J2H, J2I, J2J, J2K, J2P, J2Q, J31, ↓reduceIte, eq_self, J3c]
      exact hQ _ (by exact ⟨rfl, rfl, rfl, rfl, rfl, rfl, rfl, rfl⟩) _ hp'
    · have e2 : ((q : Int) < (r : Int)) = False := by simp; omega
      simp -implicitDefEqProofs only [Jm, Jo, Jp, Jq, Jr, Ju, Jv, Jy, Jz, JD, JJ, JK, JL, JM, JN, JO, JP, JV, JX, J13, J15, J1i, J1j, J1o ti3, J1P, J1Q, J1R, J1S, J1W, J2e, J2f, J2k, J2X, ↓reduceIte, reduceCtorEq, beq_self_eq_true, cond_true, cond_false, true_and, and_true, J34, J36, decide_true, decide_false, J39, eq_self, forall_const, false_implies, e1, e2, t0, t1, t2, t3, t4]
      exact hQ _ (by exact ⟨rfl, rfl, rfl, rfl, rfl, rfl, rfl, rfl⟩) _ (.refl _)
  · have e1 : ((p : Int) < (q : Int)) = False := by simp; omega
    simp -implicitDefEqProofs only [Jm, Jo, Jp, Jq, Jr, Ju, Jv, Jy, Jz, JD, JJ, JK, JL, JM, JN, JO, JP, JV, JX, J13, J15, J1i, J1j, J1o ti3, J1P, J1Q, J1R, J1S, J1W, J2e, J2f, J2k, J2X, ↓reduceIte, beq_self_eq_true, cond_true, cond_false, true_and, J34, J36, decide_false, decide_eq_true_eq, decide_eq_false_iff_not, J39, eq_self, forall_const, false_implies, e1, t0, t1, t2, t3, t4]
    exact hQ _ (by exact ⟨rfl, rfl, rfl, rfl, rfl, rfl, rfl, rfl⟩) _ (.refl _)

set_option maxHeartbeats 4000000 in
/-- Two stretches are merged. -/
theorem vc_sym (H : SortE tS tE k) (hC : CmpOk fc nm R) {fM fO fR : FuncId} (hR2 : FnOk Tryz.prog fR 38 (cSwapR tS tE) []) (hO : FnOk Tryz.prog fO 58 (cRot tS tF fR) []) (hF : FnOk Tryz.prog fM 220 (cSym tS tE tF fO fM) [])
    (hne : fR ≠ 288) (hne2 : fO ≠ 288) (hne3 : fM ≠ 288) : ∀ (d : Nat) (rows : List (List D)) (hR : ∀ x ∈ rows, R x) (hr : ∀ x ∈ rows, x.length = k) (hbig : rows.length < 1000000000) (a m b : Nat) (hd : b - a ≤ d) (ha : a < m) (hm : m < b) (hb : b ≤ rows.length),
    Sorts fM [.one (.own 0 ver rows.length), .one (.d (.int .i64 a)), .one (.d (.int .i64 m)), .one (.d (.int .i64 b)), .one (.fn fc [.ptr 1 0])] k ver nm rows
  | 0, _, _, _, _, _, _, _, hd, ha, hm, _ => by omega
  | d + 1, rows, hR, hr, hbig, a, m, b, hd, ha, hm, hb => by
    obtain ⟨b1, z1, b2, z2, hS, hb2, hz2, hk0⟩ := H.S
    obtain ⟨b3, z3, fs3, hE⟩ := H.E
    have ih := vc_sym H hC hR2 hO hF hne hne2 hne3 d
    unfold Sorts at ih ⊢
    refine VC_of_fn mixed hF (by simp) ?_
    generalize hlen : rows.length = len at *
    show vwp Tryz.prog 2 (cSym tS tE tF fO fM) _ [(0, .one (.own 0 ver len)), (1, .one (.d (.int .i64 a))), (2, .one (.d (.int .i64 m))), (3, .one (.d (.int .i64 b))), (4, .one (.fn fc [.ptr 1 0]))] [.arr false k ver rows, .box [.fn nm []]]
    unfold cSym
    rw [vwpI_eq]
    have w1 := wrapS (a := m) (b := a) (c := m - a) (by omega) (by omega)
    have w2 := wrapS (a := b) (b := m) (c := b - m) (by omega) (by omega)
    by_cases h1 : m - a = 1
    · have hc : (((m - a : Nat) : Int) = 1) = True := by simp; omega
      simp -implicitDefEqProofs only [Jm, Jo, Jr, Js, Ju, Jv, Jy, Jz, JA, JD, JJ, JK, JL, JN, JO, JP, JT, JV, JW, J13, J14, J1i, J1j, J1k, J1o ti3, J1o ti357, J1p ti3 ti357 rfl, J1P, J1Q, J1R, J1S, J2y, J2X, ↓reduceIte, beq_self_eq_true, cond_true, cond_false, and_true, J34, J36, beq_iff_eq, beq_eq_false_iff_ne, eq_self, forall_const, not_true_eq_false, ne_eq, false_implies, w1, hc]
      refine loopI (α := Nat × Nat) (fun x => [(10, .one (.d (.int .i64 x.1))), (11, .one (.d (.int .i64 x.2))), (0, .one (.own 0 ver len)), (1, .one (.d (.int .i64 a))), (4, .one (.fn fc [.ptr 1 0]))]) (fun x => [.arr false k ver rows, .box [.fn nm []]])
        (fun x => m ≤ x.1 ∧ x.1 ≤ x.2 ∧ x.2 ≤ b) (fun x => x.2 - x.1) (m, b)
        (keepI [0, 1] _ (WkH.refl _) rfl rfl rfl ⟨⟨_, WkV.refl _, rfl⟩, ⟨_, WkV.refl _, rfl⟩, ⟨_, WkV.refl _, rfl⟩, ⟨_, WkV.refl _, rfl⟩, ⟨_, WkV.refl _, rfl⟩, trivial⟩) ⟨Nat.le_refl _, by show m ≤ b; omega, Nat.le_refl _⟩ ?_
      rintro ⟨i, j⟩ ⟨hi, hij, hj⟩
      simp only at hi hij hj
      rcases Nat.lt_or_ge i j with h | h
      · have hc2 : ((i : Int) < (j : Int)) = True := by simp; omega
        have v1 := wrapA (a := i) (b := j) rfl (by omega)
        have v2 := half1 (n := i + j) (by omega)
        have v3 := half2 (n := i + j)
        have v4 := half3 (n := (i + j) / 2) (by omega)
        have v5 := wrapA1 (a := (i + j) / 2) rfl (by omega)
        obtain ⟨x, hx⟩ := rowOf (l := rows) (i := (i + j) / 2) (by omega)
        obtain ⟨y, hy⟩ := rowOf (l := rows) (i := a) (by omega)
        have hxk := hr x (List.mem_of_getElem? hx)
        have hyk := hr y (List.mem_of_getElem? hy)
        have l1 : (((i + j) / 2 : Nat) : Int) < (len : Int) := by omega
        have l2 : (a : Int) < (len : Int) := by omega
        simp -implicitDefEqProofs only [Jm, Jo, Jp, Jr, Js, Ju, Jv, Jy, Jz, JA, JB, JD, JE, JI, JJ, JK, JL, JN, JO, JP, JS, JT, JU, JV, JW, J13, J14, J1e, J1f, J1i, J1j, J1k, J1o ti3, J1o ti357, J1p ti3 ti357 rfl, J1p ti357 ti3 rfl, J1t, J1u, J1F, J1N, J1P, J1Q, J1R, J1S, J1Z, J2y, J2z, J2A, J2G, J2L, J2M, J2N, J2O, J2S, J2T, J2V, J2X, ↓reduceIte, reduceCtorEq, beq_self_eq_true, cond_true, cond_false, true_and, and_true, and_self, J34, J36, decide_true, eq_self, forall_const, false_implies, J3d, so_indexAddr hS rfl, so_load hE, hc2, v1, v2, v3, v4, shr_ok, l1, l2, hx, hy, hxk, hyk, Int.natCast_nonneg, Int.toNat_natCast, List.length_map, take_all hxk, take_all hyk]
        refine cmp_call hC (hR x (List.mem_of_getElem? hx)) (hR y (List.mem_of_getElem? hy)) fun c => ?_
        rcases Int.lt_or_le c 0 with h3 | h3
        · have he : (c < 0) = True := by simp; omega
          simp -implicitDefEqProofs only [Jm, Jo, Jr, Js, Jv, Jz, JD, JG, JJ, JK, JL, JN, JO, JP, JV, JW, J13, J14, J1i, J1k, J1o ti3, J1P, J1Q, J1R, J1S, J2y, J2X, ↓reduceIte, reduceCtorEq, beq_self_eq_true, cond_true, cond_false, and_true, J34, J36, decide_true, eq_self, forall_const, false_implies, he, v5]
          refine ⟨((i + j) / 2 + 1, j), ⟨by show m ≤ (i + j) / 2 + 1; omega, by show (i + j) / 2 + 1 ≤ j; omega, hj⟩, by show j - ((i + j) / 2 + 1) < j - i; omega, ?_⟩
          exact (keepI [0, 1] _ (WkH.refl _) rfl rfl rfl ⟨⟨_, WkV.refl _, rfl⟩, ⟨_, WkV.refl _, rfl⟩, ⟨_, WkV.refl _, rfl⟩, ⟨_, WkV.refl _, rfl⟩, ⟨_, WkV.refl _, rfl⟩, trivial⟩)
        · have he : (c < 0) = False := by simp; omega
          simp -implicitDefEqProofs only [Jm, Jo, Jr, Js, Jv, Jz, JD, JG, JJ, JK, JL, JN, JO, JP, JV, JW, J13, J14, J1i, J1k, J1o ti3, J1P, J1Q, J1R, J1S, J2y, J2X, ↓reduceIte, beq_self_eq_true, cond_true, cond_false, true_and, J34, J36, decide_false, J39, eq_self, forall_const, false_implies, he]
          refine ⟨(i, (i + j) / 2), ⟨hi, by show i ≤ (i + j) / 2; omega, by show (i + j) / 2 ≤ b; omega⟩, by show (i + j) / 2 - i < j - i; omega, ?_⟩
          exact (keepI [0, 1] _ (WkH.refl _) rfl rfl rfl ⟨⟨_, WkV.refl _, rfl⟩, ⟨_, WkV.refl _, rfl⟩, ⟨_, WkV.refl _, rfl⟩, ⟨_, WkV.refl _, rfl⟩, ⟨_, WkV.refl _, rfl⟩, trivial⟩)
      · have hc2 : ((i : Int) < (j : Int)) = False := by simp; omega
        simp -implicitDefEqProofs only [Jm, Jo, Jp, Jr, Js, Ju, Jv, Jy, Jz, JA, JB, JD, JE, JI, JJ, JK, JL, JN, JO, JP, JT, JV, JW, J13, J14, J1i, J1j, J1k, J1o ti3, J1o ti357, J1p ti3 ti357 rfl, J1P, J1Q, J1R, J1S, J2y, J2X, ↓reduceIte, beq_self_eq_true, cond_true, cond_false, true_and, J34, J36, decide_false, J39, eq_self, forall_const, false_implies, hc2]
        refine loopI (α := Nat × List (List D)) (fun x => [(13, .one (.d (.int .i64 x.1))), (10, .one (.d (.int .i64 i))), (0, .one (.own 0 ver len))]) (fun x => [.arr false k ver x.2, .box [.fn nm []]])
          (fun x => x.1 ≤ len ∧ List.Perm x.2 rows) (fun x => len - x.1) (a, rows)
          (keepI [0, 1] _ (WkH.refl _) rfl rfl rfl ⟨⟨_, WkV.refl _, rfl⟩, ⟨_, WkV.refl _, rfl⟩, ⟨_, WkV.refl _, rfl⟩, trivial⟩) ⟨by show a ≤ len; omega, .refl _⟩ ?_
        rintro ⟨q, rs⟩ ⟨hq, hp⟩
        have hl : rs.length = len := by rw [hp.length_eq, hlen]
        have hrk : ∀ x ∈ rs, x.length = k := fun x hx => hr x (hp.mem_iff.1 hx)
        simp only at hq hl hp
        have v1 := wrapS1 (a := i) (c := i - 1) (by omega) (by omega)
        rcases Nat.lt_or_ge q (i - 1) with h4 | h4
        · have hc4 : ((q : Int) < ((i - 1 : Nat) : Int)) = True := by simp; omega
          have v2 := wrapA1 (a := q) rfl (by omega)
          obtain ⟨x, hx⟩ := rowOf (l := rs) (i := q) (by omega)
          obtain ⟨y, hy⟩ := rowOf (l := rs) (i := q + 1) (by omega)
          have hxk := hrk x (List.mem_of_getElem? hx)
          have hyk := hrk y (List.mem_of_getElem? hy)
          have hy2 := sw_get (i := q) (rows := rs) (by omega) hy
          have l1 : (q : Int) < (len : Int) := by omega
          have l2 : ((q + 1 : Nat) : Int) < (len : Int) := by omega
          simp -implicitDefEqProofs only [Jm, Jo, Jp, Jr, Js, Ju, Jv, Jy, Jz, JA, JB, JC, JD, JE, JF, JG, JI, JJ, JK, JL, JN, JO, JP, JQ, JS, JT, JV, JW, J13, J14, J1i, J1j, J1k, J1o ti3, J1t, J1u, J1v, J1w, J1x, J1D, J1F, J1P, J1Q, J1R, J1S, J2y, J2z, J2D, J2G, J2I, J2J, J2K, J2L, J2P, J2X, J31, ↓reduceIte, reduceCtorEq, beq_self_eq_true, cond_true, cond_false, true_and, and_true, and_self, J34, J36, decide_true, eq_self, forall_const, false_implies, J3c, J3d, so_indexAddr hS rfl, so_load hE, so_store hE, hc4, v1, v2, l1, l2, hx, hy, hxk, hyk, hy2, Int.natCast_nonneg, Int.toNat_natCast, List.length_map, take_all hxk, take_all hyk, fzLs_ds, toDs_ds, drop_all hxk, drop_all hyk]
          refine ⟨(q + 1, (rs.set q y).set (q + 1) x), ⟨by show q + 1 ≤ len; omega, (sw_perm hx hy).trans hp⟩, by show len - (q + 1) < len - q; omega, ?_⟩
          exact (keepI [0, 1] _ (WkH.refl _) rfl rfl rfl ⟨⟨_, WkV.refl _, rfl⟩, ⟨_, WkV.refl _, rfl⟩, ⟨_, WkV.refl _, rfl⟩, trivial⟩)
        · have hc4 : ((q : Int) < ((i - 1 : Nat) : Int)) = False := by simp; omega
          simp -implicitDefEqProofs only [Jm, Jo, Jp, Jr, Js, Ju, Jv, Jy, Jz, JA, JB, JC, JD, JE, JF, JI, JJ, JK, JL, JN, JO, JP, JV, JW, J13, J1i, J1j, J1k, J1o ti3, J1P, J1Q, J1R, J1S, J2y, J2I, J2J, J2X, J31, ↓reduceIte, beq_self_eq_true, cond_true, cond_false, true_and, J34, J36, decide_false, J39, eq_self, forall_const, false_implies, J3c, v1, hc4]
          apply vend_of [0, 1]; rfl; rfl
          exact ⟨rfl, _, hp, rfl⟩
    by_cases h2 : b - m = 1
    · have hc : (((m - a : Nat) : Int) = 1) = False := by simp; omega
      have hc1 : (((b - m : Nat) : Int) = 1) = True := by simp; omega
      simp -implicitDefEqProofs only [Jm, Jo, Jr, Js, Ju, Jv, Jy, Jz, JA, JD, JJ, JK, JL, JN, JO, JP, JT, JV, JW, J13, J14, J1i, J1j, J1k, J1o ti3, J1o ti357, J1p ti3 ti357 rfl, J1P, J1Q, J1R, J1S, J2y, J2X, ↓reduceIte, beq_self_eq_true, cond_true, cond_false, true_and, and_true, J34, J36, beq_iff_eq, beq_eq_false_iff_ne, eq_self, forall_const, not_true_eq_false, not_false_eq_true, ne_eq, false_implies, w1, w2, hc, hc1]
      refine loopI (α := Nat × Nat) (fun x => [(14, .one (.d (.int .i64 x.1))), (15, .one (.d (.int .i64 x.2))), (0, .one (.own 0 ver len)), (2, .one (.d (.int .i64 m))), (4, .one (.fn fc [.ptr 1 0]))]) (fun x => [.arr false k ver rows, .box [.fn nm []]])
        (fun x => a ≤ x.1 ∧ x.1 ≤ x.2 ∧ x.2 ≤ m) (fun x => x.2 - x.1) (a, m)
        (keepI [0, 1] _ (WkH.refl _) rfl rfl rfl ⟨⟨_, WkV.refl _, rfl⟩, ⟨_, WkV.refl _, rfl⟩, ⟨_, WkV.refl _, rfl⟩, ⟨_, WkV.refl _, rfl⟩, ⟨_, WkV.refl _, rfl⟩, trivial⟩) ⟨Nat.le_refl _, by show a ≤ m; omega, Nat.le_refl _⟩ ?_
      rintro ⟨i, j⟩ ⟨hi, hij, hj⟩
      simp only at hi hij hj
      rcases Nat.lt_or_ge i j with h | h
      · have hc2 : ((i : Int) < (j : Int)) = True := by simp; omega
        have v1 := wrapA (a := i) (b := j) rfl (by omega)
        have v2 := half1 (n := i + j) (by omega)
        have v3 := half2 (n := i + j)
        have v4 := half3 (n := (i + j) / 2) (by omega)
        have v5 := wrapA1 (a := (i + j) / 2) rfl (by omega)
        obtain ⟨y, hy⟩ := rowOf (l := rows) (i := (i + j) / 2) (by omega)
        obtain ⟨x, hx⟩ := rowOf (l := rows) (i := m) (by omega)
        have hxk := hr x (List.mem_of_getElem? hx)
        have hyk := hr y (List.mem_of_getElem? hy)
        have l1 : (((i + j) / 2 : Nat) : Int) < (len : Int) := by omega
        have l2 : (m : Int) < (len : Int) := by omega
        simp -implicitDefEqProofs only [Jm, Jo, Jp, Jr, Js, Ju, Jv, Jy, Jz, JA, JB, JD, JE, JI, JJ, JK, JL, JN, JO, JP, JS, JT, JU, JV, JW, J13, J14, J1e, J1f, J1i, J1j, J1k, J1o ti3, J1o ti357, J1p ti3 ti357 rfl, J1p ti357 ti3 rfl, J1t, J1u, J1F, J1N, J1P, J1Q, J1R, J1S, J1Z, J2y, J2z, J2A, J2G, J2L, J2M, J2N, J2O, J2S, J2T, J2V, J2X, ↓reduceIte, reduceCtorEq, beq_self_eq_true, cond_true, cond_false, true_and, and_true, and_self, J34, J36, decide_true, eq_self, forall_const, false_implies, J3d, so_indexAddr hS rfl, so_load hE, hc2, v1, v2, v3, v4, shr_ok, l1, l2, hx, hy, hxk, hyk, Int.natCast_nonneg, Int.toNat_natCast, List.length_map, take_all hxk, take_all hyk]
        refine cmp_call hC (hR x (List.mem_of_getElem? hx)) (hR y (List.mem_of_getElem? hy)) fun c => ?_
        rcases Int.lt_or_le c 0 with h3 | h3
        · have he : (c < 0) = True := by simp; omega
          simp -implicitDefEqProofs only [Jm, Jo, Jr, Js, Jv, Jz, JD, JG, JJ, JK, JL, JN, JO, JP, JR, JV, JW, J13, J14, J18, J1i, J1k, J1o ti3, J1P, J1Q, J1R, J1S, J2y, J2X, ↓reduceIte, reduceCtorEq, beq_self_eq_true, cond_true, cond_false, and_true, J34, J36, decide_true, eq_self, forall_const, false_implies, J3a, J3b, he]
          refine ⟨(i, (i + j) / 2), ⟨hi, by show i ≤ (i + j) / 2; omega, by show (i + j) / 2 ≤ m; omega⟩, by show (i + j) / 2 - i < j - i; omega, ?_⟩
          exact (keepI [0, 1] _ (WkH.refl _) rfl rfl rfl ⟨⟨_, WkV.refl _, rfl⟩, ⟨_, WkV.refl _, rfl⟩, ⟨_, WkV.refl _, rfl⟩, ⟨_, WkV.refl _, rfl⟩, ⟨_, WkV.refl _, rfl⟩, trivial⟩)
        · have he : (c < 0) = False := by simp; omega
          simp -implicitDefEqProofs only [Jm, Jo, Jr, Js, Jv, Jz, JD, JG, JJ, JK, JL, JN, JO, JP, JR, JV, JW, J13, J14, J18, J1i, J1k, J1o ti3, J1P, J1Q, J1R, J1S, J2y, J2X, ↓reduceIte, beq_self_eq_true, cond_true, cond_false, true_and, J34, J36, decide_false, J39, eq_self, forall_const, false_implies, J3a, J3b, he, v5]
          refine ⟨((i + j) / 2 + 1, j), ⟨by show a ≤ (i + j) / 2 + 1; omega, by show (i + j) / 2 + 1 ≤ j; omega, hj⟩, by show j - ((i + j) / 2 + 1) < j - i; omega, ?_⟩
          exact (keepI [0, 1] _ (WkH.refl _) rfl rfl rfl ⟨⟨_, WkV.refl _, rfl⟩, ⟨_, WkV.refl _, rfl⟩, ⟨_, WkV.refl _, rfl⟩, ⟨_, WkV.refl _, rfl⟩, ⟨_, WkV.refl _, rfl⟩, trivial⟩)
      · have hc2 : ((i : Int) < (j : Int)) = False := by simp; omega
        simp -implicitDefEqProofs only [Jm, Jo, Jp, Jr, Js, Ju, Jv, Jy, Jz, JA, JB, JD, JE, JI, JJ, JK, JL, JN, JO, JP, JT, JV, JW, J13, J14, J1i, J1j, J1k, J1o ti3, J1o ti357, J1p ti3 ti357 rfl, J1P, J1Q, J1R, J1S, J2y, J2X, ↓reduceIte, beq_self_eq_true, cond_true, cond_false, true_and, J34, J36, decide_false, J39, eq_self, forall_const, false_implies, hc2]
        refine loopI (α := Nat × List (List D)) (fun x => [(17, .one (.d (.int .i64 x.1))), (14, .one (.d (.int .i64 i))), (0, .one (.own 0 ver len))]) (fun x => [.arr false k ver x.2, .box [.fn nm []]])
          (fun x => x.1 ≤ m ∧ List.Perm x.2 rows) (fun x => x.1) (m, rows)
          (keepI [0, 1] _ (WkH.refl _) rfl rfl rfl ⟨⟨_, WkV.refl _, rfl⟩, ⟨_, WkV.refl _, rfl⟩, ⟨_, WkV.refl _, rfl⟩, trivial⟩) ⟨Nat.le_refl _, .refl _⟩ ?_
        rintro ⟨q, rs⟩ ⟨hq, hp⟩
        have hl : rs.length = len := by rw [hp.length_eq, hlen]
        have hrk : ∀ x ∈ rs, x.length = k := fun x hx => hr x (hp.mem_iff.1 hx)
        simp only at hq hl hp
        rcases Nat.lt_or_ge i q with h4 | h4
        · have hc4 : ((i : Int) < (q : Int)) = True := by simp; omega
          have v2 := wrapS1 (a := q) (c := q - 1) (by omega) (by omega)
          obtain ⟨x, hx⟩ := rowOf (l := rs) (i := q) (by omega)
          obtain ⟨y, hy⟩ := rowOf (l := rs) (i := q - 1) (by omega)
          have hxk := hrk x (List.mem_of_getElem? hx)
          have hyk := hrk y (List.mem_of_getElem? hy)
          have hy2 := sw_get (i := q) (rows := rs) (by omega) hy
          have l1 : (q : Int) < (len : Int) := by omega
          have l2 : ((q - 1 : Nat) : Int) < (len : Int) := by omega
          simp -implicitDefEqProofs only [Jm, Jo, Jp, Jr, Js, Ju, Jv, Jy, Jz, JA, JB, JC, JD, JE, JF, JG, JI, JJ, JK, JL, JN, JO, JP, JQ, JS, JT, JV, JW, J13, J14, J1i, J1j, J1k, J1o ti3, J1t, J1u, J1v, J1w, J1x, J1D, J1F, J1P, J1Q, J1R, J1S, J2y, J2z, J2D, J2G, J2I, J2J, J2K, J2L, J2P, J2X, J31, ↓reduceIte, reduceCtorEq, beq_self_eq_true, cond_true, cond_false, true_and, and_true, and_self, J34, J36, decide_true, eq_self, forall_const, false_implies, J3c, J3d, gt_iff_lt, so_indexAddr hS rfl, so_load hE, so_store hE, hc4, v2, l1, l2, hx, hy, hxk, hyk, hy2, Int.natCast_nonneg, Int.toNat_natCast, List.length_map, take_all hxk, take_all hyk, fzLs_ds, toDs_ds, drop_all hxk, drop_all hyk]
          refine ⟨(q - 1, (rs.set q y).set (q - 1) x), ⟨by show q - 1 ≤ m; omega, (sw_perm hx hy).trans hp⟩, by show q - 1 < q; omega, ?_⟩
          exact (keepI [0, 1] _ (WkH.refl _) rfl rfl rfl ⟨⟨_, WkV.refl _, rfl⟩, ⟨_, WkV.refl _, rfl⟩, ⟨_, WkV.refl _, rfl⟩, trivial⟩)
        · have hc4 : ((i : Int) < (q : Int)) = False := by simp; omega
          simp -implicitDefEqProofs only [Jm, Jo, Jp, Jr, Js, Ju, Jv, Jy, Jz, JA, JB, JC, JD, JE, JF, JI, JJ, JK, JL, JN, JO, JP, JV, JW, J13, J1i, J1j, J1k, J1o ti3, J1P, J1Q, J1R, J1S, J2y, J2I, J2J, J2X, J31, ↓reduceIte, beq_self_eq_true, cond_true, cond_false, true_and, J34, J36, decide_false, J39, eq_self, forall_const, false_implies, J3c, gt_iff_lt, hc4]
          apply vend_of [0, 1]; rfl; rfl
          exact ⟨rfl, _, hp, rfl⟩
    have hc : (((m - a : Nat) : Int) = 1) = False := by simp; omega
    have hc1 : (((b - m : Nat) : Int) = 1) = False := by simp; omega
    have v1 := wrapA (a := a) (b := b) rfl (by omega)
    have v2 := half1 (n := a + b) (by omega)
    have v3 := half2 (n := a + b)
    have v4 := half3 (n := (a + b) / 2) (by omega)
    generalize hmid : (a + b) / 2 = mid at *
    have hm1 : a < mid := by omega
    have hm2 : mid < b := by omega
    have hm3 : a + b ≤ 2 * mid + 1 := by omega
    have hm4 : 2 * mid ≤ a + b := by omega
    have v5 := wrapA (a := mid) (b := m) rfl (by omega)
    have v6 := wrapS1 (a := mid + m) (c := mid + m - 1) (by omega) (by omega)
    rcases Nat.lt_or_ge mid m with h5 | h5
    · have hc5 : ((mid : Int) < (m : Int)) = True := by simp; omega
      have v7 := wrapS (a := mid + m) (b := b) (c := mid + m - b) (by omega) (by omega)
      simp -implicitDefEqProofs only [Jm, Jo, Jr, Js, Ju, Jv, Jy, Jz, JA, JD, JJ, JK, JL, JN, JO, JP, JT, JV, JW, J13, J14, J1i, J1j, J1k, J1o ti3, J1o ti357, J1p ti3 ti357 rfl, J1p ti357 ti3 rfl, J1P, J1Q, J1R, J1S, J2y, J2X, ↓reduceIte, reduceCtorEq, beq_self_eq_true, cond_true, cond_false, true_and, and_true, J34, J36, decide_true, beq_iff_eq, beq_eq_false_iff_ne, eq_self, forall_const, not_false_eq_true, ne_eq, false_implies, gt_iff_lt, w1, w2, hc, hc1, v1, v2, v3, v4, shr_ok, v5, v6, v7, hc5]
      refine loopI (α := Nat × Nat) (fun x => [(20, .one (.d (.int .i64 x.1))), (21, .one (.d (.int .i64 x.2))), (22, .one (.d (.int .i64 (mid + m - 1 : Nat)))), (19, .one (.d (.int .i64 (mid + m : Nat)))), (18, .one (.d (.int .i64 mid))), (0, .one (.own 0 ver len)), (1, .one (.d (.int .i64 a))), (2, .one (.d (.int .i64 m))), (3, .one (.d (.int .i64 b))), (4, .one (.fn fc [.ptr 1 0]))]) (fun x => [.arr false k ver rows, .box [.fn nm []]])
        (fun x => (mid + m - b) ≤ x.1 ∧ x.1 ≤ x.2 ∧ x.2 ≤ mid) (fun x => x.2 - x.1) ((mid + m - b), mid)
        (keepI [0, 1] _ (WkH.refl _) rfl rfl rfl ⟨⟨_, WkV.refl _, rfl⟩, ⟨_, WkV.refl _, rfl⟩, ⟨_, WkV.refl _, rfl⟩, ⟨_, WkV.refl _, rfl⟩, ⟨_, WkV.refl _, rfl⟩, ⟨_, WkV.refl _, rfl⟩, ⟨_, WkV.refl _, rfl⟩, ⟨_, WkV.refl _, rfl⟩, ⟨_, WkV.refl _, rfl⟩, ⟨_, WkV.refl _, rfl⟩, trivial⟩) ⟨Nat.le_refl _, by show (mid + m - b) ≤ mid; omega, Nat.le_refl _⟩ ?_
      rintro ⟨i, j⟩ ⟨hi, hij, hj⟩
      simp only at hi hij hj
      rcases Nat.lt_or_ge i j with h | h
      · have hc2 : ((i : Int) < (j : Int)) = True := by simp; omega
        have u1 := wrapA (a := i) (b := j) rfl (by omega)
        have u2 := half1 (n := i + j) (by omega)
        have u3 := half2 (n := i + j)
        have u4 := half3 (n := (i + j) / 2) (by omega)
        have u5 := wrapA1 (a := (i + j) / 2) rfl (by omega)
        have u6 := wrapS (a := mid + m - 1) (b := (i + j) / 2) (c := mid + m - 1 - (i + j) / 2) (by omega) (by omega)
        obtain ⟨x, hx⟩ := rowOf (l := rows) (i := mid + m - 1 - (i + j) / 2) (by omega)
        obtain ⟨y, hy⟩ := rowOf (l := rows) (i := (i + j) / 2) (by omega)
        have hxk := hr x (List.mem_of_getElem? hx)
        have hyk := hr y (List.mem_of_getElem? hy)
        have l1 : (((i + j) / 2 : Nat) : Int) < (len : Int) := by omega
        have l2 : ((mid + m - 1 - (i + j) / 2 : Nat) : Int) < (len : Int) := by omega
        simp -implicitDefEqProofs only [Jm, Jo, Jp, Jr, Js, Ju, Jv, Jy, Jz, JA, JB, JD, JE, JI, JJ, JK, JL, JN, JO, JP, JS, JT, JU, JV, JW, J13, J14, J1e, J1f, J1i, J1j, J1k, J1o ti3, J1o ti357, J1p ti3 ti357 rfl, J1p ti357 ti3 rfl, J1t, J1u, J1F, J1N, J1P, J1Q, J1R, J1S, J1Z, J2y, J2z, J2A, J2G, J2L, J2M, J2N, J2O, J2S, J2T, J2V, J2X, ↓reduceIte, reduceCtorEq, beq_self_eq_true, cond_true, cond_false, true_and, and_true, and_self, J34, J36, decide_true, eq_self, forall_const, false_implies, J3d, so_indexAddr hS rfl, so_load hE, hc2, u1, u2, u3, u4, u6, shr_ok, l1, l2, hx, hy, hxk, hyk, Int.natCast_nonneg, Int.toNat_natCast, List.length_map, take_all hxk, take_all hyk]
        refine cmp_call hC (hR x (List.mem_of_getElem? hx)) (hR y (List.mem_of_getElem? hy)) fun c => ?_
        rcases Int.lt_or_le c 0 with h3 | h3
        · have he : (c < 0) = True := by simp; omega
          simp -implicitDefEqProofs only [Jm, Jo, Jr, Js, Jv, Jz, JD, JG, JJ, JK, JL, JN, JO, JP, JR, JV, JW, J13, J14, J18, J1i, J1k, J1o ti3, J1P, J1Q, J1R, J1S, J2y, J2X, ↓reduceIte, reduceCtorEq, beq_self_eq_true, cond_true, cond_false, and_true, J34, J36, decide_true, eq_self, forall_const, false_implies, J3a, J3b, he]
          refine ⟨(i, (i + j) / 2), ⟨hi, by show i ≤ (i + j) / 2; omega, by show (i + j) / 2 ≤ mid; omega⟩, by show (i + j) / 2 - i < j - i; omega, ?_⟩
          exact (keepI [0, 1] _ (WkH.refl _) rfl rfl rfl ⟨⟨_, WkV.refl _, rfl⟩, ⟨_, WkV.refl _, rfl⟩, ⟨_, WkV.refl _, rfl⟩, ⟨_, WkV.refl _, rfl⟩, ⟨_, WkV.refl _, rfl⟩, ⟨_, WkV.refl _, rfl⟩, ⟨_, WkV.refl _, rfl⟩, ⟨_, WkV.refl _, rfl⟩, ⟨_, WkV.refl _, rfl⟩, ⟨_, WkV.refl _, rfl⟩, trivial⟩)
        · have he : (c < 0) = False := by simp; omega
          simp -implicitDefEqProofs only [Jm, Jo, Jr, Js, Jv, Jz, JD, JG, JJ, JK, JL, JN, JO, JP, JR, JV, JW, J13, J14, J18, J1i, J1k, J1o ti3, J1P, J1Q, J1R, J1S, J2y, J2X, ↓reduceIte, beq_self_eq_true, cond_true, cond_false, true_and, J34, J36, decide_false, J39, eq_self, forall_const, false_implies, J3a, J3b, he, u5]
          refine ⟨((i + j) / 2 + 1, j), ⟨by show (mid + m - b) ≤ (i + j) / 2 + 1; omega, by show (i + j) / 2 + 1 ≤ j; omega, hj⟩, by show j - ((i + j) / 2 + 1) < j - i; omega, ?_⟩
          exact (keepI [0, 1] _ (WkH.refl _) rfl rfl rfl ⟨⟨_, WkV.refl _, rfl⟩, ⟨_, WkV.refl _, rfl⟩, ⟨_, WkV.refl _, rfl⟩, ⟨_, WkV.refl _, rfl⟩, ⟨_, WkV.refl _, rfl⟩, ⟨_, WkV.refl _, rfl⟩, ⟨_, WkV.refl _, rfl⟩, ⟨_, WkV.refl _, rfl⟩, ⟨_, WkV.refl _, rfl⟩, ⟨_, WkV.refl _, rfl⟩, trivial⟩)
      · have hc2 : ((i : Int) < (j : Int)) = False := by simp; omega
        have u7 := wrapS (a := mid + m) (b := i) (c := mid + m - i) (by omega) (by omega)
        simp -implicitDefEqProofs only [Jm, Jo, Jp, Jr, Js, Ju, Jv, Jy, Jz, JA, JB, JD, JE, JI, JJ, JK, JL, JN, JO, JP, JT, JV, JW, J13, J14, J1i, J1j, J1k, J1o ti3, J1o ti357, J1p ti3 ti357 rfl, J1P, J1Q, J1R, J1S, J2y, J2X, ↓reduceIte, beq_self_eq_true, cond_true, cond_false, true_and, J34, J36, decide_false, J39, eq_self, forall_const, false_implies, hc2, u7]
        show vwp _ _ _ _ _ _
        refine vc_symA hne2 rows i m (mid + m - i) rfl rfl rfl rfl rfl (fun g1 g2 => ?_) ?_
        · have := vc_rot (ver := ver) (nm := nm) (fc := fc) H hR2 hO hne rows hr (by omega) i m (mid + m - i) g1 g2 (by omega)
          rw [hlen] at this
          exact this
        rintro T1 ⟨a0, a1, a2, a3, a4, a5, a6, a7⟩ rows1 hp1
        simp only [lk_cons, Nat.reduceBEq, cond_true, cond_false] at a0 a1 a2 a3 a4 a5 a6 a7
        have hl1 : rows1.length = len := by rw [hp1.length_eq, hlen]
        simp -implicitDefEqProofs only [Jy, JD]
        show vwp _ _ _ _ _ _
        refine vc_symB hne3 rows1 a i mid a0 a1 a6 a5 a4 (fun g1 g2 => ?_) ?_
        · have := ih rows1 (fun x hx => hR x (hp1.mem_iff.1 hx)) (fun x hx => hr x (hp1.mem_iff.1 hx)) (by omega) a i mid (by omega) g1 g2 (by omega)
          rw [hl1] at this
          exact this
        rintro T2 ⟨c0, c1, c2, c3, c4, c5, c6, c7⟩ rows2 hp2
        rw [a0] at c0; rw [a3] at c3; rw [a4] at c4; rw [a5] at c5; rw [a7] at c7
        have hl2 : rows2.length = len := by rw [hp2.length_eq, hl1]
        have hq2 := hp2.trans hp1
        simp -implicitDefEqProofs only [JD]
        show vwp _ _ _ _ _ _
        refine vc_symC hne3 rows2 mid (mid + m - i) b c0 c5 c7 c3 c4 (fun g1 g2 => ?_) ?_
        · have := ih rows2 (fun x hx => hR x (hq2.mem_iff.1 hx)) (fun x hx => hr x (hq2.mem_iff.1 hx)) (by omega) mid (mid + m - i) b (by omega) g1 g2 (by omega)
          rw [hl2] at this
          exact this
        rintro T3 - rows3 hp3
        simp -implicitDefEqProofs only [J2I, J2J, J31, J3c]
        apply vend_of [0, 1]; rfl; rfl
        exact ⟨rfl, _, hp3.trans hq2, rfl⟩
    · have hc5 : ((mid : Int) < (m : Int)) = False := by simp; omega
      simp -implicitDefEqProofs only [Jm, Jo, Jr, Js, Ju, Jv, Jy, Jz, JA, JD, JJ, JK, JL, JN, JO, JP, JT, JV, JW, J13, J14, J1i, J1j, J1k, J1o ti3, J1o ti357, J1p ti3 ti357 rfl, J1p ti357 ti3 rfl, J1P, J1Q, J1R, J1S, J2y, J2X, ↓reduceIte, beq_self_eq_true, cond_true, cond_false, true_and, J34, J36, decide_false, beq_iff_eq, beq_eq_false_iff_ne, J39, eq_self, forall_const, not_false_eq_true, ne_eq, false_implies, gt_iff_lt, w1, w2, hc, hc1, v1, v2, v3, v4, shr_ok, v5, v6, hc5]
      refine loopI (α := Nat × Nat) (fun x => [(20, .one (.d (.int .i64 x.1))), (21, .one (.d (.int .i64 x.2))), (22, .one (.d (.int .i64 (mid + m - 1 : Nat)))), (19, .one (.d (.int .i64 (mid + m : Nat)))), (18, .one (.d (.int .i64 mid))), (0, .one (.own 0 ver len)), (1, .one (.d (.int .i64 a))), (2, .one (.d (.int .i64 m))), (3, .one (.d (.int .i64 b))), (4, .one (.fn fc [.ptr 1 0]))]) (fun x => [.arr false k ver rows, .box [.fn nm []]])
        (fun x => a ≤ x.1 ∧ x.1 ≤ x.2 ∧ x.2 ≤ m) (fun x => x.2 - x.1) (a, m)
        (keepI [0, 1] _ (WkH.refl _) rfl rfl rfl ⟨⟨_, WkV.refl _, rfl⟩, ⟨_, WkV.refl _, rfl⟩, ⟨_, WkV.refl _, rfl⟩, ⟨_, WkV.refl _, rfl⟩, ⟨_, WkV.refl _, rfl⟩, ⟨_, WkV.refl _, rfl⟩, ⟨_, WkV.refl _, rfl⟩, ⟨_, WkV.refl _, rfl⟩, ⟨_, WkV.refl _, rfl⟩, ⟨_, WkV.refl _, rfl⟩, trivial⟩) ⟨Nat.le_refl _, by show a ≤ m; omega, Nat.le_refl _⟩ ?_
      rintro ⟨i, j⟩ ⟨hi, hij, hj⟩
      simp only at hi hij hj
      rcases Nat.lt_or_ge i j with h | h
      · have hc2 : ((i : Int) < (j : Int)) = True := by simp; omega
        have u1 := wrapA (a := i) (b := j) rfl (by omega)
        have u2 := half1 (n := i + j) (by omega)
        have u3 := half2 (n := i + j)
        have u4 := half3 (n := (i + j) / 2) (by omega)
        have u5 := wrapA1 (a := (i + j) / 2) rfl (by omega)
        have u6 := wrapS (a := mid + m - 1) (b := (i + j) / 2) (c := mid + m - 1 - (i + j) / 2) (by omega) (by omega)
        obtain ⟨x, hx⟩ := rowOf (l := rows) (i := mid + m - 1 - (i + j) / 2) (by omega)
        obtain ⟨y, hy⟩ := rowOf (l := rows) (i := (i + j) / 2) (by omega)
        have hxk := hr x (List.mem_of_getElem? hx)
        have hyk := hr y (List.mem_of_getElem? hy)
        have l1 : (((i + j) / 2 : Nat) : Int) < (len : Int) := by omega
        have l2 : ((mid + m - 1 - (i + j) / 2 : Nat) : Int) < (len : Int) := by omega
        simp -implicitDefEqProofs only [Jm, Jo, Jp, Jr, Js, Ju, Jv, Jy, Jz, JA, JB, JD, JE, JI, JJ, JK, JL, JN, JO, JP, JS, JT, JU, JV, JW, J13, J14, J1e, J1f, J1i, J1j, J1k, J1o ti3, J1o ti357, J1p ti3 ti357 rfl, J1p ti357 ti3 rfl, J1t, J1u, J1F, J1N, J1P, J1Q, J1R, J1S, J1Z, J2y, J2z, J2A, J2G, J2L, J2M, J2N, J2O, J2S, J2T, J2V, J2X, ↓reduceIte, reduceCtorEq, beq_self_eq_true, cond_true, cond_false, true_and, and_true, and_self, J34, J36, decide_true, eq_self, forall_const, false_implies, J3d, so_indexAddr hS rfl, so_load hE, hc2, u1, u2, u3, u4, u6, shr_ok, l1, l2, hx, hy, hxk, hyk, Int.natCast_nonneg, Int.toNat_natCast, List.length_map, take_all hxk, take_all hyk]
        refine cmp_call hC (hR x (List.mem_of_getElem? hx)) (hR y (List.mem_of_getElem? hy)) fun c => ?_
        rcases Int.lt_or_le c 0 with h3 | h3
        · have he : (c < 0) = True := by simp; omega
          simp -implicitDefEqProofs only [Jm, Jo, Jr, Js, Jv, Jz, JD, JG, JJ, JK, JL, JN, JO, JP, JR, JV, JW, J13, J14, J18, J1i, J1k, J1o ti3, J1P, J1Q, J1R, J1S, J2y, J2X, ↓reduceIte, reduceCtorEq, beq_self_eq_true, cond_true, cond_false, and_true, J34, J36, decide_true, eq_self, forall_const, false_implies, J3a, J3b, he]
          refine ⟨(i, (i + j) / 2), ⟨hi, by show i ≤ (i + j) / 2; omega, by show (i + j) / 2 ≤ m; omega⟩, by show (i + j) / 2 - i < j - i; omega, ?_⟩
          exact (keepI [0, 1] _ (WkH.refl _) rfl rfl rfl ⟨⟨_, WkV.refl _, rfl⟩, ⟨_, WkV.refl _, rfl⟩, ⟨_, WkV.refl _, rfl⟩, ⟨_, WkV.refl _, rfl⟩, ⟨_, WkV.refl _, rfl⟩, ⟨_, WkV.refl _, rfl⟩, ⟨_, WkV.refl _, rfl⟩, ⟨_, WkV.refl _, rfl⟩, ⟨_, WkV.refl _, rfl⟩, ⟨_, WkV.refl _, rfl⟩, trivial⟩)
        · have he : (c < 0) = False := by simp; omega
          simp -implicitDefEqProofs only [Jm, Jo, Jr, Js, Jv, Jz, JD, JG, JJ, JK, JL, JN, JO, JP, JR, JV, JW, J13, J14, J18, J1i, J1k, J1o ti3, J1P, J1Q, J1R, J1S, J2y, J2X, ↓reduceIte, beq_self_eq_true, cond_true, cond_false, true_and, J34, J36, decide_false, J39, eq_self, forall_const, false_implies, J3a, J3b, he, u5]
          refine ⟨((i + j) / 2 + 1, j), ⟨by show a ≤ (i + j) / 2 + 1; omega, by show (i + j) / 2 + 1 ≤ j; omega, hj⟩, by show j - ((i + j) / 2 + 1) < j - i; omega, ?_⟩
          exact (keepI [0, 1] _ (WkH.refl _) rfl rfl rfl ⟨⟨_, WkV.refl _, rfl⟩, ⟨_, WkV.refl _, rfl⟩, ⟨_, WkV.refl _, rfl⟩, ⟨_, WkV.refl _, rfl⟩, ⟨_, WkV.refl _, rfl⟩, ⟨_, WkV.refl _, rfl⟩, ⟨_, WkV.refl _, rfl⟩, ⟨_, WkV.refl _, rfl⟩, ⟨_, WkV.refl _, rfl⟩, ⟨_, WkV.refl _, rfl⟩, trivial⟩)
      · have hc2 : ((i : Int) < (j : Int)) = False := by simp; omega
        have u7 := wrapS (a := mid + m) (b := i) (c := mid + m - i) (by omega) (by omega)
        simp -implicitDefEqProofs only [Jm, Jo, Jp, Jr, Js, Ju, Jv, Jy, Jz, JA, JB, JD, JE, JI, JJ, JK, JL, JN, JO, JP, JT, JV, JW, J13, J14, J1i, J1j, J1k, J1o ti3, J1o ti357, J1p ti3 ti357 rfl, J1P, J1Q, J1R, J1S, J2y, J2X, ↓reduceIte, beq_self_eq_true, cond_true, cond_false, true_and, J34, J36, decide_false, J39, eq_self, forall_const, false_implies, hc2, u7]
        show vwp _ _ _ _ _ _
        refine vc_symA hne2 rows i m (mid + m - i) rfl rfl rfl rfl rfl (fun g1 g2 => ?_) ?_
        · have := vc_rot (ver := ver) (nm := nm) (fc := fc) H hR2 hO hne rows hr (by omega) i m (mid + m - i) g1 g2 (by omega)
          rw [hlen] at this
          exact this
        rintro T1 ⟨a0, a1, a2, a3, a4, a5, a6, a7⟩ rows1 hp1
        simp only [lk_cons, Nat.reduceBEq, cond_true, cond_false] at a0 a1 a2 a3 a4 a5 a6 a7
        have hl1 : rows1.length = len := by rw [hp1.length_eq, hlen]
        simp -implicitDefEqProofs only [Jy, JD]
        show vwp _ _ _ _ _ _
        refine vc_symB hne3 rows1 a i mid a0 a1 a6 a5 a4 (fun g1 g2 => ?_) ?_
        · have := ih rows1 (fun x hx => hR x (hp1.mem_iff.1 hx)) (fun x hx => hr x (hp1.mem_iff.1 hx)) (by omega) a i mid (by omega) g1 g2 (by omega)
          rw [hl1] at this
          exact this
        rintro T2 ⟨c0, c1, c2, c3, c4, c5, c6, c7⟩ rows2 hp2
        rw [a0] at c0; rw [a3] at c3; rw [a4] at c4; rw [a5] at c5; rw [a7] at c7
        have hl2 : rows2.length = len := by rw [hp2.length_eq, hl1]
        have hq2 := hp2.trans hp1
        simp -implicitDefEqProofs only [JD]
        show vwp _ _ _ _ _ _
        refine vc_symC hne3 rows2 mid (mid + m - i) b c0 c5 c7 c3 c4 (fun g1 g2 => ?_) ?_
        · have := ih rows2 (fun x hx => hR x (hq2.mem_iff.1 hx)) (fun x hx => hr x (hq2.mem_iff.1 hx)) (by omega) mid (mid + m - i) b (by omega) g1 g2 (by omega)
          rw [hl2] at this
          exact this
        rintro T3 - rows3 hp3
        simp -implicitDefEqProofs only [J2I, J2J, J31, J3c]
        apply vend_of [0, 1]; rfl; rfl
        exact ⟨rfl, _, hp3.trans hq2, rfl⟩

set_option maxHeartbeats 4000000 in
/-- All of the stable sort. -/
theorem vc_stab (H : SortE tS tE k) (hC : CmpOk fc nm R) {f fN fM fO fR : FuncId} (hN : FnOk Tryz.prog fN 53 (cIns tS tE) []) (hR2 : FnOk Tryz.prog fR 38 (cSwapR tS tE) []) (hO : FnOk Tryz.prog fO 58 (cRot tS tF fR) []) (hM : FnOk Tryz.prog fM 220 (cSym tS tE tF fO fM) [])
    (hF : FnOk Tryz.prog f 63 (cStab tS tF fN fM) []) (hne : fR ≠ 288) (hne2 : fO ≠ 288) (hne3 : fM ≠ 288) (hne4 : fN ≠ 288) (rows : List (List D)) (hR : ∀ x ∈ rows, R x) (hr : ∀ x ∈ rows, x.length = k) (hbig : rows.length < 1000000000) :
    Sorts f [.one (.own 0 ver rows.length), .one (.d (.int .i64 rows.length)), .one (.fn fc [.ptr 1 0])] k ver nm rows := by
  unfold Sorts
  refine VC_of_fn mixed hF (by simp) ?_
  have ins : ∀ rs : List (List D), List.Perm rs rows → ∀ a b : Nat, a ≤ rows.length → b ≤ rows.length → Sorts fN [.one (.own 0 ver rows.length), .one (.d (.int .i64 a)), .one (.d (.int .i64 b)), .one (.fn fc [.ptr 1 0])] k ver nm rs := by
    intro rs hp a b ha hb
    have := vc_ins (ver := ver) H hC hN rs (fun x hx => hR x (hp.mem_iff.1 hx)) (fun x hx => hr x (hp.mem_iff.1 hx)) (by rw [hp.length_eq]; omega) a b (by rw [hp.length_eq]; omega) (by rw [hp.length_eq]; omega)
    rw [hp.length_eq] at this
    exact this
  have sym : ∀ rs : List (List D), List.Perm rs rows → ∀ a m b : Nat, a < m → m < b → b ≤ rows.length → Sorts fM [.one (.own 0 ver rows.length), .one (.d (.int .i64 a)), .one (.d (.int .i64 m)), .one (.d (.int .i64 b)), .one (.fn fc [.ptr 1 0])] k ver nm rs := by
    intro rs hp a m b ha hm hb
    have := vc_sym (ver := ver) H hC hR2 hO hM hne hne2 hne3 (b - a) rs (fun x hx => hR x (hp.mem_iff.1 hx)) (fun x hx => hr x (hp.mem_iff.1 hx)) (by rw [hp.length_eq]; omega) a m b (Nat.le_refl _) ha hm (by rw [hp.length_eq]; omega)
    rw [hp.length_eq] at this
    exact this
  generalize hlen : rows.length = len at *
  show vwp Tryz.prog 2 (cStab tS tF fN fM) _ [(0, .one (.own 0 ver len)), (1, .one (.d (.int .i64 len))), (2, .one (.fn fc [.ptr 1 0]))] [.arr false k ver rows, .box [.fn nm []]]
  unfold cStab
  rw [vwpI_eq]
  have n20 : ((20 : Nat) : Int) = 20 := rfl
  simp -implicitDefEqProofs only [Jm, Jv, Jy, JA, JD, JJ, JK, JL, JP, JV, JW, J13, J14, J1i, J2y, J2X, beq_self_eq_true, cond_true, cond_false, J34]
  refine loopI (α := Nat × List (List D)) (fun x => [(7, .one (.d (.int .i64 x.1))), (8, .one (.d (.int .i64 (x.1 + 20 : Nat)))), (6, .one (.d (.int .i64 20))), (0, .one (.own 0 ver len)), (1, .one (.d (.int .i64 len))), (2, .one (.fn fc [.ptr 1 0]))]) (fun x => [.arr false k ver x.2, .box [.fn nm []]])
    (fun x => x.1 ≤ len ∧ List.Perm x.2 rows) (fun x => len - x.1) (0, rows)
    (keepI [0, 1] _ (WkH.refl _) rfl rfl rfl ⟨⟨_, WkV.refl _, rfl⟩, ⟨_, WkV.refl _, rfl⟩, ⟨_, WkV.refl _, rfl⟩, ⟨_, WkV.refl _, rfl⟩, ⟨_, WkV.refl _, rfl⟩, ⟨_, WkV.refl _, rfl⟩, trivial⟩) ⟨Nat.zero_le _, .refl _⟩ ?_
  rintro ⟨a, rs⟩ ⟨ha, hp⟩
  simp only at ha hp
  rcases Nat.lt_or_ge len (a + 20) with h | h
  · have hc : (((a + 20 : Nat) : Int) ≤ (len : Int)) = False := by simp; omega
    have hs := ins rs hp a len ha (Nat.le_refl _)
    unfold Sorts at hs
    simp -implicitDefEqProofs only [Jg, Jh, Jk, Jm, Jo, Jp, Jr, Ju, Jv, Jy, Jz, JA, JB, JD, JE, JI, JJ, JK, JL, JN, JO, JP, JU, JV, J12, J13, J1e, J1g, noescs, Jg, J1i, J1j, J1o ti3, J1N, J1P, J1Q, J1R, J1S, J2y, J2K, J2L, J2O, J2T, J2V, J2X, ↓reduceIte, beq_self_eq_true, cond_true, cond_false, true_and, J34, J36, decide_false, beq_eq_false_iff_ne, J39, eq_self, forall_const, not_false_eq_true, ne_eq, false_implies, hc, hne4]
    refine callS [0, 1] (hs) rfl rfl rfl ?_
    rintro _ _ ⟨rfl, rs', hp', rfl⟩
    refine ⟨_, _, rfl, ?_⟩
    simp -implicitDefEqProofs only [JA, JD, JJ, JP, J2r, J2s, J2t, J2u, J2w, J2x, J2C, J2E, J2F, J2H, J2I, J2J, J2K, J2P, J2Q, J31, ↓reduceIte, eq_self, J3c]
    refine loopI (α := Nat × List (List D)) (fun x => [(6, .one (.d (.int .i64 x.1))), (0, .one (.own 0 ver len)), (1, .one (.d (.int .i64 len))), (2, .one (.fn fc [.ptr 1 0]))]) (fun x => [.arr false k ver x.2, .box [.fn nm []]])
      (fun x => 1 ≤ x.1 ∧ x.1 ≤ 2 * len + 20 ∧ List.Perm x.2 rows) (fun x => len - x.1) (20, rs')
      (keepI [0, 1] _ (WkH.refl _) rfl rfl rfl ⟨⟨_, WkV.refl _, rfl⟩, ⟨_, WkV.refl _, rfl⟩, ⟨_, WkV.refl _, rfl⟩, ⟨_, WkV.refl _, rfl⟩, trivial⟩) ⟨by show 1 ≤ 20; omega, by show 20 ≤ 2 * len + 20; omega, hp'.trans hp⟩ ?_
    rintro ⟨bs, ss⟩ ⟨hb1, hb2, hq⟩
    simp only at hb1 hb2 hq
    rcases Nat.lt_or_ge bs len with h2 | h2
    · have hc2 : ((bs : Int) < (len : Int)) = True := by simp; omega
      have w1 : IntKind.i64.wrap (2 * (bs : Int)) = ((2 * bs : Nat) : Int) := by rw [IntKind.wrap_i64]; omega
      have w2 : IntKind.i64.wrap ((bs : Int) * 2) = ((2 * bs : Nat) : Int) := by rw [IntKind.wrap_i64]; omega
      simp -implicitDefEqProofs only [Jm, Jo, Jp, Jr, Js, Ju, Jv, Jy, Jz, JA, JB, JD, JE, JI, JJ, JK, JL, JN, JO, JP, JV, JW, J13, J14, J1i, J1j, J1o ti3, J1P, J1Q, J1R, J1S, J2y, J2I, J2J, J2X, J31, ↓reduceIte, reduceCtorEq, beq_self_eq_true, cond_true, cond_false, and_true, J34, J36, decide_true, eq_self, forall_const, false_implies, J3c, hc2, w1]
      refine loopI (α := Nat × List (List D)) (fun x => [(7, .one (.d (.int .i64 x.1))), (8, .one (.d (.int .i64 (x.1 + 2 * bs : Nat)))), (6, .one (.d (.int .i64 bs))), (0, .one (.own 0 ver len)), (1, .one (.d (.int .i64 len))), (2, .one (.fn fc [.ptr 1 0]))]) (fun x => [.arr false k ver x.2, .box [.fn nm []]])
        (fun x => x.1 ≤ len ∧ List.Perm x.2 rows) (fun x => len - x.1) (0, ss)
        (keepI [0, 1] _ (WkH.refl _) rfl rfl rfl ⟨⟨_, WkV.refl _, rfl⟩, ⟨_, WkV.refl _, by rw [show ((0, ss) : Nat × List (List D)).1 + 2 * bs = 2 * bs from Nat.zero_add _]; rfl⟩, ⟨_, WkV.refl _, rfl⟩, ⟨_, WkV.refl _, rfl⟩, ⟨_, WkV.refl _, rfl⟩, ⟨_, WkV.refl _, rfl⟩, trivial⟩) ⟨Nat.zero_le _, hq⟩ ?_
      rintro ⟨c, us⟩ ⟨hcl, hu⟩
      simp only at hcl hu
      have w3 := wrapA (a := c) (b := bs) rfl (by omega)
      rcases Nat.lt_or_ge len (c + 2 * bs) with h3 | h3
      · have hc3 : (((c + 2 * bs : Nat) : Int) ≤ (len : Int)) = False := by simp; omega
        rcases Nat.lt_or_ge (c + bs) len with h4 | h4
        · have hc4 : (((c + bs : Nat) : Int) < (len : Int)) = True := by simp; omega
          have hs := sym us hu c (c + bs) len (by omega) (by omega) (by omega)
          unfold Sorts at hs
          simp -implicitDefEqProofs only [Jg, Jh, Jk, Jm, Jo, Jp, Jr, Js, Ju, Jv, Jy, Jz, JA, JB, JD, JE, JG, JI, JJ, JK, JL, JN, JO, JP, JU, JV, JW, J12, J13, J14, J1e, J1g, noescs, Jg, J1i, J1j, J1k, J1o ti3, J1N, J1P, J1Q, J1R, J1S, J2y, J2K, J2L, J2O, J2T, J2V, J2X, ↓reduceIte, reduceCtorEq, beq_self_eq_true, cond_true, cond_false, true_and, and_true, J34, J36, decide_true, decide_false, beq_eq_false_iff_ne, J39, eq_self, forall_const, not_false_eq_true, ne_eq, false_implies, hc3, w3, hc4, hne3]
          refine callS [0, 1] (hs) rfl rfl rfl ?_
          rintro _ _ ⟨rfl, us', hu', rfl⟩
          refine ⟨_, _, rfl, ?_⟩
          simp -implicitDefEqProofs only [Jm, Js, Jv, JD, JG, JJ, JK, JL, JP, JV, JW, J13, J14, J1i, J1k, J1o ti3, J1P, J1Q, J1R, J1S, J2r, J2s, J2t, J2u, J2w, J2x, J2y, J2C, J2E, J2F, J2H, J2I, J2J, J2K, J2P, J2Q, J2X, J31, ↓reduceIte, beq_self_eq_true, cond_true, cond_false, J34, J36, eq_self, J3c, w2]
          refine ⟨(2 * bs, us'), ⟨by show 1 ≤ 2 * bs; omega, by show 2 * bs ≤ 2 * len + 20; omega, hu'.trans hu⟩, by show len - 2 * bs < len - bs; omega, ?_⟩
          exact (keepI [0, 1] _ (WkH.refl _) rfl rfl rfl ⟨⟨_, WkV.refl _, rfl⟩, ⟨_, WkV.refl _, rfl⟩, ⟨_, WkV.refl _, rfl⟩, ⟨_, WkV.refl _, rfl⟩, trivial⟩)
        · have hc4 : (((c + bs : Nat) : Int) < (len : Int)) = False := by simp; omega
          simp -implicitDefEqProofs only [Jm, Jo, Jp, Jr, Js, Ju, Jv, Jy, Jz, JA, JB, JD, JE, JG, JI, JJ, JK, JL, JN, JO, JP, JV, JW, J13, J14, J1i, J1j, J1k, J1o ti3, J1P, J1Q, J1R, J1S, J2y, J2X, ↓reduceIte, beq_self_eq_true, cond_true, cond_false, true_and, J34, J36, decide_false, J39, eq_self, forall_const, false_implies, hc3, w3, hc4, w2]
          refine ⟨(2 * bs, us), ⟨by show 1 ≤ 2 * bs; omega, by show 2 * bs ≤ 2 * len + 20; omega, hu⟩, by show len - 2 * bs < len - bs; omega, ?_⟩
          exact (keepI [0, 1] _ (WkH.refl _) rfl rfl rfl ⟨⟨_, WkV.refl _, rfl⟩, ⟨_, WkV.refl _, rfl⟩, ⟨_, WkV.refl _, rfl⟩, ⟨_, WkV.refl _, rfl⟩, trivial⟩)
      · have hc3 : (((c + 2 * bs : Nat) : Int) ≤ (len : Int)) = True := by simp; omega
        have hs := sym us hu c (c + bs) (c + 2 * bs) (by omega) (by omega) (by omega)
        unfold Sorts at hs
        have w4 := wrapA (a := c + 2 * bs) (b := 2 * bs) rfl (by omega)
        simp -implicitDefEqProofs only [Jg, Jh, Jk, Jm, Jo, Jp, Jr, Js, Ju, Jv, Jy, Jz, JA, JB, JD, JE, JG, JI, JJ, JK, JL, JN, JO, JP, JU, JV, JW, J12, J13, J14, J1e, J1g, noescs, Jg, J1i, J1j, J1k, J1o ti3, J1N, J1P, J1Q, J1R, J1S, J2y, J2K, J2L, J2O, J2T, J2V, J2X, ↓reduceIte, reduceCtorEq, beq_self_eq_true, cond_true, cond_false, and_true, J34, J36, decide_true, decide_eq_true_eq, decide_eq_false_iff_not, beq_eq_false_iff_ne, eq_self, forall_const, not_false_eq_true, ne_eq, false_implies, hc3, w3, hne3]
        refine callS [0, 1] (hs) rfl rfl rfl ?_
        rintro _ _ ⟨rfl, us', hu', rfl⟩
        refine ⟨_, _, rfl, ?_⟩
        simp -implicitDefEqProofs only [Jm, Js, Jv, Jy, JD, JG, JJ, JK, JL, JP, JV, JW, J13, J14, J1i, J1j, J1o ti3, J1P, J1Q, J1R, J1S, J2r, J2s, J2t, J2u, J2w, J2x, J2y, J2C, J2E, J2F, J2H, J2I, J2J, J2K, J2P, J2Q, J2X, J31, ↓reduceIte, beq_self_eq_true, cond_true, cond_false, J34, J36, eq_self, J3c, w1, w4]
        refine ⟨(c + 2 * bs, us'), ⟨h3, hu'.trans hu⟩, by show len - (c + 2 * bs) < len - c; omega, ?_⟩
        exact (keepI [0, 1] _ (WkH.refl _) rfl rfl rfl ⟨⟨_, WkV.refl _, rfl⟩, ⟨_, WkV.refl _, rfl⟩, ⟨_, WkV.refl _, rfl⟩, ⟨_, WkV.refl _, rfl⟩, ⟨_, WkV.refl _, rfl⟩, ⟨_, WkV.refl _, rfl⟩, trivial⟩)
    · have hc2 : ((bs : Int) < (len : Int)) = False := by simp; omega
      simp -implicitDefEqProofs only [Jm, Jo, Jp, Jr, Js, Ju, Jv, Jy, Jz, JA, JB, JD, JE, JI, JJ, JK, JL, JN, JO, JP, JV, JW, J13, J14, J1i, J1j, J1o ti3, J1P, J1Q, J1R, J1S, J2y, J2I, J2J, J2X, J31, ↓reduceIte, beq_self_eq_true, cond_true, cond_false, true_and, J34, J36, decide_false, J39, eq_self, forall_const, false_implies, J3c, hc2]
      apply vend_of [0, 1]; rfl; rfl
      exact ⟨rfl, _, hq, rfl⟩
  · have hc : (((a + 20 : Nat) : Int) ≤ (len : Int)) = True := by simp; omega
    have hs := ins rs hp a (a + 20) ha h
    unfold Sorts at hs
    have w1 : IntKind.i64.wrap (((a + 20 : Nat) : Int) + 20) = ((a + 20 + 20 : Nat) : Int) := by rw [IntKind.wrap_i64]; omega
    simp -implicitDefEqProofs only [Jg, Jh, Jk, Jm, Jo, Jp, Jr, Ju, Jv, Jy, Jz, JA, JB, JD, JE, JI, JJ, JK, JL, JN, JO, JP, JU, JV, J12, J13, J1e, J1g, noescs, Jg, J1i, J1j, J1o ti3, J1N, J1P, J1Q, J1R, J1S, J2y, J2K, J2L, J2O, J2T, J2V, J2X, ↓reduceIte, reduceCtorEq, beq_self_eq_true, cond_true, cond_false, and_true, J34, J36, decide_true, beq_eq_false_iff_ne, eq_self, forall_const, not_false_eq_true, ne_eq, false_implies, hc, hne4]
    refine callS [0, 1] (hs) rfl rfl rfl ?_
    rintro _ _ ⟨rfl, rs', hp', rfl⟩
    refine ⟨_, _, rfl, ?_⟩
    simp -implicitDefEqProofs only [Jm, Js, Jv, Jy, JD, JG, JJ, JK, JL, JP, JV, J13, J14, J1i, J1j, J1o ti3, J1P, J1Q, J1R, J1S, J2r, J2s, J2t, J2u, J2w, J2x, J2y, J2C, J2E, J2F, J2H, J2I, J2J, J2K, J2P, J2Q, J2X, J31, ↓reduceIte, beq_self_eq_true, cond_true, cond_false, J34, J36, eq_self, J3c, w1]
    refine ⟨(a + 20, rs'), ⟨h, hp'.trans hp⟩, by show len - (a + 20) < len - a; omega, ?_⟩
    exact (keepI [0, 1] _ (WkH.refl _) rfl rfl rfl ⟨⟨_, WkV.refl _, rfl⟩, ⟨_, WkV.refl _, rfl⟩, ⟨_, WkV.refl _, rfl⟩, ⟨_, WkV.refl _, rfl⟩, ⟨_, WkV.refl _, rfl⟩, ⟨_, WkV.refl _, rfl⟩, trivial⟩)

theorem vc_sort (H : SortE tS tE k) (hC : CmpOk fc nm R) {fS f fN fM fO fR : FuncId} (hN : FnOk Tryz.prog fN 53 (cIns tS tE) []) (hR2 : FnOk Tryz.prog fR 38 (cSwapR tS tE) []) (hO : FnOk Tryz.prog fO 58 (cRot tS tF fR) []) (hM : FnOk Tryz.prog fM 220 (cSym tS tE tF fO fM) [])
    (hT : FnOk Tryz.prog f 63 (cStab tS tF fN fM) []) (hF : FnOk Tryz.prog fS 9 (cSort tS tF f) []) (hne : fR ≠ 288) (hne2 : fO ≠ 288) (hne3 : fM ≠ 288) (hne4 : fN ≠ 288) (hne5 : f ≠ 288) (rows : List (List D)) (hR : ∀ x ∈ rows, R x) (hr : ∀ x ∈ rows, x.length = k) (hbig : rows.length < 1000000000) :
    Sorts fS [.one (.own 0 ver rows.length), .one (.fn fc [.ptr 1 0])] k ver nm rows := by
  have hs := vc_stab (ver := ver) H hC hN hR2 hO hM hT hne hne2 hne3 hne4 rows hR hr hbig
  obtain ⟨b1, z1, b2, z2, hS, hb2, hz2, hk0⟩ := H.S
  unfold Sorts at hs ⊢
  refine VC_of_fn mixed hF (by simp) ?_
  generalize hlen : rows.length = len at *
  show vwp Tryz.prog 2 (cSort tS tF f) _ [(0, .one (.own 0 ver len)), (1, .one (.fn fc [.ptr 1 0]))] [.arr false k ver rows, .box [.fn nm []]]
  unfold cSort
  rw [vwpI_eq]
  simp -implicitDefEqProofs only [Jg, Jh, Jk, Jm, Jp, Jv, JK, JL, JP, JU, JV, J12, J13, J1e, J1g, noescs, Jg, J1i, J1J, J1N, J2y, J2z, J2K, J2L, J2O, J2T, J2V, J2X, ↓reduceIte, reduceCtorEq, beq_self_eq_true, cond_true, cond_false, true_and, J34, J36, beq_eq_false_iff_ne, eq_self, not_false_eq_true, ne_eq, so_len hS, hne5]
  refine callS [0, 1] (hs) rfl rfl rfl ?_
  rintro _ _ ⟨rfl, rs', hp', rfl⟩
  refine ⟨_, _, rfl, ?_⟩
  simp -implicitDefEqProofs only [JJ, JP, J2r, J2s, J2t, J2u, J2w, J2x, J2C, J2E, J2F, J2H, J2I, J2J, J2K, J2P, J2Q, J31, ↓reduceIte, eq_self, J3c]
  apply vend_of [0, 1]; rfl; rfl
  exact ⟨rfl, _, hp', rfl⟩

end

end Go.Vt.Tryz
