/- sorted, for all types at once: what it leaves is as great as what it was given. -/
import Derived.Test.YtdabfkmhkoppcaaGreatDoorVtS1
import Derived.Test.YtdabfkmhkoppcaaGreatDoorVtL6
set_option maxRecDepth 100000
set_option linter.unusedSimpArgs false
namespace Go.Vt.Tryz
open Go.Vt renaming ob_some → Jm, ob_none → Jn, vbool_eq → Jo, vif_tt → Jp, vD_bool → Jr, vD_int → Js, wp_skip → Ju, wp_ops → Jv, wp_seq → Jy, wp_cond → Jz, wp_block → JA, wp_exit → JB, wp_ret → JC, th_normal → JD, th_exit → JE, th_ret → JF, bl_normal → JG, bl_exit → JI, ops_nil → JJ, ops_cons → JK, go_none → JL, cond_tt → JN, cond_ff → JO, put_some → JP, put_none → JQ, asL → JS, asI → JT, asFn → JU, opd_tmp → JV, opd_int → JW, opd_nils → JZ, opd_func → J12, so_move → J13, so_assign → J14, so_box → J16, so_makeFunc → J1a, so_call → J1e, esc_tmp → J1f, esc_func → J1g, bobj_none → J1h, lk_cons → J1i, nilC_tmp → J1j, nilC_int → J1k, vload → J1r, mkV → J1s, vstore → J1t, vcells → J1u, known → J1v, splice → J1B, vindexAddr → J1D, vbr → J1G, vlen → J1H, opds → J1L, opdPairs → J1M, vbin2 → J1N, vbin → J1O, vint → J1P, vstr → J1Q, vrowsOf → J1V, vcaps → J1W, vrows → J1Y, fzVs → J1Z, vapp → J20, vcellsOf → J21, vappendP → J22, vappend → J23, allLen → J24, zok → J25, nil_d → J29, putBack → J2p, fzIds → J2q, lentVs → J2r, lentV → J2s, lentL → J2u, idx → J2v, so_bin → J3e
open List renaming contains_cons → Jg, contains_nil → Jh, lookup_nil → J2w, getElem?_cons_zero → J2x, getElem?_cons_succ → J2y, take_succ_cons → J2A, take_zero → J2B, take_nil → J2C, drop_succ_cons → J2D, drop_zero → J2E, drop_nil → J2F, length_cons → J2G, length_nil → J2H, append_nil → J2I, nil_append → J2J, cons_append → J2K, map_nil → J2M, set_cons_zero → J2N, set_cons_succ → J2O, all_nil → J2R
open Bool renaming or_false → Jk, and_true → J2T, true_and → J2U, false_eq_true → J37
open Nat renaming reduceBEq → J2V, reduceAdd → J2Z, reduceSub → J31, zero_add → J3a, le_refl → J3b, add_zero → J3c
open Option renaming map_some → J32, map_none → J33, bind_some → J34, isSome_some → J36
open Go.Proofs

theorem perm_map {α β : Type} {g : α → β} {zs ys : List β} (h : List.Perm zs ys) : ∀ l : List α, ys = l.map g → ∃ l2, List.Perm l2 l ∧ zs = l2.map g := by
  induction h with
  | nil =>
    intro l e
    cases l with
    | nil => exact ⟨[], .refl _, rfl⟩
    | cons a r => simp at e
  | @cons x l1 l2 hp ih =>
    intro l e
    cases l with
    | nil => simp at e
    | cons a r =>
      simp only [List.map_cons, List.cons.injEq] at e
      obtain ⟨l3, h3, h4⟩ := ih r e.2
      exact ⟨a :: l3, h3.cons a, by rw [List.map_cons, e.1, h4]⟩
  | swap x y l1 =>
    intro l e
    rcases l with _ | ⟨a, _ | ⟨b, r⟩⟩
    · simp at e
    · simp at e
    · simp only [List.map_cons, List.cons.injEq] at e
      exact ⟨b :: a :: r, List.Perm.swap a b r, by rw [List.map_cons, List.map_cons, e.1, e.2.1, e.2.2]⟩
  | trans _ _ ih1 ih2 =>
    intro l e
    obtain ⟨l3, h3, h4⟩ := ih2 l e
    obtain ⟨l5, h5, h6⟩ := ih1 l3 h4
    exact ⟨l5, h5.trans h3, h6⟩

theorem sumN_perm {α : Type} {f : α → Nat} {l r : List α} (h : List.Perm l r) : sumN f l = sumN f r := by
  induction h with
  | nil => rfl
  | cons x _ ih => simp only [sumN, ih]
  | swap x y l => simp only [sumN]; omega
  | trans _ _ h1 h2 => rw [h1, h2]

theorem sumN_set {α : Type} {f : α → Nat} : ∀ {l : List α} {i : Nat} {a b : α}, l[i]? = some a → f b = f a → sumN f (l.set i b) = sumN f l
  | c :: r, 0, a, b, h, e => by
    have : c = a := by simpa using h
    subst this
    simp [sumN, e]
  | c :: r, i + 1, a, b, h, e => by
    have := sumN_set (f := f) (l := r) (i := i) (a := a) (b := b) (by simpa using h) e
    simp only [List.set_cons_succ, sumN, this]

theorem renLs_ds {m : Nat → Option Nat} : ∀ x : List D, renL.renLs m (x.map .d) = some (x.map .d)
  | [] => rfl
  | d :: r => by simp only [List.map_cons, renL.renLs, renL, renLs_ds r]

theorem ag_call {f : FuncId} {x : List D} {h : AHeap} {K : Kn (V × AHeap)} {Q : List D → Prop} (H : VC Tryz.prog f [.agg (x.map .d)] [] fun r h' => (∃ y, Q y ∧ r = .agg (y.map .d)) ∧ h' = [])
    (hk : ∀ y, Q y → K.run (.agg (y.map .d), h)) : @vcallI Tryz.prog f [.agg (x.map .d)] h K := by
  refine callS [] H rfl ?_ rfl ?_
  · simp [lendVs, lendV, lendLs_ds]
  rintro _ _ ⟨⟨y, hy, rfl⟩, rfl⟩
  refine ⟨.agg (y.map .d), h, ?_, hk y hy⟩
  unfold back
  split
  · rfl
  · simp [renV, renLs_ds, renOs, lentVs, lentV, lentLs_ds, fzIds, putBack]

section
variable {tS tE tF tN : TypeId} {k : Nat}

theorem vc_clone (H : SortE tS tE k) {f : FuncId} (hF : FnOk Tryz.prog f 8 (cClone tS) [.tmp 2]) (es : List (List D)) (hr : allLen k es = true) (hbig : es.length < 1000000000) :
    VC Tryz.prog f [.one (.d (.sl es))] [] fun r h' => (es = [] ∧ r = .one .nils ∧ h' = []) ∨ (r = .one (.own 0 1 es.length) ∧ h' = [.arr false k 1 es]) := by
  obtain ⟨b1, z1, b2, z2, hS, hb2, hz2, hk0⟩ := H.S
  refine VC_of_fn mixed hF (by simp) ?_
  show vwp Tryz.prog 0 (cClone tS) _ [(0, .one (.d (.sl es)))] []
  unfold cClone
  rw [vwpI_eq]
  have hbb : es.length * b2 ≤ maxBytes := by
    have := Nat.mul_le_mul (Nat.le_of_lt hbig) hb2
    unfold maxBytes
    omega
  have hb3 : es.length ≤ maxBytes := by unfold maxBytes; omega
  have hr2 := hr
  unfold allLen at hr2
  simp -implicitDefEqProofs only [Jm, Ju, Jv, Jy, Jz, JC, JD, JF, JJ, JK, JL, JN, JO, JP, JS, JV, JZ, J13, J14, J1i, J1u, J1v, J1G, J1M, J1V, J1Y, J1Z, J20, J21, J22, J23, J24, J25, J29, J2w, J2x, J2C, J2G, J2H, J2J, J2K, J2N, J2R, J2U, J2V, ↓reduceIte, beq_self_eq_true, cond_true, cond_false, true_and, and_true, and_self, J32, J34, J36, bne_iff_ne, eq_self, not_false_eq_true, ne_eq, J3a, so_eqnil hS rfl, so_buildSlice hS rfl, so_append hS rfl, hr2, hbb, hb3, hz2, hk0, Nat.zero_mul, Nat.zero_le]
  refine ⟨fun he => ?_, ?_⟩
  · apply vend_of []; rfl; rfl
    exact .inl ⟨he, rfl, rfl⟩
  · apply vend_of [0]; rfl; rfl
    exact .inr ⟨rfl, rfl⟩

theorem vc_sorted {α : Type} (enc : α → List D) (f : α → Nat) (hk : ∀ a, (enc a).length = k) {fc nm : FuncId} (H : SortE tS tE k) (hC : CmpOk fc nm fun x => ∃ a, x = enc a) {fS fT fN fM fO fR fC fd : FuncId} (hN : FnOk Tryz.prog fN 53 (cIns tS tE) []) (hR2 : FnOk Tryz.prog fR 38 (cSwapR tS tE) []) (hO : FnOk Tryz.prog fO 58 (cRot tS tF fR) []) (hM : FnOk Tryz.prog fM 220 (cSym tS tE tF fO fM) [])
    (hT : FnOk Tryz.prog fT 63 (cStab tS tF fN fM) []) (hS2 : FnOk Tryz.prog fS 9 (cSort tS tF fT) []) (hCl : FnOk Tryz.prog fC 8 (cClone tS) [.tmp 2]) (hF : FnOk Tryz.prog fd 30 (cSorted tS tE tF tN fC fc fS) [.tmp 6]) (bN : bty Tryz.prog tN = none)
    (hne : fR ≠ 288) (hne2 : fO ≠ 288) (hne3 : fM ≠ 288) (hne4 : fN ≠ 288) (hne5 : fT ≠ 288) (hne6 : fS ≠ 288) (hne7 : fC ≠ 288) {fm : FuncId} (B : Nat)
    (hm : ∀ a, f a ≤ B → VC Tryz.prog fm [.agg ((enc a).map .d)] [] fun r h' => (∃ y, (∃ a', f a' = f a ∧ y = enc a') ∧ r = .agg (y.map .d)) ∧ h' = []) (l : List α) (hB : sumN f l ≤ B) (hbig : l.length < 1000000000) :
    VC Tryz.prog fd [.one (.d (.sl (l.map enc))), .one (.fn nm []), .one (.fn fm [])] [] fun r h' => (∃ l', sumN f l' = sumN f l ∧ r = .one (.d (.sl (l'.map enc)))) ∧ h' = [] := by
  obtain ⟨b1, z1, b2, z2, hS, hb2, hz2, hk0⟩ := H.S
  obtain ⟨b3, z3, fs3, hE⟩ := H.E
  have hall : allLen k (l.map enc) = true := by simp [allLen, hk]
  have hc0 := vc_clone H hCl (l.map enc) hall (by rw [List.length_map]; exact hbig)
  refine VC_of_fn mixed hF (by simp) ?_
  show vwp Tryz.prog 0 (cSorted tS tE tF tN fC fc fS) _ [(0, .one (.d (.sl (l.map enc)))), (1, .one (.fn nm [])), (2, .one (.fn fm []))] []
  unfold cSorted
  rw [vwpI_eq]
  have srt : ∀ (ver : Nat) (l1 : List α), l1.length < 1000000000 → Sorts fS [.one (.own 0 ver l1.length), .one (.fn fc [.ptr 1 0])] k ver nm (l1.map enc) := by
    intro ver l1 hb1
    have := vc_sort (ver := ver) (R := fun x => ∃ a, x = enc a) H hC hN hR2 hO hM hT hS2 hne hne2 hne3 hne4 hne5 (l1.map enc) (fun x hx => by obtain ⟨a, _, rfl⟩ := List.mem_map.1 hx; exact ⟨a, rfl⟩) (fun x hx => by obtain ⟨a, _, rfl⟩ := List.mem_map.1 hx; exact hk a) (by rw [List.length_map]; exact hb1)
    rw [List.length_map] at this
    exact this
  simp -implicitDefEqProofs only [Jg, Jh, Jk, Jm, Jp, Jv, Jy, JD, JJ, JK, JL, JP, JU, JV, JZ, J12, J13, J14, J16, J1e, J1g, noescs, Jg, J1h, J1i, J1u, J1v, J1L, J2w, J2H, J2I, J2J, J2M, J2R, J2T, J2V, ↓reduceIte, beq_self_eq_true, cond_true, cond_false, J32, J34, beq_eq_false_iff_ne, eq_self, not_false_eq_true, ne_eq, bN, hne7]
  refine callS [] hc0 rfl rfl rfl ?_
  rintro _ _ (⟨he, rfl, rfl⟩ | ⟨rfl, rfl⟩)
  · have hl0 : l = [] := by simpa using he
    subst hl0
    refine ⟨_, _, rfl, ?_⟩
    simp -implicitDefEqProofs only [Jm, Jv, Jy, JA, JD, JJ, JK, JL, JP, JV, JW, J13, J14, J1i, J1H, J2w, J2M, J2V, ↓reduceIte, reduceCtorEq, beq_self_eq_true, cond_true, cond_false, true_and, J32, J34, eq_self, so_len hS]
    refine loopI (α := Unit) (fun _ => [(13, .one (.d (.int .i64 0))), (12, .one (.d (.int .i64 0))), (7, .one (.own 1 0 0)), (4, .one (.ptr 0 0))]) (fun _ => [.box [.fn nm []], .arr false k 0 []])
      (fun _ => True) (fun _ => 0) ()
      (keepG [(7, k)] [] [0, 1] _ rfl rfl (WkH.refl _) rfl rfl rfl ⟨⟨_, WkV.refl _, rfl⟩, ⟨_, WkV.refl _, rfl⟩, ⟨_, WkV.refl _, rfl⟩, ⟨_, WkV.refl _, rfl⟩, trivial⟩) trivial ?_
    intro _ _
    have hs := srt 0 [] (by simp)
    unfold Sorts at hs
    simp only [List.map_nil, List.length_nil] at hs
    have h00 : ((0 : Int) < 0) = False := by simp
    simp -implicitDefEqProofs only [Jg, Jh, Jk, Jm, Jn, Jo, Jp, Jr, Ju, Jv, Jy, Jz, JA, JB, JD, JE, JI, JJ, JK, JL, JN, JO, JP, JU, JV, J12, J13, J14, J1a, J1e, J1g, noescs, Jg, J1i, J1j, J3e ti3, J1L, J1N, J1O, J1P, J1Q, J1W, J2w, J2I, J2J, J2M, J2R, J2T, J2V, ↓reduceIte, beq_self_eq_true, cond_true, cond_false, true_and, J32, J33, J34, decide_false, beq_eq_false_iff_ne, J37, eq_self, forall_const, not_false_eq_true, ne_eq, false_implies, h00, hne6]
    refine callS [1, 0] (hs) rfl rfl rfl ?_
    rintro _ _ ⟨rfl, rs', hp', rfl⟩
    refine ⟨_, _, rfl, ?_⟩
    simp -implicitDefEqProofs only [Jm, Jv, Jy, JC, JD, JJ, JK, JL, JP, JV, J13, J14, J1i, J2p, J2q, J2r, J2s, J2u, J2v, J2w, J2A, J2C, J2D, J2F, J2G, J2H, J2I, J2N, J2O, J2V, J2Z, ↓reduceIte, beq_self_eq_true, cond_true, cond_false, J32, eq_self, J3a]
    apply vend_of []; rfl; rfl
    refine ⟨⟨[], rfl, ?_⟩, rfl⟩
    have := hp'.length_eq
    have : rs' = [] := by simpa using this
    subst this
    rfl
  · refine ⟨_, _, rfl, ?_⟩
    simp -implicitDefEqProofs only [Jm, Jv, Jy, JA, JD, JJ, JK, JL, JP, JV, JW, J13, J14, J1i, J1H, J2p, J2q, J2r, J2s, J2u, J2w, J2x, J2y, J2B, J2E, J2G, J2H, J2I, J2J, J2K, J2V, J31, ↓reduceIte, reduceCtorEq, beq_self_eq_true, cond_true, cond_false, true_and, J32, J34, eq_self, J3a, J3c, so_len hS, List.length_map]
    refine loopI (α := Nat × List α) (fun x => [(13, .one (.d (.int .i64 x.1))), (12, .one (.d (.int .i64 l.length))), (7, .one (.own 1 1 l.length)), (2, .one (.fn fm [])), (4, .one (.ptr 0 0))]) (fun x => [.box [.fn nm []], .arr false k 1 (x.2.map enc)])
      (fun x => x.1 ≤ l.length ∧ x.2.length = l.length ∧ sumN f x.2 = sumN f l) (fun x => l.length - x.1) (0, l)
      (keepI [0, 1] _ (WkH.refl _) rfl rfl rfl ⟨⟨_, WkV.refl _, rfl⟩, ⟨_, WkV.refl _, rfl⟩, ⟨_, WkV.refl _, rfl⟩, ⟨_, WkV.refl _, rfl⟩, ⟨_, WkV.refl _, rfl⟩, trivial⟩) ⟨Nat.zero_le _, rfl, rfl⟩ ?_
    rintro ⟨i, l1⟩ ⟨hi, hl1, hs1⟩
    simp only at hi hl1 hs1
    rcases Nat.lt_or_ge i l.length with h | h
    · have hc : ((i : Int) < (l.length : Int)) = True := by simp; omega
      have w1 := wrapA1 (a := i) rfl (by omega)
      obtain ⟨a, ha⟩ := rowOf (l := l1) (i := i) (by omega)
      have hx : (l1.map enc)[i]? = some (enc a) := by rw [List.getElem?_map, ha]; rfl
      have hxk := hk a
      have l2 : (i : Int) < (l.length : Int) := by omega
      simp -implicitDefEqProofs only [Jm, Jo, Jp, Jr, Ju, Jv, Jy, Jz, JA, JB, JD, JE, JI, JJ, JK, JL, JN, JO, JP, JS, JT, JU, JV, J13, J14, J1a, J1e, J1f, J1i, J1j, J3e ti3, J1r, J1s, J1D, J1L, J1N, J1O, J1P, J1Q, J1W, J2w, J2x, J2y, J2E, J2I, J2J, J2M, J2R, J2T, J2V, ↓reduceIte, reduceCtorEq, beq_self_eq_true, cond_true, cond_false, true_and, and_true, and_self, J32, J34, decide_true, eq_self, forall_const, false_implies, J3b, so_indexAddr hS rfl, so_load hE, hc, hx, hxk, Int.natCast_nonneg, Int.toNat_natCast, List.length_map, take_all hxk]
      refine ag_call (hm a (by have := sumN_mem (f := f) (List.mem_of_getElem? ha); omega)) ?_
      rintro _ ⟨a', ha', rfl⟩
      have hyk := hk a'
      simp -implicitDefEqProofs only [Jm, Js, Jv, JD, JG, JJ, JK, JL, JP, JQ, JS, JT, JV, JW, J13, J1i, J1k, J3e ti3, J1t, J1u, J1v, J1B, J1D, J1N, J1O, J1P, J1Q, J2w, J2x, J2y, J2B, J2I, J2J, J2N, J2O, J2V, ↓reduceIte, beq_self_eq_true, cond_true, cond_false, true_and, and_self, J32, J34, eq_self, J3a, J3b, so_indexAddr hS rfl, so_store hE, l2, hx, hxk, hyk, Int.natCast_nonneg, Int.toNat_natCast, List.length_map, fzLs_ds, toDs_ds, drop_all hxk, w1]
      refine ⟨(i + 1, l1.set i a'), ⟨by show i + 1 ≤ l.length; omega, by show (l1.set i a').length = l.length; rw [List.length_set]; exact hl1, by show sumN f (l1.set i a') = sumN f l; rw [sumN_set ha ha', hs1]⟩, by show l.length - (i + 1) < l.length - i; omega, ?_⟩
      simp only [List.map_set]
      exact (keepI [0, 1] _ (WkH.refl _) rfl rfl rfl ⟨⟨_, WkV.refl _, rfl⟩, ⟨_, WkV.refl _, rfl⟩, ⟨_, WkV.refl _, rfl⟩, ⟨_, WkV.refl _, rfl⟩, ⟨_, WkV.refl _, rfl⟩, trivial⟩)
    · have hc : ((i : Int) < (l.length : Int)) = False := by simp; omega
      have hs := srt 1 l1 (by omega)
      unfold Sorts at hs
      rw [hl1] at hs
      simp -implicitDefEqProofs only [Jg, Jh, Jk, Jm, Jo, Jp, Jr, Ju, Jv, Jy, Jz, JA, JB, JD, JE, JI, JJ, JK, JL, JN, JO, JP, JU, JV, J12, J13, J14, J1a, J1e, J1g, noescs, Jg, J1i, J1j, J3e ti3, J1L, J1N, J1O, J1P, J1Q, J1W, J2w, J2I, J2J, J2M, J2R, J2T, J2V, ↓reduceIte, beq_self_eq_true, cond_true, cond_false, true_and, J32, J34, decide_false, beq_eq_false_iff_ne, J37, eq_self, forall_const, not_false_eq_true, ne_eq, false_implies, hc, hne6]
      refine callS [1, 0] (hs) rfl rfl rfl ?_
      rintro _ _ ⟨rfl, rs', hp', rfl⟩
      refine ⟨_, _, rfl, ?_⟩
      simp -implicitDefEqProofs only [Jm, Jv, Jy, JC, JD, JJ, JK, JL, JP, JV, J13, J14, J1i, J2p, J2q, J2r, J2s, J2u, J2v, J2w, J2A, J2C, J2D, J2F, J2G, J2H, J2I, J2N, J2O, J2V, J2Z, ↓reduceIte, beq_self_eq_true, cond_true, cond_false, J32, eq_self, J3a]
      apply vend_of []; rfl; rfl
      obtain ⟨l2, hp2, rfl⟩ := perm_map hp' l1 rfl
      refine ⟨⟨l2, by rw [sumN_perm hp2, hs1], ?_⟩, rfl⟩
      rw [List.take_of_length_le (by rw [List.length_map, hp2.length_eq]; omega)]

end

end Go.Vt.Tryz
