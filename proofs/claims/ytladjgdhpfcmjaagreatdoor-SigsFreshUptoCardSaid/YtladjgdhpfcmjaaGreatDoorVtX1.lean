/- The program's renamer: a stamp. -/
import Derived.Test.YtladjgdhpfcmjaaGreatDoorVtW1
import Derived.Test.YtladjgdhpfcmjaaGreatDoorVtB17
import Derived.Test.YtladjgdhpfcmjaaGreatDoorVtA1
import Derived.Test.YtladjgdhpfcmjaaGreatDoorVtD13
set_option maxRecDepth 100000
set_option linter.unusedSimpArgs false
namespace Go.Vt.Tryz
open Go.Vt renaming vslice → J0
open Nat renaming reduceBEq → J1, reduceEqDiff → J2, reduceLT → J3, reduceLeDiff → J4, reduceAdd → J5, reduceMul → J6, reduceSub → J7
open Go.Proofs Go.Vt.Al

theorem ownBack_wp {n : Nat} {Y : Rounds} {A : List Int} {XF : List (List D)} (hbig : A.length < 1000000000) {h : AHeap} {id aid v : Nat} (hid : h[id]? = some (.box [.own aid v A.length])) (haid : h[aid]? = some (.arr false 1 v (nums A ++ XF)))
    (hn : id < n) (hh : handO h (idx (List.range n)) (List.range n) = some h) {K : VX → Sl → AHeap → Prop} {T0 : Sl} (Pass : Nat → Prop)
    (hround : ∀ i x, A[i]? = some x → (∀ j, i < j → j < A.length → Pass j) → ∀ K' : Option VX → AHeap → Prop, (∀ r, Pass i → K' none (h ++ r)) → (∀ h', K .ret T0 h' → K' (some .ret) h') → Y [.one (.d (.int .i64 i)), .one (.d (.int .i64 x))] h K')
    (hend : (∀ j, j < A.length → Pass j) → K .normal T0 h) :
    vwpY Tryz.prog n Y vc127 (vitend K T0) [(0, .one .any), (1, .one (.ptr id 0))] [0] h none := by
  unfold vc127
  rw [yw_seq, yw_ops]
  refine y_st rfl (r := .one (.own aid v A.length)) (h' := h) (by simp [vop, ti22, opd, vload, hid, mkV, List.lookup]) ?_
  refine y_st rfl (r := .one (.d (.int .i64 A.length))) (h' := h) (by simp [vop, ti22, opd, vlen, haid, List.lookup, tput]) ?_
  refine y_st rfl (r := .one (.d (.int .i64 ((A.length : Int) - 1)))) (h' := h) (vop_int (a := A.length) (b := 1) rfl rfl ?_) ?_
  · simp only [vbin2, vbin, vint]
    rw [wrap_p (by omega) (by omega)]
    simp
  refine y_st rfl (r := .one (.d (.int .i64 ((A.length : Int) - 1)))) (h' := h) rfl ?_
  rw [yops_nil, ythen, yw_block, yw_loop]
  refine ⟨fun m T ys h1 pd => m ≤ A.length ∧ T = [(0, .one .any), (1, .one (.ptr id 0)), (3, .one (.d (.int .i64 ((m : Int) - 1))))] ∧ (∃ b, Yd b ys) ∧ h1 = h ∧ pd = none ∧ ∀ j, m ≤ j → j < A.length → Pass j, ⟨A.length, _, h, ?_, Nat.le_refl _, rfl, ⟨0, .base⟩, rfl, rfl, fun j h1 h2 => absurd h2 (by omega)⟩, ?_⟩
  · refine keepI (List.range n) h (WkH.refl _) (nodup_range n) (by rw [List.take_of_length_le (by simp)]) hh ⟨⟨_, WkV.refl _, rfl⟩, ⟨_, WkV.refl _, ?_⟩, ⟨_, WkV.refl _, rfl⟩, trivial⟩
    simp [lendR, lendV, lendL, renL, idx_range rfl hn]
  · rintro m T ys h1 pd ⟨hm, rfl, ⟨b, hys⟩, rfl, rfl, hp⟩
    rw [yw_seq, yw_seq, yw_ops]
    refine z_st hys (yop_mv hys (by decide) (by decide)) (by decide) (by decide) (r := .one (.d (.int .i64 ((m : Int) - 1)))) (h' := h1) rfl fun ys hys => ?_
    refine z_st hys rfl (by decide) (by decide) (r := .one (.d (.bool (decide (0 ≤ (m : Int) - 1))))) (h' := h1) (vop_int (a := (m : Int) - 1) (b := 0) rfl rfl rfl) fun ys hys => ?_
    rw [yops_nil, ythen, yw_cond]
    refine ⟨fun e => ?_, fun e => ?_⟩
    · rw [yw_skip, ythen, yw_seq, yw_block, yw_seq, yw_ops]
      have e : 0 ≤ (m : Int) - 1 := of_decide_eq_true e
      obtain ⟨i, rfl⟩ : ∃ i, m = i + 1 := ⟨m - 1, by omega⟩
      have hi : i < A.length := by omega
      have hx : A[i]? = some A[i] := List.getElem?_eq_getElem hi
      have hcast : ((i + 1 : Nat) : Int) - 1 = i := by omega
      rw [hcast] at *
      generalize A[i] = x at hx
      have hg : (nums A ++ XF)[i]? = some [.int .i64 x] := by
        rw [List.getElem?_append_left (by rw [nums_length]; exact hi)]
        exact nums_get hx
      have hil : (i : Int) < (A.length : Int) := by omega
      refine z_mv hys fun ys hys => ?_
      refine z_st hys (yop_mv hys (by decide) (by decide)) (by decide) (by decide) (r := .one (.d (.int .i64 i))) (h' := h1) rfl fun ys hys => ?_
      refine z_st hys rfl (by decide) (by decide) (r := .one (.own aid v A.length)) (h' := h1) (by simp [vop, ti22, opd, vload, hid, mkV, List.lookup, tput]) fun ys hys => ?_
      refine z_st hys (yop_mv hys (by decide) (by decide)) (by decide) (by decide) (r := .one (.d (.int .i64 i))) (h' := h1) rfl fun ys hys => ?_
      refine z_st hys rfl (by decide) (by decide) (r := .one (.ept aid v i 0)) (h' := h1) (by simp [vop, ti22, opd, vindexAddr, haid, List.lookup, tput, hi]) fun ys hys => ?_
      refine z_st hys rfl (by decide) (by decide) (r := .one (.d (.int .i64 x))) (h' := h1) (by simp [vop, ti3, opd, vload, mkV, List.lookup, tput, haid, hg]) fun ys hys => ?_
      refine z_yl hys (by decide) (by decide) (vs := [.one (.d (.int .i64 i)), .one (.d (.int .i64 x))]) rfl (fun ys hys => hround i x hx (fun j h1 h2 => hp j (by omega) h2) _ (fun r hpi => ?_) (fun h' hK => ?_))
      · refine z_st hys rfl (by decide) (by decide) (r := .one (.d (.bool false))) (h' := h1 ++ r) rfl fun ys hys => ?_
        rw [yops_nil, ythen, yw_cond]
        refine ⟨fun e => (by cases e), fun _ => ?_⟩
        rw [yw_skip, yblock, ythen, yw_ops]
        refine z_st hys (yop_mv hys (by decide) (by decide)) (by decide) (by decide) (r := .one (.d (.int .i64 i))) (h' := h1 ++ r) rfl fun ys hys => ?_
        refine z_st hys rfl (by decide) (by decide) (r := .one (.d (.int .i64 ((i : Int) - 1)))) (h' := h1 ++ r) (vop_int (a := i) (b := 1) rfl rfl ?_) (fun ys hys => ?_)
        · simp only [vbin2, vbin, vint]
          rw [wrap_p (by omega) (by omega)]
          simp
        refine z_st hys rfl (by decide) (by decide) (r := .one (.d (.int .i64 ((i : Int) - 1)))) (h' := h1 ++ r) rfl fun ys hys => ?_
        rw [yops_nil, ythen]
        refine ⟨i, _, h1, Nat.lt_succ_self i, ?_, by omega, rfl, ⟨_, hys⟩, rfl, rfl, fun j h1 h2 => ?_⟩
        · refine keepI (List.range n) (h1 ++ r) (WkH.refl _) (nodup_range n) (by rw [List.take_of_length_le (by simp)]) (handO_app hh) ⟨⟨_, WkV.refl _, rfl⟩, ⟨_, WkV.refl _, ?_⟩, ⟨_, WkV.refl _, rfl⟩, trivial⟩
          simp [lendR, lendV, lendL, renL, idx_range rfl hn]
        · by_cases e : j = i
          · subst e; exact hpi
          · exact hp j (by omega) h2
      · refine z_st hys rfl (by decide) (by decide) (r := .one (.d (.bool true))) (h' := h') rfl fun ys hys => ?_
        rw [yops_nil, ythen, yw_cond]
        exact ⟨fun _ => hK, fun e => (by cases e)⟩
    · have e : ¬ 0 ≤ (m : Int) - 1 := of_decide_eq_false e
      have : m = 0 := by omega
      subst this
      exact hend fun j hj => hp j (Nat.zero_le _) hj

theorem it127 : ItOk Tryz.prog 127 19 vc127 := ⟨Tryz.f127, _, Tryz.func127, rfl, rfl, rfl, by kernel_rfl, by kernel_rfl, rfl⟩

theorem vc_back144 (v len : Nat) (xs : List (List D)) : VC Tryz.prog 50 [.one (.own 0 v len)] [.arr false 1 v xs] fun r h' => r = .one (.fn 127 [.ptr 1 0]) ∧ h' = [.arr false 1 v xs, .box [.own 0 v len]] := by
  refine VC_of_fn mixed fn50 (by simp) ?_
  show vwp Tryz.prog 1 vc50 _ [(0, .one (.own 0 v len))] [.arr false 1 v xs]
  unfold vc50
  rw [vwpI_eq]
  simp -implicitDefEqProofs only [bV.d, oS.d, J0, J1, J2, J3, J4, J5, J6, J7, ↓reduceIte, reduceCtorEq]
  apply vend_of [0, 1]; rfl; rfl
  exact ⟨rfl, rfl⟩

def rH (vf vt : Nat) (A B : List Int) (XF XT : List (List D)) : AHeap := [.box [.own 1 vf A.length, .own 2 vt B.length, .fn 22 [.ptr 3 0]], .arr false 1 vf (nums A ++ XF), .arr false 1 vt (nums B ++ XT), .box [.ptr 0 0]]

theorem vc_xstamp (vf vt : Nat) (A B : List Int) (XF XT : List (List D)) (hA : A.length < 1000000000) (hAB : A.length = B.length) (n : Int) :
    VC Tryz.prog 24 [.one (.ptr 0 0), .one (.d (.int .i64 n))] (rH vf vt A B XF XT) fun r h' => r = .one (.d (.int .i64 (im A B n))) ∧ h' = rH vf vt A B XF XT := by
  have hb := vc_back144 vf A.length (nums A ++ XF)
  unfold rH
  refine VC_of_fn mixed fn24 (by simp) ?_
  show vwp Tryz.prog 4 vc24 _ [(0, .one (.ptr 0 0)), (1, .one (.d (.int .i64 n)))] [.box [.own 1 vf A.length, .own 2 vt B.length, .fn 22 [.ptr 3 0]], .arr false 1 vf (nums A ++ XF), .arr false 1 vt (nums B ++ XT), .box [.ptr 0 0]]
  unfold vc24
  rw [vwpI_eq]
  simp -implicitDefEqProofs only [bV.d, oS.d, J0, J1, J2, J3, J4, J5, J6, J7, ↓reduceIte, reduceCtorEq]
  refine callS [1] (hb) rfl rfl rfl ?_
  rintro _ _ ⟨rfl, rfl⟩
  refine ⟨_, _, rfl, ?_⟩
  simp -implicitDefEqProofs only [bV.d, oS.d, J0, J1, J2, J3, J4, J5, J6, J7, ↓reduceIte, reduceCtorEq]
  show vwp _ _ _ _ _ _
  refine ⟨127, [.ptr 7 0], 19, _, rfl, rfl, it127, by decide, ?_⟩
  refine ownBack_wp (A := A) (XF := XF) hA (id := 7) (aid := 1) (v := vf) rfl rfl (show 7 < 8 by decide) rfl (fun j => A[j]? ≠ some n) ?_ ?_
  · intro i x hx hp K' hn hr
    refine ⟨rfl, ?_⟩
    rw [vwpI_eq]
    have hi := (List.getElem?_eq_some_iff.1 hx).1
    obtain ⟨y, hy⟩ := rowOf (l := B) (i := i) (by omega)
    have hg : (nums A ++ XF)[i]? = some [.int .i64 x] := by
      rw [List.getElem?_append_left (by rw [nums_length]; exact hi)]
      exact nums_get hx
    have hg2 : (nums B ++ XT)[i]? = some [.int .i64 y] := by
      rw [List.getElem?_append_left (by rw [nums_length]; omega)]
      exact nums_get hy
    have l1 : (i : Int) < (A.length : Int) := by omega
    have l2 : (i : Int) < (B.length : Int) := by omega
    by_cases he : x = n
    · have e1 : (x = n) = True := by simp [he]
      simp -implicitDefEqProofs only [bV.d, oS.d, J0, J1, J2, J3, J4, J5, J6, J7, ↓reduceIte, reduceCtorEq, zipT]
      rw [vt_normal, vwpI_eq]
      simp -implicitDefEqProofs only [bV.d, oS.d, J0, J1, J2, J3, J4, J5, J6, J7, ↓reduceIte, reduceCtorEq, e1, hg, hg2, l1, l2, Int.natCast_nonneg, Int.toNat_natCast]
      refine hr _ ?_
      simp -implicitDefEqProofs only [bV.d, oS.d, J0, J1, J2, J3, J4, J5, J6, J7, ↓reduceIte, reduceCtorEq]
      apply vend_of [0, 1, 2, 3]
      · simp only [vres, lk_cons, Nat.reduceBEq, cond_true, cond_false, ti22, ti3, ti79, vload, List.getElem?_cons_succ, List.getElem?_cons_zero, mkV, List.drop_zero, List.length_cons, List.length_nil, Nat.reduceAdd, Nat.le_refl, if_true, List.take_succ_cons, List.take_zero, List.map_cons, List.map_nil, Nat.reduceLeDiff]; rfl
      · first | rfl | (simp [fin, nodup, handO, lendR, lendV, lendLs, lendL, idx, vone, renL, lendVs, renO, renL.renLs]; first | exact ⟨rfl, rfl⟩ | exact ⟨rfl, rfl, rfl⟩)
      have hl : lastIdx A n = some i := lastIdx_iff.2 ⟨he ▸ hx, fun j hj hc => hp j hj (List.getElem?_eq_some_iff.1 hc).1 hc⟩
      refine ⟨?_, rfl⟩
      unfold im
      rw [hl]
      simp only [List.getD_eq_getElem?_getD, hy, Option.getD_some]
    · have e1 : (x = n) = False := by simp [he]
      simp -implicitDefEqProofs only [bV.d, oS.d, J0, J1, J2, J3, J4, J5, J6, J7, ↓reduceIte, reduceCtorEq, zipT]
      rw [vt_normal, vwpI_eq]
      simp -implicitDefEqProofs only [bV.d, oS.d, J0, J1, J2, J3, J4, J5, J6, J7, ↓reduceIte, reduceCtorEq, e1, hg, hg2, l1, l2, Int.natCast_nonneg, Int.toNat_natCast]
      exact hn [] fun hc => he (Option.some.inj (hx.symm.trans hc))
  · intro hp
    simp -implicitDefEqProofs only [bV.d, oS.d, J0, J1, J2, J3, J4, J5, J6, J7, ↓reduceIte, reduceCtorEq]
    apply vend_of [0, 1, 2, 3]
    · simp only [vres, lk_cons, Nat.reduceBEq, cond_true, cond_false, ti22, ti3, ti79, vload, List.getElem?_cons_succ, List.getElem?_cons_zero, mkV, List.drop_zero, List.length_cons, List.length_nil, Nat.reduceAdd, Nat.le_refl, if_true, List.take_succ_cons, List.take_zero, List.map_cons, List.map_nil, Nat.reduceLeDiff]; rfl
    · first | rfl | (simp [fin, nodup, handO, lendR, lendV, lendLs, lendL, idx, vone, renL, lendVs, renO, renL.renLs]; first | exact ⟨rfl, rfl⟩ | exact ⟨rfl, rfl, rfl⟩)
    have hl : lastIdx A n = none := lastIdx_none.2 fun hm => by
      obtain ⟨j, hj⟩ := List.getElem?_of_mem hm
      exact hp j (List.getElem?_eq_some_iff.1 hj).1 hj
    refine ⟨?_, rfl⟩
    unfold im
    rw [hl]

end Go.Vt.Tryz
set_option maxRecDepth 100000
set_option linter.unusedSimpArgs false
namespace Go.Vt.Tryz
open Go.Vt renaming vslice → J0
open Nat renaming reduceBEq → J1, reduceEqDiff → J2, reduceLT → J3, reduceLeDiff → J4, reduceAdd → J5, reduceMul → J6, reduceSub → J7
open Go.Proofs Go.Vt.Al

theorem sE30 : SortE 100 102 3 := ⟨⟨_, _, _, _, ti100, by decide, rfl, by decide⟩, ⟨_, _, _, ti102⟩⟩
theorem vc_cloneT (l : List Ty) (hl : l.length < 1000000000) : VC Tryz.prog 202 [.one (.d (.sl (encTy.encs l)))] [] fun r h' => (encTy.encs l = [] ∧ r = .one .nils ∧ h' = []) ∨ (r = .one (.own 0 1 (encTy.encs l).length) ∧ h' = [.arr false 3 1 (encTy.encs l)]) :=
  vc_clone sE30 fn202 (encTy.encs l) (by rw [encsTy]; simp only [allLen, List.all_map, List.all_eq_true]; intro t _; obtain ⟨k, n, r⟩ := t; rfl) (by rw [encsTy_length]; exact hl)

theorem renTys_map (A B : List Int) : ∀ l : List Ty, renTy.go A B l = l.map (renTy A B)
  | [] => rfl
  | t :: r => by simp only [renTy.go, renTys_map A B r, List.map_cons]

def mix {α : Type} (f : α → α) (l : List α) (i : Nat) : List α := (l.take i).map f ++ l.drop i
theorem mix_get {α : Type} {f : α → α} {l : List α} {i : Nat} {x : α} (h : l[i]? = some x) : (mix f l i)[i]? = some x := by
  have hl := (List.getElem?_eq_some_iff.1 h).1
  unfold mix
  rw [List.getElem?_append_right (by simp; omega), drop_cons' h]
  simp [Nat.min_eq_left (Nat.le_of_lt hl)]
  where
  drop_cons' {α : Type} {l : List α} {i : Nat} {x : α} (h : l[i]? = some x) : l.drop i = x :: l.drop (i + 1) := by
    have hl := (List.getElem?_eq_some_iff.1 h).1
    rw [List.drop_eq_getElem_cons hl]
    rw [List.getElem?_eq_getElem hl] at h
    rw [Option.some.inj h]
theorem mix_set {α : Type} {f : α → α} {l : List α} {i : Nat} {x : α} (h : l[i]? = some x) : (mix f l i).set i (f x) = mix f l (i + 1) := by
  have hl := (List.getElem?_eq_some_iff.1 h).1
  unfold mix
  rw [mix_get.drop_cons' h, List.take_add_one, h]
  have hlen : ((l.take i).map f).length = i := by simp; omega
  rw [List.set_append_right _ _ (by omega), hlen, Nat.sub_self]
  simp
theorem mix_all {α : Type} {f : α → α} {l : List α} : mix f l l.length = l.map f := by simp [mix]
theorem mix_length {α : Type} {f : α → α} {l : List α} {i : Nat} (h : i ≤ l.length) : (mix f l i).length = l.length := by simp [mix]; omega

set_option maxHeartbeats 1000000 in
theorem vc_xtyp (vf vt : Nat) (A B : List Int) (XF XT : List (List D)) (hA : A.length < 1000000000) (hAB : A.length = B.length) : ∀ (N : Nat) (t : Ty), tyn t ≤ N → N < 100000000 →
    VC Tryz.prog 133 [.one (.ptr 0 0), tyV t] (rH vf vt A B XF XT) fun r h' => r = tyV (renTy A B t) ∧ h' = rH vf vt A B XF XT
  | 0, .mk k n l, h, _ => by simp only [tyn] at h; omega
  | N + 1, .mk k n l, h, hN => by
    have ih := vc_xtyp vf vt A B XF XT hA hAB N
    have hst := vc_xstamp vf vt A B XF XT hA hAB n
    simp only [tyn, tyn_go] at h
    have hlen := sumN_length (f := tyn) (fun t => by cases t; simp [tyn]) l
    have hcl := vc_cloneT l (by omega)
    have hl3 : (encTy.encs l).length = l.length := encsTy_length l
    rw [hl3] at hcl
    have hmem : ∀ (i : Nat) (u : Ty), l[i]? = some u → tyn u ≤ N := fun i u hu => by have := sumN_mem (f := tyn) (List.mem_of_getElem? hu); omega
    simp only [rH] at ih hst ⊢
    simp only [tyV, encTy, renTy, renTys_map, List.map_cons, List.map_nil]
    refine VC_of_fn mixed fn133 (by simp) ?_
    show vwp Tryz.prog 4 vc133 _ [(0, .one (.ptr 0 0)), (1, .agg [.d (.int .i64 k), .d (.int .i64 n), .d (.sl (encTy.encs l))])] [.box [.own 1 vf A.length, .own 2 vt B.length, .fn 22 [.ptr 3 0]], .arr false 1 vf (nums A ++ XF), .arr false 1 vt (nums B ++ XT), .box [.ptr 0 0]]
    unfold vc133
    rw [vwpI_eq]
    obtain ⟨n1, hn1⟩ : ∃ n1, n1 = if k = kindStamp then im A B n else n := ⟨_, rfl⟩
    by_cases hk : k = 6
    · have hk1 : (k = 6) = True := by simp [hk]
      have hk2 : k = kindStamp := hk
      rw [if_pos hk2] at hn1
      simp -implicitDefEqProofs only [bV.d, oS.d, J0, J1, J2, J3, J4, J5, J6, J7, ↓reduceIte, reduceCtorEq, hk1]
      refine callS [0, 1, 2, 3] (hst) rfl rfl rfl ?_
      rintro _ _ ⟨rfl, rfl⟩
      refine ⟨_, _, rfl, ?_⟩
      simp -implicitDefEqProofs only [bV.d, oS.d, J0, J1, J2, J3, J4, J5, J6, J7, ↓reduceIte, reduceCtorEq]
      rw [← hn1]
      refine callS [] hcl rfl rfl rfl ?_
      rintro _ _ (⟨he, rfl, rfl⟩ | ⟨rfl, rfl⟩)
      · have hl0 : l = [] := List.length_eq_zero_iff.1 (by rw [← hl3, he]; rfl)
        subst hl0
        refine ⟨_, _, rfl, ?_⟩
        simp -implicitDefEqProofs only [bV.d, oS.d, J0, J1, J2, J3, J4, J5, J6, J7, ↓reduceIte, reduceCtorEq]
        refine loopI (α := Unit) (fun _ => [(22, .one (.d (.int .i64 0))), (21, .one (.d (.int .i64 0))), (3, .one (.ptr 4 0)), (4, .one (.ptr 5 0))]) (fun _ => [.box [.own 1 vf A.length, .own 2 vt B.length, .fn 22 [.ptr 3 0]], .arr false 1 vf (nums A ++ XF), .arr false 1 vt (nums B ++ XT), .box [.ptr 0 0], .box [.d (.int .i64 k), .d (.int .i64 n1), .d (.sl [])], .box [.d (.int .i64 0), .d (.int .i64 0), .nils]]) (fun _ => True) (fun _ => 0) ()
          (keepI [0, 1, 2, 3, 4, 5] [.box [.own 1 vf A.length, .own 2 vt B.length, .fn 22 [.ptr 3 0]], .arr false 1 vf (nums A ++ XF), .arr false 1 vt (nums B ++ XT), .box [.ptr 0 0], .box [.d (.int .i64 k), .d (.int .i64 n1), .d (.sl [])], .box [.d (.int .i64 0), .d (.int .i64 0), .nils]] ⟨WkO.refl _, WkO.refl _, WkO.refl _, WkO.refl _, ⟨.inl rfl, .inl rfl, .inl rfl, .inr (.inl ⟨rfl, rfl⟩), trivial⟩, WkO.refl _, trivial⟩ rfl rfl rfl ⟨⟨_, WkV.refl _, rfl⟩, ⟨_, WkV.refl _, rfl⟩, ⟨_, WkV.refl _, rfl⟩, ⟨_, WkV.refl _, rfl⟩, trivial⟩) trivial ?_
        intro _ _
        have h00 : ((0 : Int) < 0) = False := by simp
        simp -implicitDefEqProofs only [bV.d, oS.d, J0, J1, J2, J3, J4, J5, J6, J7, ↓reduceIte, reduceCtorEq, h00]
        apply vend_of [0, 1, 2, 3]
        · simp only [vres, lk_cons, Nat.reduceBEq, cond_true, cond_false, ti100, ti102, ti3, vload, List.getElem?_cons_succ, List.getElem?_cons_zero, mkV, List.drop_zero, List.length_cons, List.length_nil, Nat.reduceAdd, Nat.le_refl, if_true, List.take_succ_cons, List.take_zero, List.map_cons, List.map_nil, Nat.reduceLeDiff]; rfl
        · first | rfl | (simp [fin, nodup, handO, lendR, lendV, lendLs, lendL, idx, vone, renL, lendVs, renO, renL.renLs]; first | exact ⟨rfl, rfl⟩ | exact ⟨rfl, rfl, rfl⟩)
        rw [hn1]
        simp only [if_pos hk2]
        first | exact ⟨rfl, rfl⟩ | exact ⟨trivial, trivial⟩ | exact ⟨rfl, trivial⟩ | exact ⟨trivial, rfl⟩
      · refine ⟨_, _, rfl, ?_⟩
        simp -implicitDefEqProofs only [bV.d, oS.d, J0, J1, J2, J3, J4, J5, J6, J7, ↓reduceIte, reduceCtorEq]
        refine loopI (α := Nat) (fun i => [(22, .one (.d (.int .i64 i))), (21, .one (.d (.int .i64 l.length))), (20, .one (.own 6 1 l.length)), (0, .one (.ptr 0 0)), (3, .one (.ptr 4 0)), (4, .one (.ptr 5 0))]) (fun i => [.box [.own 1 vf A.length, .own 2 vt B.length, .fn 22 [.ptr 3 0]], .arr false 1 vf (nums A ++ XF), .arr false 1 vt (nums B ++ XT), .box [.ptr 0 0], .box [.d (.int .i64 k), .d (.int .i64 n1), .own 6 1 l.length], .box [.d (.int .i64 0), .d (.int .i64 0), .nils], .arr false 3 1 (encTy.encs (mix (renTy A B) l i))])
          (fun i => i ≤ l.length) (fun i => l.length - i) 0
          (keepI [0, 1, 2, 3, 4, 5, 6] _ (WkH.refl _) rfl rfl rfl ⟨⟨_, WkV.refl _, rfl⟩, ⟨_, WkV.refl _, rfl⟩, ⟨_, WkV.refl _, rfl⟩, ⟨_, WkV.refl _, rfl⟩, ⟨_, WkV.refl _, rfl⟩, ⟨_, WkV.refl _, rfl⟩, trivial⟩) (Nat.zero_le _) ?_
        intro i hi
        have hw := wrapA1 (a := i) rfl (by omega)
        rcases Nat.lt_or_ge i l.length with h5 | h5
        · have hc : ((i : Int) < (l.length : Int)) = True := by simp; omega
          obtain ⟨u, hu⟩ := rowOf h5
          have hg : (encTy.encs (mix (renTy A B) l i))[i]? = some (encTy u) := by rw [encsTy, List.getElem?_map, mix_get hu]; rfl
          have iu := ih u (hmem i u hu) (by omega)
          have hset : (encTy.encs (mix (renTy A B) l i)).set i (encTy (renTy A B u)) = encTy.encs (mix (renTy A B) l (i + 1)) := by rw [← mix_set hu, encsTy, encsTy, List.map_set]
          have l1 : (i : Int) < (l.length : Int) := by omega
          generalize renTy A B u = R at iu hset
          obtain ⟨rk, rn, rl⟩ := R
          obtain ⟨uk, un, ul⟩ := u
          simp only [tyV, encTy, List.map_cons, List.map_nil] at iu hset hg
          simp -implicitDefEqProofs only [bV.d, oS.d, J0, J1, J2, J3, J4, J5, J6, J7, ↓reduceIte, reduceCtorEq, hc, hg, l1, Int.natCast_nonneg, Int.toNat_natCast]
          refine callS [0, 1, 2, 3] (iu) rfl rfl rfl ?_
          rintro _ _ ⟨rfl, rfl⟩
          refine ⟨_, _, rfl, ?_⟩
          simp -implicitDefEqProofs only [bV.d, oS.d, J0, J1, J2, J3, J4, J5, J6, J7, ↓reduceIte, reduceCtorEq, hc, hg, l1, hset, hw, Int.natCast_nonneg, Int.toNat_natCast]
          refine ⟨i + 1, by omega, by omega, ?_⟩
          exact (keepI [0, 1, 2, 3, 4, 5, 6] _ (WkH.refl _) rfl rfl rfl ⟨⟨_, WkV.refl _, rfl⟩, ⟨_, WkV.refl _, rfl⟩, ⟨_, WkV.refl _, rfl⟩, ⟨_, WkV.refl _, rfl⟩, ⟨_, WkV.refl _, rfl⟩, ⟨_, WkV.refl _, rfl⟩, trivial⟩)
        · have hc : ((i : Int) < (l.length : Int)) = False := by simp; omega
          have hie : i = l.length := by omega
          subst hie
          simp -implicitDefEqProofs only [bV.d, oS.d, J0, J1, J2, J3, J4, J5, J6, J7, ↓reduceIte, reduceCtorEq, hc]
          apply vend_of [0, 1, 2, 3]
          · simp only [vres, lk_cons, Nat.reduceBEq, cond_true, cond_false, ti100, ti102, ti3, vload, List.getElem?_cons_succ, List.getElem?_cons_zero, mkV, List.drop_zero, List.length_cons, List.length_nil, Nat.reduceAdd, Nat.le_refl, if_true, List.take_succ_cons, List.take_zero, List.map_cons, List.map_nil, Nat.reduceLeDiff]; rfl
          · first | rfl | (simp [fin, nodup, handO, lendR, lendV, lendLs, lendL, idx, vone, renL, lendVs, renO, renL.renLs]; first | exact ⟨rfl, rfl⟩ | exact ⟨rfl, rfl, rfl⟩)
          rw [hn1, mix_all, List.take_of_length_le (by rw [encsTy_length, List.length_map]; exact Nat.le_refl _)]
          simp only [if_pos hk2]
          first | exact ⟨rfl, rfl⟩ | exact ⟨trivial, trivial⟩ | exact ⟨rfl, trivial⟩ | exact ⟨trivial, rfl⟩
    · have hk1 : (k = 6) = False := by simp [hk]
      have hk2 : ¬ k = kindStamp := hk
      rw [if_neg hk2] at hn1
      simp -implicitDefEqProofs only [bV.d, oS.d, J0, J1, J2, J3, J4, J5, J6, J7, ↓reduceIte, reduceCtorEq, hk1]
      rw [← hn1]
      refine callS [] hcl rfl rfl rfl ?_
      rintro _ _ (⟨he, rfl, rfl⟩ | ⟨rfl, rfl⟩)
      · have hl0 : l = [] := List.length_eq_zero_iff.1 (by rw [← hl3, he]; rfl)
        subst hl0
        refine ⟨_, _, rfl, ?_⟩
        simp -implicitDefEqProofs only [bV.d, oS.d, J0, J1, J2, J3, J4, J5, J6, J7, ↓reduceIte, reduceCtorEq]
        refine loopI (α := Unit) (fun _ => [(22, .one (.d (.int .i64 0))), (21, .one (.d (.int .i64 0))), (3, .one (.ptr 4 0)), (4, .one (.ptr 5 0))]) (fun _ => [.box [.own 1 vf A.length, .own 2 vt B.length, .fn 22 [.ptr 3 0]], .arr false 1 vf (nums A ++ XF), .arr false 1 vt (nums B ++ XT), .box [.ptr 0 0], .box [.d (.int .i64 k), .d (.int .i64 n1), .d (.sl [])], .box [.d (.int .i64 0), .d (.int .i64 0), .nils]]) (fun _ => True) (fun _ => 0) ()
          (keepI [0, 1, 2, 3, 4, 5] [.box [.own 1 vf A.length, .own 2 vt B.length, .fn 22 [.ptr 3 0]], .arr false 1 vf (nums A ++ XF), .arr false 1 vt (nums B ++ XT), .box [.ptr 0 0], .box [.d (.int .i64 k), .d (.int .i64 n1), .d (.sl [])], .box [.d (.int .i64 0), .d (.int .i64 0), .nils]] ⟨WkO.refl _, WkO.refl _, WkO.refl _, WkO.refl _, ⟨.inl rfl, .inl rfl, .inl rfl, .inr (.inl ⟨rfl, rfl⟩), trivial⟩, WkO.refl _, trivial⟩ rfl rfl rfl ⟨⟨_, WkV.refl _, rfl⟩, ⟨_, WkV.refl _, rfl⟩, ⟨_, WkV.refl _, rfl⟩, ⟨_, WkV.refl _, rfl⟩, trivial⟩) trivial ?_
        intro _ _
        have h00 : ((0 : Int) < 0) = False := by simp
        simp -implicitDefEqProofs only [bV.d, oS.d, J0, J1, J2, J3, J4, J5, J6, J7, ↓reduceIte, reduceCtorEq, h00]
        apply vend_of [0, 1, 2, 3]
        · simp only [vres, lk_cons, Nat.reduceBEq, cond_true, cond_false, ti100, ti102, ti3, vload, List.getElem?_cons_succ, List.getElem?_cons_zero, mkV, List.drop_zero, List.length_cons, List.length_nil, Nat.reduceAdd, Nat.le_refl, if_true, List.take_succ_cons, List.take_zero, List.map_cons, List.map_nil, Nat.reduceLeDiff]; rfl
        · first | rfl | (simp [fin, nodup, handO, lendR, lendV, lendLs, lendL, idx, vone, renL, lendVs, renO, renL.renLs]; first | exact ⟨rfl, rfl⟩ | exact ⟨rfl, rfl, rfl⟩)
        rw [hn1]
        simp only [if_neg hk2]
        first | exact ⟨rfl, rfl⟩ | exact ⟨trivial, trivial⟩ | exact ⟨rfl, trivial⟩ | exact ⟨trivial, rfl⟩
      · refine ⟨_, _, rfl, ?_⟩
        simp -implicitDefEqProofs only [bV.d, oS.d, J0, J1, J2, J3, J4, J5, J6, J7, ↓reduceIte, reduceCtorEq]
        refine loopI (α := Nat) (fun i => [(22, .one (.d (.int .i64 i))), (21, .one (.d (.int .i64 l.length))), (20, .one (.own 6 1 l.length)), (0, .one (.ptr 0 0)), (3, .one (.ptr 4 0)), (4, .one (.ptr 5 0))]) (fun i => [.box [.own 1 vf A.length, .own 2 vt B.length, .fn 22 [.ptr 3 0]], .arr false 1 vf (nums A ++ XF), .arr false 1 vt (nums B ++ XT), .box [.ptr 0 0], .box [.d (.int .i64 k), .d (.int .i64 n1), .own 6 1 l.length], .box [.d (.int .i64 0), .d (.int .i64 0), .nils], .arr false 3 1 (encTy.encs (mix (renTy A B) l i))])
          (fun i => i ≤ l.length) (fun i => l.length - i) 0
          (keepI [0, 1, 2, 3, 4, 5, 6] _ (WkH.refl _) rfl rfl rfl ⟨⟨_, WkV.refl _, rfl⟩, ⟨_, WkV.refl _, rfl⟩, ⟨_, WkV.refl _, rfl⟩, ⟨_, WkV.refl _, rfl⟩, ⟨_, WkV.refl _, rfl⟩, ⟨_, WkV.refl _, rfl⟩, trivial⟩) (Nat.zero_le _) ?_
        intro i hi
        have hw := wrapA1 (a := i) rfl (by omega)
        rcases Nat.lt_or_ge i l.length with h5 | h5
        · have hc : ((i : Int) < (l.length : Int)) = True := by simp; omega
          obtain ⟨u, hu⟩ := rowOf h5
          have hg : (encTy.encs (mix (renTy A B) l i))[i]? = some (encTy u) := by rw [encsTy, List.getElem?_map, mix_get hu]; rfl
          have iu := ih u (hmem i u hu) (by omega)
          have hset : (encTy.encs (mix (renTy A B) l i)).set i (encTy (renTy A B u)) = encTy.encs (mix (renTy A B) l (i + 1)) := by rw [← mix_set hu, encsTy, encsTy, List.map_set]
          have l1 : (i : Int) < (l.length : Int) := by omega
          generalize renTy A B u = R at iu hset
          obtain ⟨rk, rn, rl⟩ := R
          obtain ⟨uk, un, ul⟩ := u
          simp only [tyV, encTy, List.map_cons, List.map_nil] at iu hset hg
          simp -implicitDefEqProofs only [bV.d, oS.d, J0, J1, J2, J3, J4, J5, J6, J7, ↓reduceIte, reduceCtorEq, hc, hg, l1, Int.natCast_nonneg, Int.toNat_natCast]
          refine callS [0, 1, 2, 3] (iu) rfl rfl rfl ?_
          rintro _ _ ⟨rfl, rfl⟩
          refine ⟨_, _, rfl, ?_⟩
          simp -implicitDefEqProofs only [bV.d, oS.d, J0, J1, J2, J3, J4, J5, J6, J7, ↓reduceIte, reduceCtorEq, hc, hg, l1, hset, hw, Int.natCast_nonneg, Int.toNat_natCast]
          refine ⟨i + 1, by omega, by omega, ?_⟩
          exact (keepI [0, 1, 2, 3, 4, 5, 6] _ (WkH.refl _) rfl rfl rfl ⟨⟨_, WkV.refl _, rfl⟩, ⟨_, WkV.refl _, rfl⟩, ⟨_, WkV.refl _, rfl⟩, ⟨_, WkV.refl _, rfl⟩, ⟨_, WkV.refl _, rfl⟩, ⟨_, WkV.refl _, rfl⟩, trivial⟩)
        · have hc : ((i : Int) < (l.length : Int)) = False := by simp; omega
          have hie : i = l.length := by omega
          subst hie
          simp -implicitDefEqProofs only [bV.d, oS.d, J0, J1, J2, J3, J4, J5, J6, J7, ↓reduceIte, reduceCtorEq, hc]
          apply vend_of [0, 1, 2, 3]
          · simp only [vres, lk_cons, Nat.reduceBEq, cond_true, cond_false, ti100, ti102, ti3, vload, List.getElem?_cons_succ, List.getElem?_cons_zero, mkV, List.drop_zero, List.length_cons, List.length_nil, Nat.reduceAdd, Nat.le_refl, if_true, List.take_succ_cons, List.take_zero, List.map_cons, List.map_nil, Nat.reduceLeDiff]; rfl
          · first | rfl | (simp [fin, nodup, handO, lendR, lendV, lendLs, lendL, idx, vone, renL, lendVs, renO, renL.renLs]; first | exact ⟨rfl, rfl⟩ | exact ⟨rfl, rfl, rfl⟩)
          rw [hn1, mix_all, List.take_of_length_le (by rw [encsTy_length, List.length_map]; exact Nat.le_refl _)]
          simp only [if_neg hk2]
          first | exact ⟨rfl, rfl⟩ | exact ⟨trivial, trivial⟩ | exact ⟨rfl, trivial⟩ | exact ⟨trivial, rfl⟩

end Go.Vt.Tryz
set_option maxRecDepth 100000
set_option linter.unusedSimpArgs false
namespace Go.Vt.Tryz
open Go.Vt renaming vslice → J0
open Nat renaming reduceBEq → J1, reduceEqDiff → J2, reduceLT → J3, reduceLeDiff → J4, reduceAdd → J5, reduceMul → J6, reduceSub → J7
open Go.Proofs Go.Vt.Al

theorem vc_index (l : List Int) (n : Int) (hl : l.length < 1000000000) : VC Tryz.prog 49 [.one (.d (.sl (nums l))), .one (.d (.int .i64 n))] [] fun r h' => (∃ k : Int, r = .one (.d (.int .i64 k)) ∧ (0 ≤ k ↔ n ∈ l)) ∧ h' = [] := by
  refine VC_of_fn mixed fn49 (by simp) ?_
  show vwp Tryz.prog 0 vc49 _ [(0, .one (.d (.sl (nums l)))), (1, .one (.d (.int .i64 n)))] []
  unfold vc49
  rw [vwpI_eq]
  simp -implicitDefEqProofs only [bV.d, oS.d, J0, J1, J2, J3, J4, J5, J6, J7, ↓reduceIte, reduceCtorEq, nums_length]
  refine loopI (α := Nat) (fun i => [(8, .one (.d (.int .i64 i))), (7, .one (.d (.int .i64 l.length))), (0, .one (.d (.sl (nums l)))), (1, .one (.d (.int .i64 n)))]) (fun _ => [])
    (fun i => i ≤ l.length ∧ n ∉ l.take i) (fun i => l.length - i) 0
    (keepI [] _ (WkH.refl _) rfl rfl rfl ⟨⟨_, WkV.refl _, rfl⟩, ⟨_, WkV.refl _, rfl⟩, ⟨_, WkV.refl _, rfl⟩, ⟨_, WkV.refl _, rfl⟩, trivial⟩) ⟨Nat.zero_le _, by simp⟩ ?_
  rintro i ⟨hi, hn⟩
  have hw := wrapA1 (a := i) rfl (by omega)
  rcases Nat.lt_or_ge i l.length with h | h
  · have hc : ((i : Int) < (l.length : Int)) = True := by simp; omega
    obtain ⟨u, hu⟩ := rowOf h
    have hg := nums_get hu
    by_cases he : n = u
    · have he2 : (n = u) = True := by simp [he]
      simp -implicitDefEqProofs only [bV.d, oS.d, J0, J1, J2, J3, J4, J5, J6, J7, ↓reduceIte, reduceCtorEq, hc, hg, he2, Int.natCast_nonneg, Int.toNat_natCast, nums_length]
      apply vend_of []; rfl; rfl
      have : n ∈ l := he ▸ List.mem_of_getElem? hu
      exact ⟨⟨i, rfl, by simp [this]⟩, rfl⟩
    · have he2 : (n = u) = False := by simp [he]
      simp -implicitDefEqProofs only [bV.d, oS.d, J0, J1, J2, J3, J4, J5, J6, J7, ↓reduceIte, reduceCtorEq, hc, hg, he2, hw, Int.natCast_nonneg, Int.toNat_natCast, nums_length]
      refine ⟨i + 1, ⟨by omega, ?_⟩, by omega, ?_⟩
      · rw [List.take_add_one, hu]
        simp only [Option.toList_some, List.mem_append, List.mem_singleton, not_or]
        exact ⟨hn, he⟩
      · exact (keepI [] _ (WkH.refl _) rfl rfl rfl ⟨⟨_, WkV.refl _, rfl⟩, ⟨_, WkV.refl _, rfl⟩, ⟨_, WkV.refl _, rfl⟩, ⟨_, WkV.refl _, rfl⟩, trivial⟩)
  · have hc : ((i : Int) < (l.length : Int)) = False := by simp; omega
    simp -implicitDefEqProofs only [bV.d, oS.d, J0, J1, J2, J3, J4, J5, J6, J7, ↓reduceIte, reduceCtorEq, hc, nums_length]
    apply vend_of []; rfl; rfl
    rw [List.take_of_length_le h] at hn
    exact ⟨⟨-1, rfl, by simp [hn]⟩, rfl⟩

theorem vc_contains (l : List Int) (n : Int) (hl : l.length < 1000000000) : VC Tryz.prog 23 [.one (.d (.sl (nums l))), .one (.d (.int .i64 n))] [] fun r h' => r = .one (.d (.bool (decide (n ∈ l)))) ∧ h' = [] := by
  have hi := vc_index l n hl
  refine VC_of_fn mixed fn23 (by simp) ?_
  show vwp Tryz.prog 0 vc23 _ [(0, .one (.d (.sl (nums l)))), (1, .one (.d (.int .i64 n)))] []
  unfold vc23
  rw [vwpI_eq]
  simp -implicitDefEqProofs only [bV.d, oS.d, J0, J1, J2, J3, J4, J5, J6, J7, ↓reduceIte, reduceCtorEq]
  refine callS [] (hi) rfl rfl rfl ?_
  rintro _ _ ⟨⟨k, rfl, hk⟩, rfl⟩
  refine ⟨_, _, rfl, ?_⟩
  simp -implicitDefEqProofs only [bV.d, oS.d, J0, J1, J2, J3, J4, J5, J6, J7, ↓reduceIte, reduceCtorEq]
  refine ⟨fun h => ?_, fun h => ?_⟩
  · apply vend_of []; rfl; rfl
    exact ⟨by simp [hk.1 h], rfl⟩
  · apply vend_of []; rfl; rfl
    have hn : n ∉ l := fun hm => h (hk.2 hm)
    exact ⟨by simp [hn], rfl⟩

theorem vc_in (l : List Int) (n : Int) (hl : l.length < 1000000000) : VC Tryz.prog 52 [.one (.d (.sl (nums l))), .one (.ptr 0 0)] [.box [.d (.int .i64 n)]] fun r h' => r = .one (.d (.bool (decide (n ∈ l)))) ∧ h' = [.box [.d (.int .i64 n)]] := by
  have hi := vc_contains l n hl
  refine VC_of_fn mixed fn52 (by simp) ?_
  show vwp Tryz.prog 1 vc52 _ [(0, .one (.d (.sl (nums l)))), (1, .one (.ptr 0 0))] [.box [.d (.int .i64 n)]]
  unfold vc52
  rw [vwpI_eq]
  simp -implicitDefEqProofs only [bV.d, oS.d, J0, J1, J2, J3, J4, J5, J6, J7, ↓reduceIte, reduceCtorEq]
  refine callS [] (hi) rfl rfl rfl ?_
  rintro _ _ ⟨rfl, rfl⟩
  refine ⟨_, _, rfl, ?_⟩
  simp -implicitDefEqProofs only [bV.d, oS.d, J0, J1, J2, J3, J4, J5, J6, J7, ↓reduceIte, reduceCtorEq]
  apply vend_of [0]; rfl; rfl
  exact ⟨rfl, rfl⟩

theorem vc_indexO (v : Nat) (l : List Int) (XF : List (List D)) (n : Int) (hl : l.length < 1000000000) : VC Tryz.prog 49 [.one (.own 0 v l.length), .one (.d (.int .i64 n))] [.arr false 1 v (nums l ++ XF)] fun r h' => (∃ k : Int, r = .one (.d (.int .i64 k)) ∧ (0 ≤ k ↔ n ∈ l)) ∧ h' = [.arr false 1 v (nums l ++ XF)] := by
  refine VC_of_fn mixed fn49 (by simp) ?_
  show vwp Tryz.prog 1 vc49 _ [(0, .one (.own 0 v l.length)), (1, .one (.d (.int .i64 n)))] [.arr false 1 v (nums l ++ XF)]
  unfold vc49
  rw [vwpI_eq]
  simp -implicitDefEqProofs only [bV.d, oS.d, J0, J1, J2, J3, J4, J5, J6, J7, ↓reduceIte, reduceCtorEq, nums_length]
  refine loopI (α := Nat) (fun i => [(8, .one (.d (.int .i64 i))), (7, .one (.d (.int .i64 l.length))), (0, .one (.own 0 v l.length)), (1, .one (.d (.int .i64 n)))]) (fun _ => [.arr false 1 v (nums l ++ XF)])
    (fun i => i ≤ l.length ∧ n ∉ l.take i) (fun i => l.length - i) 0
    (keepI [0] _ (WkH.refl _) rfl rfl rfl ⟨⟨_, WkV.refl _, rfl⟩, ⟨_, WkV.refl _, rfl⟩, ⟨_, WkV.refl _, rfl⟩, ⟨_, WkV.refl _, rfl⟩, trivial⟩) ⟨Nat.zero_le _, by simp⟩ ?_
  rintro i ⟨hi, hn⟩
  have hw := wrapA1 (a := i) rfl (by omega)
  rcases Nat.lt_or_ge i l.length with h | h
  · have hc : ((i : Int) < (l.length : Int)) = True := by simp; omega
    obtain ⟨u, hu⟩ := rowOf h
    have hg : (nums l ++ XF)[i]? = some [.int .i64 u] := by rw [List.getElem?_append_left (by rw [nums_length]; exact h)]; exact nums_get hu
    by_cases he : n = u
    · have he2 : (n = u) = True := by simp [he]
      simp -implicitDefEqProofs only [bV.d, oS.d, J0, J1, J2, J3, J4, J5, J6, J7, ↓reduceIte, reduceCtorEq, hc, hg, he2, Int.natCast_nonneg, Int.toNat_natCast, nums_length]
      apply vend_of [0]; rfl; rfl
      have : n ∈ l := he ▸ List.mem_of_getElem? hu
      exact ⟨⟨i, rfl, by simp [this]⟩, rfl⟩
    · have he2 : (n = u) = False := by simp [he]
      simp -implicitDefEqProofs only [bV.d, oS.d, J0, J1, J2, J3, J4, J5, J6, J7, ↓reduceIte, reduceCtorEq, hc, hg, he2, hw, Int.natCast_nonneg, Int.toNat_natCast, nums_length]
      refine ⟨i + 1, ⟨by omega, ?_⟩, by omega, ?_⟩
      · rw [List.take_add_one, hu]
        simp only [Option.toList_some, List.mem_append, List.mem_singleton, not_or]
        exact ⟨hn, he⟩
      · exact (keepI [0] _ (WkH.refl _) rfl rfl rfl ⟨⟨_, WkV.refl _, rfl⟩, ⟨_, WkV.refl _, rfl⟩, ⟨_, WkV.refl _, rfl⟩, ⟨_, WkV.refl _, rfl⟩, trivial⟩)
  · have hc : ((i : Int) < (l.length : Int)) = False := by simp; omega
    simp -implicitDefEqProofs only [bV.d, oS.d, J0, J1, J2, J3, J4, J5, J6, J7, ↓reduceIte, reduceCtorEq, hc, nums_length]
    apply vend_of [0]; rfl; rfl
    rw [List.take_of_length_le h] at hn
    exact ⟨⟨-1, rfl, by simp [hn]⟩, rfl⟩

theorem vc_containsO (v : Nat) (l : List Int) (XF : List (List D)) (n : Int) (hl : l.length < 1000000000) : VC Tryz.prog 23 [.one (.own 0 v l.length), .one (.d (.int .i64 n))] [.arr false 1 v (nums l ++ XF)] fun r h' => r = .one (.d (.bool (decide (n ∈ l)))) ∧ h' = [.arr false 1 v (nums l ++ XF)] := by
  have hi := vc_indexO v l XF n hl
  refine VC_of_fn mixed fn23 (by simp) ?_
  show vwp Tryz.prog 1 vc23 _ [(0, .one (.own 0 v l.length)), (1, .one (.d (.int .i64 n)))] [.arr false 1 v (nums l ++ XF)]
  unfold vc23
  rw [vwpI_eq]
  simp -implicitDefEqProofs only [bV.d, oS.d, J0, J1, J2, J3, J4, J5, J6, J7, ↓reduceIte, reduceCtorEq]
  refine callS [0] (hi) rfl rfl rfl ?_
  rintro _ _ ⟨⟨k, rfl, hk⟩, rfl⟩
  refine ⟨_, _, rfl, ?_⟩
  simp -implicitDefEqProofs only [bV.d, oS.d, J0, J1, J2, J3, J4, J5, J6, J7, ↓reduceIte, reduceCtorEq]
  refine ⟨fun h => ?_, fun h => ?_⟩
  · apply vend_of [0]; rfl; rfl
    exact ⟨by simp [hk.1 h], rfl⟩
  · apply vend_of [0]; rfl; rfl
    have hn : n ∉ l := fun hm => h (hk.2 hm)
    exact ⟨by simp [hn], rfl⟩

theorem vc_inO (v : Nat) (l : List Int) (XF : List (List D)) (n : Int) (hl : l.length < 1000000000) : VC Tryz.prog 52 [.one (.own 0 v l.length), .one (.ptr 1 0)] [.arr false 1 v (nums l ++ XF), .box [.d (.int .i64 n)]] fun r h' => r = .one (.d (.bool (decide (n ∈ l)))) ∧ h' = [.arr false 1 v (nums l ++ XF), .box [.d (.int .i64 n)]] := by
  have hi := vc_containsO v l XF n hl
  refine VC_of_fn mixed fn52 (by simp) ?_
  show vwp Tryz.prog 2 vc52 _ [(0, .one (.own 0 v l.length)), (1, .one (.ptr 1 0))] [.arr false 1 v (nums l ++ XF), .box [.d (.int .i64 n)]]
  unfold vc52
  rw [vwpI_eq]
  simp -implicitDefEqProofs only [bV.d, oS.d, J0, J1, J2, J3, J4, J5, J6, J7, ↓reduceIte, reduceCtorEq]
  refine callS [0] (hi) rfl rfl rfl ?_
  rintro _ _ ⟨rfl, rfl⟩
  refine ⟨_, _, rfl, ?_⟩
  simp -implicitDefEqProofs only [bV.d, oS.d, J0, J1, J2, J3, J4, J5, J6, J7, ↓reduceIte, reduceCtorEq]
  apply vend_of [0, 1]; rfl; rfl
  exact ⟨rfl, rfl⟩

def nth4 (c o l q : List Int) : Nat → List Int
  | 0 => c
  | 1 => o
  | 2 => l
  | _ => q

set_option maxHeartbeats 1000000 in
theorem vc_index4 (c o l q : List Int) (v : Nat) (XF : List (List D)) (n : Int) (hc : c.length < 1000000000) (ho : o.length < 1000000000) (hl : l.length < 1000000000) (hq : q.length < 1000000000) :
    VC Tryz.prog 128 [.one (.bsl 0 0 4), .one (.fn 52 [.ptr 2 0])] [.box [.d (.sl (nums c)), .d (.sl (nums o)), .own 1 v l.length, .d (.sl (nums q))], .arr false 1 v (nums l ++ XF), .box [.d (.int .i64 n)]] fun r h' => (∃ k : Int, r = .one (.d (.int .i64 k)) ∧ (0 ≤ k ↔ (n ∈ c ∨ n ∈ o ∨ n ∈ l ∨ n ∈ q))) ∧ h' = [.box [.d (.sl (nums c)), .d (.sl (nums o)), .own 1 v l.length, .d (.sl (nums q))], .arr false 1 v (nums l ++ XF), .box [.d (.int .i64 n)]] := by
  have hc := vc_in c n hc
  have ho := vc_in o n ho
  have hq := vc_in q n hq
  have hl := vc_inO v l XF n hl
  refine VC_of_fn mixed fn128 (by simp) ?_
  show vwp Tryz.prog 3 vc128 _ [(0, .one (.bsl 0 0 4)), (1, .one (.fn 52 [.ptr 2 0]))] [.box [.d (.sl (nums c)), .d (.sl (nums o)), .own 1 v l.length, .d (.sl (nums q))], .arr false 1 v (nums l ++ XF), .box [.d (.int .i64 n)]]
  unfold vc128
  rw [vwpI_eq]
  simp -implicitDefEqProofs only [bV.d, oS.d, J0, J1, J2, J3, J4, J5, J6, J7, ↓reduceIte, reduceCtorEq]
  refine loopI (α := Nat) (fun i => [(8, .one (.d (.int .i64 i))), (7, .one (.d (.int .i64 4))), (0, .one (.bsl 0 0 4)), (1, .one (.fn 52 [.ptr 2 0]))]) (fun _ => [.box [.d (.sl (nums c)), .d (.sl (nums o)), .own 1 v l.length, .d (.sl (nums q))], .arr false 1 v (nums l ++ XF), .box [.d (.int .i64 n)]])
    (fun i => i ≤ 4 ∧ ∀ j, j < i → n ∉ nth4 c o l q j) (fun i => 4 - i) 0
    (keepI [0, 1, 2] _ (WkH.refl _) rfl rfl rfl ⟨⟨_, WkV.refl _, rfl⟩, ⟨_, WkV.refl _, rfl⟩, ⟨_, WkV.refl _, rfl⟩, ⟨_, WkV.refl _, rfl⟩, trivial⟩) ⟨Nat.zero_le _, fun j hj => absurd hj (by omega)⟩ ?_
  rintro i ⟨hi, hn⟩
  rcases (show i = 0 ∨ i = 1 ∨ i = 2 ∨ i = 3 ∨ i = 4 from by omega) with rfl | rfl | rfl | rfl | rfl
  · -- list 0
    have e0 : (((0 : Nat) : Int) < 4) = True := by simp
    have hw : IntKind.i64.wrap (((0 : Nat) : Int) + 1) = ((1 : Nat) : Int) := wrapA1 (a := 0) rfl (by omega)
    have z0 : (0 ≤ ((0 : Nat) : Int)) = True := by simp
    have z1 : ((0 : Nat) : Int).toNat = 0 := rfl
    have e5 : (((0 : Nat) : Int) < ((4 : Nat) : Int)) = True := by simp
    simp -implicitDefEqProofs only [bV.d, oS.d, J0, J1, J2, J3, J4, J5, J6, J7, ↓reduceIte, reduceCtorEq, e0, e5, z0, z1]
    refine callS [2] (hc) rfl rfl rfl ?_
    rintro _ _ ⟨rfl, rfl⟩
    refine ⟨_, _, rfl, ?_⟩
    by_cases hm : n ∈ c
    · simp -implicitDefEqProofs only [bV.d, oS.d, J0, J1, J2, J3, J4, J5, J6, J7, ↓reduceIte, reduceCtorEq, hm]
      apply vend_of [0, 1, 2]; rfl; rfl
      exact ⟨⟨0, rfl, by simp [hm]⟩, rfl⟩
    · simp -implicitDefEqProofs only [bV.d, oS.d, J0, J1, J2, J3, J4, J5, J6, J7, ↓reduceIte, reduceCtorEq, hm, hw]
      refine ⟨1, ⟨by omega, ?_⟩, by omega, ?_⟩
      · intro j hj
        rcases (show j = 0 from by omega) with rfl
        all_goals first | exact hm | exact hn _ (by omega)
      · exact (keepI [0, 1, 2] _ (WkH.refl _) rfl rfl rfl ⟨⟨_, WkV.refl _, rfl⟩, ⟨_, WkV.refl _, rfl⟩, ⟨_, WkV.refl _, rfl⟩, ⟨_, WkV.refl _, rfl⟩, trivial⟩)
  · -- list 1
    have e0 : (((1 : Nat) : Int) < 4) = True := by simp
    have hw : IntKind.i64.wrap (((1 : Nat) : Int) + 1) = ((2 : Nat) : Int) := wrapA1 (a := 1) rfl (by omega)
    have z0 : (0 ≤ ((1 : Nat) : Int)) = True := by simp
    have z1 : ((1 : Nat) : Int).toNat = 1 := rfl
    have e5 : (((1 : Nat) : Int) < ((4 : Nat) : Int)) = True := by simp
    simp -implicitDefEqProofs only [bV.d, oS.d, J0, J1, J2, J3, J4, J5, J6, J7, ↓reduceIte, reduceCtorEq, e0, e5, z0, z1]
    refine callS [2] (ho) rfl rfl rfl ?_
    rintro _ _ ⟨rfl, rfl⟩
    refine ⟨_, _, rfl, ?_⟩
    by_cases hm : n ∈ o
    · simp -implicitDefEqProofs only [bV.d, oS.d, J0, J1, J2, J3, J4, J5, J6, J7, ↓reduceIte, reduceCtorEq, hm]
      apply vend_of [0, 1, 2]; rfl; rfl
      exact ⟨⟨1, rfl, by simp [hm]⟩, rfl⟩
    · simp -implicitDefEqProofs only [bV.d, oS.d, J0, J1, J2, J3, J4, J5, J6, J7, ↓reduceIte, reduceCtorEq, hm, hw]
      refine ⟨2, ⟨by omega, ?_⟩, by omega, ?_⟩
      · intro j hj
        rcases (show j = 0 ∨ j = 1 from by omega) with rfl | rfl
        all_goals first | exact hm | exact hn _ (by omega)
      · exact (keepI [0, 1, 2] _ (WkH.refl _) rfl rfl rfl ⟨⟨_, WkV.refl _, rfl⟩, ⟨_, WkV.refl _, rfl⟩, ⟨_, WkV.refl _, rfl⟩, ⟨_, WkV.refl _, rfl⟩, trivial⟩)
  · -- list 2
    have e0 : (((2 : Nat) : Int) < 4) = True := by simp
    have hw : IntKind.i64.wrap (((2 : Nat) : Int) + 1) = ((3 : Nat) : Int) := wrapA1 (a := 2) rfl (by omega)
    have z0 : (0 ≤ ((2 : Nat) : Int)) = True := by simp
    have z1 : ((2 : Nat) : Int).toNat = 2 := rfl
    have e5 : (((2 : Nat) : Int) < ((4 : Nat) : Int)) = True := by simp
    simp -implicitDefEqProofs only [bV.d, oS.d, J0, J1, J2, J3, J4, J5, J6, J7, ↓reduceIte, reduceCtorEq, e0, e5, z0, z1]
    refine callS [1, 2] (hl) rfl rfl rfl ?_
    rintro _ _ ⟨rfl, rfl⟩
    refine ⟨_, _, rfl, ?_⟩
    by_cases hm : n ∈ l
    · simp -implicitDefEqProofs only [bV.d, oS.d, J0, J1, J2, J3, J4, J5, J6, J7, ↓reduceIte, reduceCtorEq, hm]
      apply vend_of [0, 1, 2]; rfl; rfl
      exact ⟨⟨2, rfl, by simp [hm]⟩, rfl⟩
    · simp -implicitDefEqProofs only [bV.d, oS.d, J0, J1, J2, J3, J4, J5, J6, J7, ↓reduceIte, reduceCtorEq, hm, hw]
      refine ⟨3, ⟨by omega, ?_⟩, by omega, ?_⟩
      · intro j hj
        rcases (show j = 0 ∨ j = 1 ∨ j = 2 from by omega) with rfl | rfl | rfl
        all_goals first | exact hm | exact hn _ (by omega)
      · exact (keepI [0, 1, 2] _ (WkH.refl _) rfl rfl rfl ⟨⟨_, WkV.refl _, rfl⟩, ⟨_, WkV.refl _, rfl⟩, ⟨_, WkV.refl _, rfl⟩, ⟨_, WkV.refl _, rfl⟩, trivial⟩)
  · -- list 3
    have e0 : (((3 : Nat) : Int) < 4) = True := by simp
    have hw : IntKind.i64.wrap (((3 : Nat) : Int) + 1) = ((4 : Nat) : Int) := wrapA1 (a := 3) rfl (by omega)
    have z0 : (0 ≤ ((3 : Nat) : Int)) = True := by simp
    have z1 : ((3 : Nat) : Int).toNat = 3 := rfl
    have e5 : (((3 : Nat) : Int) < ((4 : Nat) : Int)) = True := by simp
    simp -implicitDefEqProofs only [bV.d, oS.d, J0, J1, J2, J3, J4, J5, J6, J7, ↓reduceIte, reduceCtorEq, e0, e5, z0, z1]
    refine callS [2] (hq) rfl rfl rfl ?_
    rintro _ _ ⟨rfl, rfl⟩
    refine ⟨_, _, rfl, ?_⟩
    by_cases hm : n ∈ q
    · simp -implicitDefEqProofs only [bV.d, oS.d, J0, J1, J2, J3, J4, J5, J6, J7, ↓reduceIte, reduceCtorEq, hm]
      apply vend_of [0, 1, 2]; rfl; rfl
      exact ⟨⟨3, rfl, by simp [hm]⟩, rfl⟩
    · simp -implicitDefEqProofs only [bV.d, oS.d, J0, J1, J2, J3, J4, J5, J6, J7, ↓reduceIte, reduceCtorEq, hm, hw]
      refine ⟨4, ⟨by omega, ?_⟩, by omega, ?_⟩
      · intro j hj
        rcases (show j = 0 ∨ j = 1 ∨ j = 2 ∨ j = 3 from by omega) with rfl | rfl | rfl | rfl
        all_goals first | exact hm | exact hn _ (by omega)
      · exact (keepI [0, 1, 2] _ (WkH.refl _) rfl rfl rfl ⟨⟨_, WkV.refl _, rfl⟩, ⟨_, WkV.refl _, rfl⟩, ⟨_, WkV.refl _, rfl⟩, ⟨_, WkV.refl _, rfl⟩, trivial⟩)
  · have e0 : (((4 : Nat) : Int) < 4) = False := by simp
    simp -implicitDefEqProofs only [bV.d, oS.d, J0, J1, J2, J3, J4, J5, J6, J7, ↓reduceIte, reduceCtorEq, e0]
    apply vend_of [0, 1, 2]; rfl; rfl
    have k0 := hn 0 (by omega)
    have k1 := hn 1 (by omega)
    have k2 := hn 2 (by omega)
    have k3 := hn 3 (by omega)
    simp only [nth4] at k0 k1 k2 k3
    exact ⟨⟨-1, rfl, by simp [k0, k1, k2, k3]⟩, rfl⟩

theorem vc_contains4 (c o l q : List Int) (v : Nat) (XF : List (List D)) (n : Int) (hc : c.length < 1000000000) (ho : o.length < 1000000000) (hl : l.length < 1000000000) (hq : q.length < 1000000000) :
    VC Tryz.prog 51 [.one (.bsl 0 0 4), .one (.fn 52 [.ptr 2 0])] [.box [.d (.sl (nums c)), .d (.sl (nums o)), .own 1 v l.length, .d (.sl (nums q))], .arr false 1 v (nums l ++ XF), .box [.d (.int .i64 n)]] fun r h' => r = .one (.d (.bool (decide (n ∈ c ∨ n ∈ o ∨ n ∈ l ∨ n ∈ q)))) ∧ h' = [.box [.d (.sl (nums c)), .d (.sl (nums o)), .own 1 v l.length, .d (.sl (nums q))], .arr false 1 v (nums l ++ XF), .box [.d (.int .i64 n)]] := by
  have hi := vc_index4 c o l q v XF n hc ho hl hq
  refine VC_of_fn mixed fn51 (by simp) ?_
  show vwp Tryz.prog 3 vc51 _ [(0, .one (.bsl 0 0 4)), (1, .one (.fn 52 [.ptr 2 0]))] [.box [.d (.sl (nums c)), .d (.sl (nums o)), .own 1 v l.length, .d (.sl (nums q))], .arr false 1 v (nums l ++ XF), .box [.d (.int .i64 n)]]
  unfold vc51
  rw [vwpI_eq]
  simp -implicitDefEqProofs only [bV.d, oS.d, J0, J1, J2, J3, J4, J5, J6, J7, ↓reduceIte, reduceCtorEq]
  refine callS [0, 1, 2] (hi) rfl rfl rfl ?_
  rintro _ _ ⟨⟨k, rfl, hk⟩, rfl⟩
  refine ⟨_, _, rfl, ?_⟩
  simp -implicitDefEqProofs only [bV.d, oS.d, J0, J1, J2, J3, J4, J5, J6, J7, ↓reduceIte, reduceCtorEq]
  refine ⟨fun h => ?_, fun h => ?_⟩
  · apply vend_of [0, 1, 2]; rfl; rfl
    exact ⟨by simp [hk.1 h], rfl⟩
  · apply vend_of [0, 1, 2]; rfl; rfl
    have hn : ¬ (n ∈ c ∨ n ∈ o ∨ n ∈ l ∨ n ∈ q) := fun hm => h (hk.2 hm)
    exact ⟨by simp [hn], rfl⟩

theorem skip_sup {l : List Int} {k : Int} (h : ∀ i, 0 ≤ i → i < k → i ∈ l) (hk : 0 ≤ k) : k ≤ l.length := by
  have : ∀ (n : Nat) (l : List Int), (∀ i : Nat, i < n → (i : Int) ∈ l) → n ≤ l.length := by
    intro n
    induction n with
    | zero => intro l _; omega
    | succ n ih =>
      intro l h
      have hm := h n (by omega)
      have h1 := ih (l.erase n) fun i hi => by
        rw [List.mem_erase_of_ne (by omega)]
        exact h i (by omega)
      have h2 := List.length_erase_of_mem hm
      have h3 := List.length_pos_of_mem hm
      omega
  have := this k.toNat l fun i hi => h i (by omega) (by omega)
  omega

theorem vc_unused (c o l q : List Int) (v : Nat) (XF : List (List D)) (hc : c.length < 100000000) (ho : o.length < 100000000) (hl : l.length < 100000000) (hq : q.length < 100000000) :
    VC Tryz.prog 25 [.one (.bsl 0 0 4)] [.box [.d (.sl (nums c)), .d (.sl (nums o)), .own 1 v l.length, .d (.sl (nums q))], .arr false 1 v (nums l ++ XF)] fun r h' => (∃ m : Int, r = .one (.d (.int .i64 m)) ∧ m ∉ c ∧ m ∉ o ∧ m ∉ l ∧ m ∉ q) ∧ h' = [.box [.d (.sl (nums c)), .d (.sl (nums o)), .own 1 v l.length, .d (.sl (nums q))], .arr false 1 v (nums l ++ XF)] := by
  refine VC_of_fn mixed fn25 (by simp) ?_
  show vwp Tryz.prog 2 vc25 _ [(0, .one (.bsl 0 0 4))] [.box [.d (.sl (nums c)), .d (.sl (nums o)), .own 1 v l.length, .d (.sl (nums q))], .arr false 1 v (nums l ++ XF)]
  unfold vc25
  rw [vwpI_eq]
  simp -implicitDefEqProofs only [bV.d, oS.d, J0, J1, J2, J3, J4, J5, J6, J7, ↓reduceIte, reduceCtorEq]
  refine loopI (α := Nat) (fun i => [(3, .one (.ptr 2 0)), (0, .one (.bsl 0 0 4))]) (fun i => [.box [.d (.sl (nums c)), .d (.sl (nums o)), .own 1 v l.length, .d (.sl (nums q))], .arr false 1 v (nums l ++ XF), .box [.d (.int .i64 i)]])
    (fun i => ∀ j : Int, 0 ≤ j → j < i → j ∈ c ++ o ++ l ++ q) (fun i => c.length + o.length + l.length + q.length + 1 - i) 0
    (keepI [0, 1, 2] _ (WkH.refl _) rfl rfl rfl ⟨⟨_, WkV.refl _, rfl⟩, ⟨_, WkV.refl _, rfl⟩, trivial⟩) (fun j h1 h2 => absurd h2 (by omega)) ?_
  intro i hi
  have hb := skip_sup hi (by omega)
  simp only [List.length_append] at hb
  have hw := wrapA1 (a := i) rfl (by omega)
  have h4 := vc_contains4 c o l q v XF i (by omega) (by omega) (by omega) (by omega)
  simp -implicitDefEqProofs only [bV.d, oS.d, J0, J1, J2, J3, J4, J5, J6, J7, ↓reduceIte, reduceCtorEq]
  refine callS [0, 1, 2] (h4) rfl rfl rfl ?_
  rintro _ _ ⟨rfl, rfl⟩
  refine ⟨_, _, rfl, ?_⟩
  by_cases hm : ((i : Int) ∈ c ∨ (i : Int) ∈ o ∨ (i : Int) ∈ l ∨ (i : Int) ∈ q)
  · simp -implicitDefEqProofs only [bV.d, oS.d, J0, J1, J2, J3, J4, J5, J6, J7, ↓reduceIte, reduceCtorEq, hm, hw]
    refine ⟨i + 1, fun j h1 h2 => ?_, ?_, ?_⟩
    · by_cases he : j = i
      · subst he
        simp only [List.mem_append]
        rcases hm with h | h | h | h <;> simp [h]
      · exact hi j h1 (by omega)
    · have hb2 := skip_sup (l := c ++ o ++ l ++ q) (k := ((i + 1 : Nat) : Int)) (fun j h1 h2 => by
        by_cases he : j = i
        · subst he
          simp only [List.mem_append]
          rcases hm with h | h | h | h <;> simp [h]
        · exact hi j h1 (by omega)) (by omega)
      simp only [List.length_append] at hb2
      omega
    · exact (keepI [0, 1, 2] _ (WkH.refl _) rfl rfl rfl ⟨⟨_, WkV.refl _, rfl⟩, ⟨_, WkV.refl _, rfl⟩, trivial⟩)
  · simp -implicitDefEqProofs only [bV.d, oS.d, J0, J1, J2, J3, J4, J5, J6, J7, ↓reduceIte, reduceCtorEq, hm]
    apply vend_of [0, 1]; rfl; rfl
    simp only [not_or] at hm
    exact ⟨⟨i, rfl, hm.1, hm.2.1, hm.2.2.1, hm.2.2.2⟩, rfl⟩

end Go.Vt.Tryz
