/- The program's walker: binders. -/
import Derived.Test.YtladjgdhpfcmjaaGreatDoorVtSigD
import Derived.Test.YtladjgdhpfcmjaaGreatDoorVtDf
import Derived.Test.YtladjgdhpfcmjaaGreatDoorVtX4
set_option maxRecDepth 100000
set_option linter.unusedSimpArgs false
namespace Go.Vt.Tryz
open Go.Vt renaming vslice → J0
open Nat renaming reduceBEq → J1, reduceEqDiff → J2, reduceLT → J3, reduceLeDiff → J4, reduceAdd → J5, reduceMul → J6, reduceSub → J7
open Go.Proofs Go.Vt.Al

def kB (vb vf : Nat) (Bd F : List Int) (XB XF : List (List D)) (X : List L) : AHeap := [.box [.own 1 vb Bd.length, .own 2 vf F.length], .arr false 1 vb (nums Bd ++ XB), .arr false 1 vf (nums F ++ XF), .box [.ptr 0 0], .box X]

theorem vc_kback6 (vb vf : Nat) (Bd own F : List Int) (XB XF : List (List D)) (a0 a1 a2 a3 a4 a5 : D) :
    VCD Tryz.prog 192 [.one (.ptr 5 0), .one (.ptr 6 0)] (kB vb vf (Bd ++ own) F XB XF [.d a0, .d a1, .d a2, .d a3, .d a4, .d a5] ++ [.box [.ptr 0 0], .box [.d (.int .i64 Bd.length)]]) fun h' => h' = kB vb vf Bd F (nums own ++ XB) XF [.d a0, .d a1, .d a2, .d a3, .d a4, .d a5] ++ [.box [.ptr 0 0], .box [.d (.int .i64 Bd.length)]] := by
  have e1 : nums (Bd ++ own) ++ XB = nums Bd ++ (nums own ++ XB) := by simp [nums]
  simp only [kB, e1]
  refine VCD_of_fn mixed fn192 rfl (by simp) ?_
  show vwp Tryz.prog 7 vc192 _ [(0, .one (.ptr 5 0)), (1, .one (.ptr 6 0))] _
  unfold vc192
  have h1 : Bd.length ≤ (Bd ++ own).length := by simp
  rw [vwpI_eq]
  simp -implicitDefEqProofs only [bV.d, oS.d, J0, J1, J2, J3, J4, J5, J6, J7, ↓reduceIte, reduceCtorEq, h1, Int.natCast_nonneg, Int.toNat_natCast]
  apply vend_of [0, 1, 2, 3, 4, 5, 6]; rfl; rfl
  rfl

set_option maxHeartbeats 1000000 in
theorem vc_kunder6 {g : FuncId} (a0 a1 a2 a3 a4 a5 : D) (Bd own : List Int) (Q : Int → Prop) (c : Nat) (hB : Bd.length + own.length < 1000000000)
    (hdo : ∀ (vb vf : Nat) (F : List Int) (XB XF : List (List D)), F.length + c < 1000000000 → VC Tryz.prog g [.one (.ptr 3 0), .one (.ptr 4 0)] (kB vb vf (Bd ++ own) F XB XF [.d a0, .d a1, .d a2, .d a3, .d a4, .d a5]) fun r h' => r = .tup [] ∧ ∃ vb vf F' XB XF, h' = kB vb vf (Bd ++ own) F' XB XF [.d a0, .d a1, .d a2, .d a3, .d a4, .d a5] ∧ (∀ n, n ∈ F' ↔ n ∈ F ∨ (Q n ∧ n ∉ Bd ++ own)) ∧ F'.length ≤ F.length + c)
    (vb vf : Nat) (F : List Int) (XB XF : List (List D)) (hF : F.length + c < 1000000000) :
    VC Tryz.prog 116 [.one (.ptr 0 0), .one (.d (.sl (nums own))), .one (.fn g [.ptr 3 0, .ptr 4 0])] (kB vb vf Bd F XB XF [.d a0, .d a1, .d a2, .d a3, .d a4, .d a5]) fun r h' => r = .tup [] ∧ ∃ vb vf F' XB XF, h' = kB vb vf Bd F' XB XF [.d a0, .d a1, .d a2, .d a3, .d a4, .d a5] ∧ (∀ n, n ∈ F' ↔ n ∈ F ∨ ((Q n ∧ n ∉ own) ∧ n ∉ Bd)) ∧ F'.length ≤ F.length + c := by
  have hdo := hdo (vb + 1) vf F [] XF hF
  simp only [kB, List.append_nil] at hdo ⊢
  have hcap : (Bd.length + own.length) * 8 ≤ maxBytes ∧ Bd.length + own.length ≤ maxBytes := by simp [maxBytes]; omega
  have htk := nums_take Bd XB
  have e1 : nums Bd ++ nums own = nums (Bd ++ own) := by simp [nums]
  have hal : ((nums own).all fun e => e.length == 1) = true := by simp [nums]
  have e2 : Bd.length + own.length = (Bd ++ own).length := by simp
  refine VC_of_df mixed dk116 (by simp) ?_
  show vwp Tryz.prog 5 (vseqs dp116 (.ops do116)) _ [(0, .one (.ptr 0 0)), (1, .one (.d (.sl (nums own)))), (2, .one (.fn g [.ptr 3 0, .ptr 4 0]))] _
  simp only [dp116, do116, vseqs]
  rw [vwpI_eq]
  simp -implicitDefEqProofs only [bV.d, oS.d, J0, J1, J2, J3, J4, J5, J6, J7, ↓reduceIte, reduceCtorEq, hcap, htk, hal, nums_length]
  refine ⟨_, _, rfl, ?_⟩
  rw [e1, e2]
  show vwp Tryz.prog 7 dr116 _ _ _
  unfold dr116
  rw [vwpI_eq]
  simp -implicitDefEqProofs only [bV.d, oS.d, J0, J1, J2, J3, J4, J5, J6, J7, ↓reduceIte, reduceCtorEq]
  refine callS [0, 1, 2, 3, 4] hdo rfl rfl rfl ?_
  rintro _ _ ⟨rfl, vb1, vf1, F1, XB1, XF1, rfl, h1, h2⟩
  refine ⟨_, _, rfl, ?_⟩
  simp -implicitDefEqProofs only [bV.d, oS.d, J0, J1, J2, J3, J4, J5, J6, J7, ↓reduceIte, reduceCtorEq]
  refine ⟨_, vc_kback6 vb1 vf1 Bd own F1 XB1 XF1 a0 a1 a2 a3 a4 a5, ?_⟩
  rintro _ rfl
  simp only [kB, List.cons_append, List.nil_append]
  apply vend_of [0, 1, 2, 3, 4]; rfl; rfl
  refine ⟨rfl, vb1, vf1, F1, nums own ++ XB1, XF1, rfl, fun n => ?_, h2⟩
  rw [h1 n]
  simp only [List.mem_append, not_or]
  constructor
  · rintro (a | ⟨a, b, d⟩)
    · exact .inl a
    · exact .inr ⟨⟨a, d⟩, b⟩
  · rintro (a | ⟨⟨a, d⟩, b⟩)
    · exact .inl a
    · exact .inr ⟨a, b, d⟩

theorem vc_kback12 (vb vf : Nat) (Bd own F : List Int) (XB XF : List (List D)) (a0 a1 a2 a3 a4 a5 a6 a7 a8 a9 a10 a11 : D) :
    VCD Tryz.prog 192 [.one (.ptr 5 0), .one (.ptr 6 0)] (kB vb vf (Bd ++ own) F XB XF [.d a0, .d a1, .d a2, .d a3, .d a4, .d a5, .d a6, .d a7, .d a8, .d a9, .d a10, .d a11] ++ [.box [.ptr 0 0], .box [.d (.int .i64 Bd.length)]]) fun h' => h' = kB vb vf Bd F (nums own ++ XB) XF [.d a0, .d a1, .d a2, .d a3, .d a4, .d a5, .d a6, .d a7, .d a8, .d a9, .d a10, .d a11] ++ [.box [.ptr 0 0], .box [.d (.int .i64 Bd.length)]] := by
  have e1 : nums (Bd ++ own) ++ XB = nums Bd ++ (nums own ++ XB) := by simp [nums]
  simp only [kB, e1]
  refine VCD_of_fn mixed fn192 rfl (by simp) ?_
  show vwp Tryz.prog 7 vc192 _ [(0, .one (.ptr 5 0)), (1, .one (.ptr 6 0))] _
  unfold vc192
  have h1 : Bd.length ≤ (Bd ++ own).length := by simp
  rw [vwpI_eq]
  simp -implicitDefEqProofs only [bV.d, oS.d, J0, J1, J2, J3, J4, J5, J6, J7, ↓reduceIte, reduceCtorEq, h1, Int.natCast_nonneg, Int.toNat_natCast]
  apply vend_of [0, 1, 2, 3, 4, 5, 6]; rfl; rfl
  rfl

set_option maxHeartbeats 1000000 in
theorem vc_kunder12 {g : FuncId} (a0 a1 a2 a3 a4 a5 a6 a7 a8 a9 a10 a11 : D) (Bd own : List Int) (Q : Int → Prop) (c : Nat) (hB : Bd.length + own.length < 1000000000)
    (hdo : ∀ (vb vf : Nat) (F : List Int) (XB XF : List (List D)), F.length + c < 1000000000 → VC Tryz.prog g [.one (.ptr 3 0), .one (.ptr 4 0)] (kB vb vf (Bd ++ own) F XB XF [.d a0, .d a1, .d a2, .d a3, .d a4, .d a5, .d a6, .d a7, .d a8, .d a9, .d a10, .d a11]) fun r h' => r = .tup [] ∧ ∃ vb vf F' XB XF, h' = kB vb vf (Bd ++ own) F' XB XF [.d a0, .d a1, .d a2, .d a3, .d a4, .d a5, .d a6, .d a7, .d a8, .d a9, .d a10, .d a11] ∧ (∀ n, n ∈ F' ↔ n ∈ F ∨ (Q n ∧ n ∉ Bd ++ own)) ∧ F'.length ≤ F.length + c)
    (vb vf : Nat) (F : List Int) (XB XF : List (List D)) (hF : F.length + c < 1000000000) :
    VC Tryz.prog 116 [.one (.ptr 0 0), .one (.d (.sl (nums own))), .one (.fn g [.ptr 3 0, .ptr 4 0])] (kB vb vf Bd F XB XF [.d a0, .d a1, .d a2, .d a3, .d a4, .d a5, .d a6, .d a7, .d a8, .d a9, .d a10, .d a11]) fun r h' => r = .tup [] ∧ ∃ vb vf F' XB XF, h' = kB vb vf Bd F' XB XF [.d a0, .d a1, .d a2, .d a3, .d a4, .d a5, .d a6, .d a7, .d a8, .d a9, .d a10, .d a11] ∧ (∀ n, n ∈ F' ↔ n ∈ F ∨ ((Q n ∧ n ∉ own) ∧ n ∉ Bd)) ∧ F'.length ≤ F.length + c := by
  have hdo := hdo (vb + 1) vf F [] XF hF
  simp only [kB, List.append_nil] at hdo ⊢
  have hcap : (Bd.length + own.length) * 8 ≤ maxBytes ∧ Bd.length + own.length ≤ maxBytes := by simp [maxBytes]; omega
  have htk := nums_take Bd XB
  have e1 : nums Bd ++ nums own = nums (Bd ++ own) := by simp [nums]
  have hal : ((nums own).all fun e => e.length == 1) = true := by simp [nums]
  have e2 : Bd.length + own.length = (Bd ++ own).length := by simp
  refine VC_of_df mixed dk116 (by simp) ?_
  show vwp Tryz.prog 5 (vseqs dp116 (.ops do116)) _ [(0, .one (.ptr 0 0)), (1, .one (.d (.sl (nums own)))), (2, .one (.fn g [.ptr 3 0, .ptr 4 0]))] _
  simp only [dp116, do116, vseqs]
  rw [vwpI_eq]
  simp -implicitDefEqProofs only [bV.d, oS.d, J0, J1, J2, J3, J4, J5, J6, J7, ↓reduceIte, reduceCtorEq, hcap, htk, hal, nums_length]
  refine ⟨_, _, rfl, ?_⟩
  rw [e1, e2]
  show vwp Tryz.prog 7 dr116 _ _ _
  unfold dr116
  rw [vwpI_eq]
  simp -implicitDefEqProofs only [bV.d, oS.d, J0, J1, J2, J3, J4, J5, J6, J7, ↓reduceIte, reduceCtorEq]
  refine callS [0, 1, 2, 3, 4] hdo rfl rfl rfl ?_
  rintro _ _ ⟨rfl, vb1, vf1, F1, XB1, XF1, rfl, h1, h2⟩
  refine ⟨_, _, rfl, ?_⟩
  simp -implicitDefEqProofs only [bV.d, oS.d, J0, J1, J2, J3, J4, J5, J6, J7, ↓reduceIte, reduceCtorEq]
  refine ⟨_, vc_kback12 vb1 vf1 Bd own F1 XB1 XF1 a0 a1 a2 a3 a4 a5 a6 a7 a8 a9 a10 a11, ?_⟩
  rintro _ rfl
  simp only [kB, List.cons_append, List.nil_append]
  apply vend_of [0, 1, 2, 3, 4]; rfl; rfl
  refine ⟨rfl, vb1, vf1, F1, nums own ++ XB1, XF1, rfl, fun n => ?_, h2⟩
  rw [h1 n]
  simp only [List.mem_append, not_or]
  constructor
  · rintro (a | ⟨a, b, d⟩)
    · exact .inl a
    · exact .inr ⟨⟨a, d⟩, b⟩
  · rintro (a | ⟨⟨a, d⟩, b⟩)
    · exact .inl a
    · exact .inr ⟨a, b, d⟩

def SW (x : Stx) (Bd : List Int) : Prop := ∀ (vb vf : Nat) (F : List Int) (XB XF : List (List D)), F.length + stn x < 1000000000 → VC Tryz.prog 53 [.one (.ptr 0 0), stW x] (kH vb vf Bd F XB XF) fun r h' => r = .tup [] ∧ Wk Bd F (fvSt x) (stn x) h'

theorem vc_kabs {y : Stx} {q Bd : List Int} (H : SW y (Bd ++ q)) (hB : Bd.length + q.length < 1000000000) (vb vf : Nat) (F : List Int) (XB XF : List (List D)) (hF : F.length + stn y < 1000000000) :
    VC Tryz.prog 43 [.one (.ptr 0 0), abW q y] (kH vb vf Bd F XB XF) fun r h' => r = .tup [] ∧ Wk Bd F (fun n => fvSt y n ∧ n ∉ q) (stn y) h' := by
  have hQe : ∃ Q : Int → Prop, Q = fvSt y := ⟨_, rfl⟩
  obtain ⟨Q, hQ⟩ := hQe
  have hce : ∃ c : Nat, c = stn y := ⟨_, rfl⟩
  obtain ⟨Qc, hQc⟩ := hce
  unfold SW at H
  rw [← hQ, ← hQc] at H ⊢
  rw [← hQc] at hF
  obtain ⟨y1, y2, y3, y4, y5⟩ := y
  have hdo : ∀ (vb vf : Nat) (F : List Int) (XB XF : List (List D)), F.length + Qc < 1000000000 → VC Tryz.prog 117 [.one (.ptr 3 0), .one (.ptr 4 0)] (kB vb vf (Bd ++ q) F XB XF [.d (.sl (nums q)), .d (.sl (y1.map encTym)), .d (.sl (y2.map encVam)), .d (.sl (encSt.subs y3)), .d (.sl (encSt.funs y4)), .d (.sl (encSt.sigs y5))]) fun r h' => r = .tup [] ∧ ∃ vb vf F' XB XF, h' = kB vb vf (Bd ++ q) F' XB XF [.d (.sl (nums q)), .d (.sl (y1.map encTym)), .d (.sl (y2.map encVam)), .d (.sl (encSt.subs y3)), .d (.sl (encSt.funs y4)), .d (.sl (encSt.sigs y5))] ∧ (∀ n, n ∈ F' ↔ n ∈ F ∨ (Q n ∧ n ∉ Bd ++ q)) ∧ F'.length ≤ F.length + Qc := by
    intro vb vf F XB XF hF
    have h1 := H vb vf F XB XF hF
    simp only [stW, encSt, List.map_cons, List.map_nil, kH, kB] at h1 ⊢
    refine VC_of_fn mixed fn117 (by simp) ?_
    show vwp Tryz.prog 5 vc117 _ [(0, .one (.ptr 3 0)), (1, .one (.ptr 4 0))] [.box [.own 1 vb (Bd ++ q).length, .own 2 vf F.length], .arr false 1 vb (nums (Bd ++ q) ++ XB), .arr false 1 vf (nums F ++ XF), .box [.ptr 0 0], .box [.d (.sl (nums q)), .d (.sl (y1.map encTym)), .d (.sl (y2.map encVam)), .d (.sl (encSt.subs y3)), .d (.sl (encSt.funs y4)), .d (.sl (encSt.sigs y5))]]
    unfold vc117
    rw [vwpI_eq]
    simp -implicitDefEqProofs only [bV.d, oS.d, J0, J1, J2, J3, J4, J5, J6, J7, ↓reduceIte, reduceCtorEq]
    refine callS [0, 1, 2] h1 rfl rfl rfl ?_
    rintro _ _ ⟨rfl, v3, X3, v4, F4, X4, rfl, h2, h3⟩
    simp only [kH]
    refine ⟨_, _, rfl, ?_⟩
    simp -implicitDefEqProofs only [bV.d, oS.d, J0, J1, J2, J3, J4, J5, J6, J7, ↓reduceIte, reduceCtorEq]
    apply vend_of [0, 1, 2, 3, 4]; rfl; rfl
    exact ⟨rfl, v3, v4, F4, X3, X4, rfl, h2, h3⟩
  have hu := vc_kunder6 (g := 117) (.sl (nums q)) (.sl (y1.map encTym)) (.sl (y2.map encVam)) (.sl (encSt.subs y3)) (.sl (encSt.funs y4)) (.sl (encSt.sigs y5)) Bd q Q Qc hB hdo vb vf F XB XF hF
  simp only [abW, encSt, List.map_cons, List.map_nil, kH, kB] at hu ⊢
  refine VC_of_fn mixed fn43 (by simp) ?_
  show vwp Tryz.prog 3 vc43 _ [(0, .one (.ptr 0 0)), (1, .agg [.d (.sl (nums q)), .d (.sl (y1.map encTym)), .d (.sl (y2.map encVam)), .d (.sl (encSt.subs y3)), .d (.sl (encSt.funs y4)), .d (.sl (encSt.sigs y5))])] [.box [.own 1 vb Bd.length, .own 2 vf F.length], .arr false 1 vb (nums Bd ++ XB), .arr false 1 vf (nums F ++ XF)]
  unfold vc43
  rw [vwpI_eq]
  simp -implicitDefEqProofs only [bV.d, oS.d, J0, J1, J2, J3, J4, J5, J6, J7, ↓reduceIte, reduceCtorEq]
  refine callS [0, 1, 2, 3, 4] hu rfl rfl rfl ?_
  rintro _ _ ⟨rfl, v3, v4, F4, X3, X4, rfl, h2, h3⟩
  refine ⟨_, _, rfl, ?_⟩
  simp -implicitDefEqProofs only [bV.d, oS.d, J0, J1, J2, J3, J4, J5, J6, J7, ↓reduceIte, reduceCtorEq]
  apply vend_of [0, 1, 2]; rfl; rfl
  exact ⟨rfl, v3, X3, v4, F4, X4, rfl, h2, h3⟩

theorem vc_kfun {x y : Stx} {p q Bd : List Int} (Hx : SW x (Bd ++ p)) (Hy : SW y ((Bd ++ p) ++ q)) (hB : Bd.length + p.length + q.length < 1000000000) (vb vf : Nat) (F : List Int) (XB XF : List (List D)) (hF : F.length + stn x + stn y < 1000000000) :
    VC Tryz.prog 131 [.one (.ptr 0 0), .agg (.d (.sl (nums p)) :: (encSt x).map .d ++ .d (.sl (nums q)) :: (encSt y).map .d)] (kH vb vf Bd F XB XF) fun r h' => r = .tup [] ∧ Wk Bd F (fun n => n ∉ p ∧ (fvSt x n ∨ (n ∉ q ∧ fvSt y n))) (stn x + stn y) h' := by
  have Hr := fun vb vf F XB XF hF => vc_kabs Hy (by simp; omega) vb vf F XB XF hF
  unfold SW at Hx
  have hQe : ∃ Q : Int → Prop, Q = fvSt x := ⟨_, rfl⟩
  obtain ⟨R, hR⟩ := hQe
  have hce : ∃ c : Nat, c = stn x := ⟨_, rfl⟩
  obtain ⟨Rc, hRc⟩ := hce
  have hQe : ∃ Q : Int → Prop, Q = fvSt y := ⟨_, rfl⟩
  obtain ⟨Q, hQ⟩ := hQe
  have hce : ∃ c : Nat, c = stn y := ⟨_, rfl⟩
  obtain ⟨Qc, hQc⟩ := hce
  rw [← hR, ← hRc] at Hx
  rw [← hQ, ← hQc] at Hr
  rw [← hQ, ← hQc, ← hR, ← hRc]
  rw [← hQc, ← hRc] at hF
  clear Hy
  obtain ⟨y1, y2, y3, y4, y5⟩ := y
  obtain ⟨x1, x2, x3, x4, x5⟩ := x
  have hdo : ∀ (vb vf : Nat) (F : List Int) (XB XF : List (List D)), F.length + (Rc + Qc) < 1000000000 → VC Tryz.prog 205 [.one (.ptr 3 0), .one (.ptr 4 0)] (kB vb vf (Bd ++ p) F XB XF [.d (.sl (nums p)), .d (.sl (x1.map encTym)), .d (.sl (x2.map encVam)), .d (.sl (encSt.subs x3)), .d (.sl (encSt.funs x4)), .d (.sl (encSt.sigs x5)), .d (.sl (nums q)), .d (.sl (y1.map encTym)), .d (.sl (y2.map encVam)), .d (.sl (encSt.subs y3)), .d (.sl (encSt.funs y4)), .d (.sl (encSt.sigs y5))]) fun r h' => r = .tup [] ∧ ∃ vb vf F' XB XF, h' = kB vb vf (Bd ++ p) F' XB XF [.d (.sl (nums p)), .d (.sl (x1.map encTym)), .d (.sl (x2.map encVam)), .d (.sl (encSt.subs x3)), .d (.sl (encSt.funs x4)), .d (.sl (encSt.sigs x5)), .d (.sl (nums q)), .d (.sl (y1.map encTym)), .d (.sl (y2.map encVam)), .d (.sl (encSt.subs y3)), .d (.sl (encSt.funs y4)), .d (.sl (encSt.sigs y5))] ∧ (∀ n, n ∈ F' ↔ n ∈ F ∨ ((R n ∨ (Q n ∧ n ∉ q)) ∧ n ∉ Bd ++ p)) ∧ F'.length ≤ F.length + (Rc + Qc) := by
    intro vb vf F XB XF hF
    have h1 := Hx vb vf F XB XF (by omega)
    simp only [stW, abW, encSt, List.map_cons, List.map_nil, kH, kB] at h1 Hr ⊢
    refine VC_of_fn mixed fn205 (by simp) ?_
    show vwp Tryz.prog 5 vc205 _ [(0, .one (.ptr 3 0)), (1, .one (.ptr 4 0))] [.box [.own 1 vb (Bd ++ p).length, .own 2 vf F.length], .arr false 1 vb (nums (Bd ++ p) ++ XB), .arr false 1 vf (nums F ++ XF), .box [.ptr 0 0], .box [.d (.sl (nums p)), .d (.sl (x1.map encTym)), .d (.sl (x2.map encVam)), .d (.sl (encSt.subs x3)), .d (.sl (encSt.funs x4)), .d (.sl (encSt.sigs x5)), .d (.sl (nums q)), .d (.sl (y1.map encTym)), .d (.sl (y2.map encVam)), .d (.sl (encSt.subs y3)), .d (.sl (encSt.funs y4)), .d (.sl (encSt.sigs y5))]]
    unfold vc205
    rw [vwpI_eq]
    simp -implicitDefEqProofs only [bV.d, oS.d, J0, J1, J2, J3, J4, J5, J6, J7, ↓reduceIte, reduceCtorEq]
    refine callS [0, 1, 2] h1 rfl rfl rfl ?_
    rintro _ _ ⟨rfl, v3, X3, v4, F4, X4, rfl, h2, h3⟩
    simp only [kH]
    refine ⟨_, _, rfl, ?_⟩
    simp -implicitDefEqProofs only [bV.d, oS.d, J0, J1, J2, J3, J4, J5, J6, J7, ↓reduceIte, reduceCtorEq]
    refine callS [0, 1, 2] (Hr v3 v4 F4 X3 X4 (by omega)) rfl rfl rfl ?_
    rintro _ _ ⟨rfl, v5, X5, v6, F6, X6, rfl, h4, h5⟩
    simp only [kH]
    refine ⟨_, _, rfl, ?_⟩
    simp -implicitDefEqProofs only [bV.d, oS.d, J0, J1, J2, J3, J4, J5, J6, J7, ↓reduceIte, reduceCtorEq]
    apply vend_of [0, 1, 2, 3, 4]; rfl; rfl
    exact ⟨rfl, v5, v6, F6, X5, X6, rfl, Wk.more (P := R) (Q := fun n => Q n ∧ n ∉ q) (R := fun n => R n ∨ (Q n ∧ n ∉ q)) h2 h4 (fun m => Iff.rfl), by omega⟩
  have hu := vc_kunder12 (g := 205) (.sl (nums p)) (.sl (x1.map encTym)) (.sl (x2.map encVam)) (.sl (encSt.subs x3)) (.sl (encSt.funs x4)) (.sl (encSt.sigs x5)) (.sl (nums q)) (.sl (y1.map encTym)) (.sl (y2.map encVam)) (.sl (encSt.subs y3)) (.sl (encSt.funs y4)) (.sl (encSt.sigs y5)) Bd p (fun n => R n ∨ (Q n ∧ n ∉ q)) (Rc + Qc) (by omega) hdo vb vf F XB XF (by omega)
  simp only [encSt, List.map_cons, List.map_nil, List.cons_append, List.nil_append, kH, kB] at hu ⊢
  refine VC_of_fn mixed fn131 (by simp) ?_
  show vwp Tryz.prog 3 vc131 _ [(0, .one (.ptr 0 0)), (1, .agg [.d (.sl (nums p)), .d (.sl (x1.map encTym)), .d (.sl (x2.map encVam)), .d (.sl (encSt.subs x3)), .d (.sl (encSt.funs x4)), .d (.sl (encSt.sigs x5)), .d (.sl (nums q)), .d (.sl (y1.map encTym)), .d (.sl (y2.map encVam)), .d (.sl (encSt.subs y3)), .d (.sl (encSt.funs y4)), .d (.sl (encSt.sigs y5))])] [.box [.own 1 vb Bd.length, .own 2 vf F.length], .arr false 1 vb (nums Bd ++ XB), .arr false 1 vf (nums F ++ XF)]
  unfold vc131
  rw [vwpI_eq]
  simp -implicitDefEqProofs only [bV.d, oS.d, J0, J1, J2, J3, J4, J5, J6, J7, ↓reduceIte, reduceCtorEq]
  refine callS [0, 1, 2, 3, 4] hu rfl rfl rfl ?_
  rintro _ _ ⟨rfl, v3, v4, F4, X3, X4, rfl, h2, h3⟩
  refine ⟨_, _, rfl, ?_⟩
  simp -implicitDefEqProofs only [bV.d, oS.d, J0, J1, J2, J3, J4, J5, J6, J7, ↓reduceIte, reduceCtorEq]
  apply vend_of [0, 1, 2]; rfl; rfl
  refine ⟨rfl, v3, X3, v4, F4, X4, rfl, fun m => ?_, h3⟩
  rw [h2 m]
  constructor
  · rintro (a | ⟨⟨a | ⟨a, b⟩, d⟩, e⟩)
    · exact .inl a
    · exact .inr ⟨⟨d, .inl a⟩, e⟩
    · exact .inr ⟨⟨d, .inr ⟨b, a⟩⟩, e⟩
  · rintro (a | ⟨⟨d, a | ⟨b, a⟩⟩, e⟩)
    · exact .inl a
    · exact .inr ⟨⟨.inl a, d⟩, e⟩
    · exact .inr ⟨⟨.inr ⟨a, b⟩, d⟩, e⟩

end Go.Vt.Tryz
set_option maxRecDepth 100000
set_option linter.unusedSimpArgs false
namespace Go.Vt.Tryz
open Go.Vt renaming vslice → J0
open Nat renaming reduceBEq → J1, reduceEqDiff → J2, reduceLT → J3, reduceLeDiff → J4, reduceAdd → J5, reduceMul → J6, reduceSub → J7
open Go.Proofs Go.Vt.Al

theorem fvS_mem {m : Int} : ∀ {l : List (ByteArray × Stx)}, fvSt.goS l m ↔ ∃ a ∈ l, fvSt a.2 m
  | [] => by simp [fvSt.goS]
  | (s, x) :: r => by simp [fvSt.goS, fvS_mem (l := r)]
theorem fvF_mem {m : Int} : ∀ {l : List (ByteArray × List Int × Stx × List Int × Stx)}, fvSt.goF l m ↔ ∃ a ∈ l, (m ∉ a.2.1 ∧ (fvSt a.2.2.1 m ∨ (m ∉ a.2.2.2.1 ∧ fvSt a.2.2.2.2 m)))
  | [] => by simp [fvSt.goF]
  | (s, p, x, q, y) :: r => by simp [fvSt.goF, fvF_mem (l := r)]
theorem fvG_mem {m : Int} : ∀ {l : List (ByteArray × List Int × Stx)}, fvSt.goG l m ↔ ∃ a ∈ l, (m ∉ a.2.1 ∧ fvSt a.2.2 m)
  | [] => by simp [fvSt.goG]
  | (s, q, y) :: r => by simp [fvSt.goG, fvG_mem (l := r)]

set_option maxHeartbeats 4000000 in
theorem sw_all : ∀ (x : Stx) (Bd : List Int), stn x < 100000000 → Bd.length + stn x < 1000000000 → SW x Bd := by
  intro x
  induction x using Stx.ind with
  | h x1 x2 x3 x4 x5 i3 i4 i5 =>
  intro Bd hs hB vb vf F XB XF hF
  have hsz := subs_small (x := .mk x1 x2 x3 x4 x5) (Nat.le_of_lt hs)
  simp only [Stx.subs, Stx.vals, Stx.types, Stx.funs, Stx.sigs] at hsz
  obtain ⟨z3, z2, z1, z4, z5⟩ := hsz
  simp only [stn, goS_sum, goF_sum, goG_sum] at hs hB hF
  have l3 := encSubs_len x3
  have l4 := encFuns_len x4
  have l5 := encSigs_len x5
  have fv : ∀ m, fvSt (.mk x1 x2 x3 x4 x5) m ↔ ((((∃ a ∈ x1, fvTym a m) ∨ (∃ a ∈ x2, fvTy a.s.t m)) ∨ (∃ a ∈ x3, fvSt a.2 m)) ∨ (∃ a ∈ x4, (m ∉ a.2.1 ∧ (fvSt a.2.2.1 m ∨ (m ∉ a.2.2.2.1 ∧ fvSt a.2.2.2.2 m))))) ∨ (∃ a ∈ x5, (m ∉ a.2.1 ∧ fvSt a.2.2 m)) := fun m => by
    simp only [fvSt, fvS_mem, fvF_mem, fvG_mem, or_assoc]
  have hte : ∃ c : Nat, c = stn (.mk x1 x2 x3 x4 x5) := ⟨_, rfl⟩
  obtain ⟨sc, hsc⟩ := hte
  have hfe : ∃ Q : Int → Prop, Q = fvSt (.mk x1 x2 x3 x4 x5) := ⟨_, rfl⟩
  obtain ⟨SQ, hSQ⟩ := hfe
  rw [← hsc, ← hSQ]
  simp only [← hSQ] at fv
  clear hSQ
  simp only [stn, goS_sum, goF_sum, goG_sum] at hsc
  simp only [stW, encSt, List.map_cons, List.map_nil, kH]
  refine VC_of_fn mixed fn53 (by simp) ?_
  show vwp Tryz.prog 3 vc53 _ [(0, .one (.ptr 0 0)), (1, .agg [.d (.sl (x1.map encTym)), .d (.sl (x2.map encVam)), .d (.sl (encSt.subs x3)), .d (.sl (encSt.funs x4)), .d (.sl (encSt.sigs x5))])] [.box [.own 1 vb Bd.length, .own 2 vf F.length], .arr false 1 vb (nums Bd ++ XB), .arr false 1 vf (nums F ++ XF)]
  unfold vc53
  rw [vwpI_eq]
  simp -implicitDefEqProofs only [bV.d, oS.d, J0, J1, J2, J3, J4, J5, J6, J7, ↓reduceIte, reduceCtorEq, List.length_map, l3, l4, l5]
  refine loopI (α := Nat × (Nat × List (List D)) × Nat × List Int × List (List D)) (fun x => [(17, .one (.d (.int .i64 x.1))), (16, .one (.d (.int .i64 x1.length))), (15, .one (.d (.sl (x1.map encTym)))), (3, .one (.ptr 3 0)), (0, .one (.ptr 0 0))]) (fun x => [.box [.own 1 x.2.1.1 Bd.length, .own 2 x.2.2.1 x.2.2.2.1.length], .arr false 1 x.2.1.1 (nums Bd ++ x.2.1.2), .arr false 1 x.2.2.1 (nums x.2.2.2.1 ++ x.2.2.2.2), .box [.d (.sl (x1.map encTym)), .d (.sl (x2.map encVam)), .d (.sl (encSt.subs x3)), .d (.sl (encSt.funs x4)), .d (.sl (encSt.sigs x5))]])
    (fun x => x.1 ≤ x1.length ∧ (∀ m, m ∈ x.2.2.2.1 ↔ m ∈ F ∨ ((∃ a ∈ x1.take x.1, fvTym a m) ∧ m ∉ Bd)) ∧ x.2.2.2.1.length ≤ F.length + sumN tymn (x1.take x.1)) (fun x => x1.length - x.1) (0, (vb, XB), vf, F, XF)
    (keepI [0, 1, 2, 3] _ (WkH.refl _) rfl rfl rfl ⟨⟨_, WkV.refl _, rfl⟩, ⟨_, WkV.refl _, rfl⟩, ⟨_, WkV.refl _, rfl⟩, ⟨_, WkV.refl _, rfl⟩, ⟨_, WkV.refl _, rfl⟩, trivial⟩) ⟨Nat.zero_le _, fun m => by simp, by simp [sumN]⟩ ?_
  rintro ⟨i, ⟨v0, X0⟩, w0, F0, Y0⟩ ⟨hi, g0, b0⟩
  dsimp only at hi g0 b0 ⊢
  have hw := wrapA1 (a := i) rfl (by omega)
  rcases Nat.lt_or_ge i x1.length with h5 | h5
  · have hlt : ((i : Int) < (x1.length : Int)) = True := by simp; omega
    obtain ⟨u, hu⟩ := rowOf h5
    have hsu := sumN_take (f := tymn) hu
    have hle := sumN_take_le (f := tymn) x1 (i + 1)
    have hQ := fun m => ex_take (p := fun a => fvTym a m) hu
    have hmem := List.mem_of_getElem? hu
    have hmu := sumN_mem (f := tymn) hmem
    have hcu : tymn u = 1 + tyn u.t + sumN ctn u.cts := rfl
    have t1 := fun vb vf F XB XF hF => vc_ktyp vb vf Bd F XB XF u.t (by omega) (by omega) hF
    have t2 := fun vb vf F XB XF hF => vc_kctors vb vf Bd F XB XF u.cts (by omega) (by omega) hF
    have e1 : ∃ P : Int → Prop, P = fvTym u := ⟨_, rfl⟩
    obtain ⟨P, hP⟩ := e1
    have hPu : ∀ m, P m ↔ fvTy u.t m ∨ ∃ c ∈ u.cts, fvTy.go c.args m := fun m => by rw [hP]; rfl
    simp only [← hP] at hQ
    have e2 : ∃ c : Nat, c = tyn u.t := ⟨_, rfl⟩
    obtain ⟨tc, htc⟩ := e2
    have e3 : ∃ P : Int → Prop, P = fvTy u.t := ⟨_, rfl⟩
    obtain ⟨P1, hP1⟩ := e3
    simp only [← htc, ← hP1] at t1
    simp only [← hP1] at hPu
    rw [← htc] at hcu
    have hg : (x1.map encTym)[i]? = some (encTym u) := by rw [List.getElem?_map, hu]; rfl
    simp only [kH] at t1 t2
    rw [hcu] at hsu hmu
    clear hP hcu hu hmem
    obtain ⟨un, ⟨uk, ui, ul⟩, uc⟩ := u
    simp only [tyV, encTy, encTym, List.map_cons, List.map_nil, List.cons_append, List.nil_append] at t1 hg
    dsimp only at t2 hPu hsu hmu
    simp -implicitDefEqProofs only [bV.d, oS.d, J0, J1, J2, J3, J4, J5, J6, J7, ↓reduceIte, reduceCtorEq, hlt, hg, Int.natCast_nonneg, Int.toNat_natCast]
    refine callS [0, 1, 2] (t1 v0 w0 F0 X0 Y0 (by omega)) rfl rfl rfl ?_
    rintro _ _ ⟨rfl, v6, X6, w6, F6, Y6, rfl, g6, b6⟩
    simp only [kH]
    refine ⟨_, _, rfl, ?_⟩
    simp -implicitDefEqProofs only [bV.d, oS.d, J0, J1, J2, J3, J4, J5, J6, J7, ↓reduceIte, reduceCtorEq]
    refine callS [0, 1, 2] (t2 v6 w6 F6 X6 Y6 (by omega)) rfl rfl rfl ?_
    rintro _ _ ⟨rfl, v7, X7, w7, F7, Y7, rfl, g7, b7⟩
    simp only [kH]
    refine ⟨_, _, rfl, ?_⟩
    have gg := Wk.more g6 g7 hPu
    simp -implicitDefEqProofs only [bV.d, oS.d, J0, J1, J2, J3, J4, J5, J6, J7, ↓reduceIte, reduceCtorEq, hw]
    refine ⟨(i + 1, (v7, X7), w7, F7, Y7), ⟨by show i + 1 ≤ x1.length; omega, fun m => ?_, by show F7.length ≤ F.length + sumN tymn (x1.take (i + 1)); omega⟩, by show x1.length - (i + 1) < x1.length - i; omega, ?_⟩
    · exact Wk.more g0 gg hQ m
    · exact (keepI [0, 1, 2, 3] _ (WkH.refl _) rfl rfl rfl ⟨⟨_, WkV.refl _, rfl⟩, ⟨_, WkV.refl _, rfl⟩, ⟨_, WkV.refl _, rfl⟩, ⟨_, WkV.refl _, rfl⟩, ⟨_, WkV.refl _, rfl⟩, trivial⟩)
  have hlt : ((i : Int) < (x1.length : Int)) = False := by simp; omega
  have hie : i = x1.length := by omega
  subst hie
  rw [List.take_length] at g0 b0
  clear hw h5 hi
  simp -implicitDefEqProofs only [bV.d, oS.d, J0, J1, J2, J3, J4, J5, J6, J7, ↓reduceIte, reduceCtorEq, hlt, List.length_map, l3, l4, l5]
  clear hlt
  have G0 := g0
  refine loopI (α := Nat × (Nat × List (List D)) × Nat × List Int × List (List D)) (fun x => [(33, .one (.d (.int .i64 x.1))), (32, .one (.d (.int .i64 x2.length))), (31, .one (.d (.sl (x2.map encVam)))), (3, .one (.ptr 3 0)), (0, .one (.ptr 0 0))]) (fun x => [.box [.own 1 x.2.1.1 Bd.length, .own 2 x.2.2.1 x.2.2.2.1.length], .arr false 1 x.2.1.1 (nums Bd ++ x.2.1.2), .arr false 1 x.2.2.1 (nums x.2.2.2.1 ++ x.2.2.2.2), .box [.d (.sl (x1.map encTym)), .d (.sl (x2.map encVam)), .d (.sl (encSt.subs x3)), .d (.sl (encSt.funs x4)), .d (.sl (encSt.sigs x5))]])
    (fun x => x.1 ≤ x2.length ∧ (∀ m, m ∈ x.2.2.2.1 ↔ m ∈ F0 ∨ ((∃ a ∈ x2.take x.1, fvTy a.s.t m) ∧ m ∉ Bd)) ∧ x.2.2.2.1.length ≤ F0.length + sumN vamn (x2.take x.1)) (fun x => x2.length - x.1) (0, (v0, X0), w0, F0, Y0)
    (keepI [0, 1, 2, 3] _ (WkH.refl _) rfl rfl rfl ⟨⟨_, WkV.refl _, rfl⟩, ⟨_, WkV.refl _, rfl⟩, ⟨_, WkV.refl _, rfl⟩, ⟨_, WkV.refl _, rfl⟩, ⟨_, WkV.refl _, rfl⟩, trivial⟩) ⟨Nat.zero_le _, fun m => by simp, by simp [sumN]⟩ ?_
  rintro ⟨i, ⟨v1, X1⟩, w1, F1, Y1⟩ ⟨hi, g1, b1⟩
  dsimp only at hi g1 b1 ⊢
  have hw := wrapA1 (a := i) rfl (by omega)
  rcases Nat.lt_or_ge i x2.length with h5 | h5
  · have hlt : ((i : Int) < (x2.length : Int)) = True := by simp; omega
    obtain ⟨u, hu⟩ := rowOf h5
    have hsu := sumN_take (f := vamn) hu
    have hle := sumN_take_le (f := vamn) x2 (i + 1)
    have hQ := fun m => ex_take (p := fun a => fvTy a.s.t m) hu
    have hmem := List.mem_of_getElem? hu
    have hmu := sumN_mem (f := vamn) hmem
    have hcu : vamn u = 1 + tyn u.s.t := rfl
    have t1 := vc_ktyp v1 w1 Bd F1 X1 Y1 u.s.t (by omega) (by omega) (by omega)
    have e1 : ∃ P : Int → Prop, P = fvTy u.s.t := ⟨_, rfl⟩
    obtain ⟨P, hP⟩ := e1
    simp only [← hP] at hQ t1
    have e2 : ∃ c : Nat, c = tyn u.s.t := ⟨_, rfl⟩
    obtain ⟨tc, htc⟩ := e2
    simp only [← htc] at t1
    rw [← htc] at hcu
    have hg : (x2.map encVam)[i]? = some (encVam u) := by rw [List.getElem?_map, hu]; rfl
    clear hP hu hmem
    obtain ⟨un, ug, ⟨uk, ui, ul⟩⟩ := u
    simp only [tyV, encTy, encVam, encSc, List.map_cons, List.map_nil, List.cons_append, List.nil_append, kH] at t1 hg
    simp -implicitDefEqProofs only [bV.d, oS.d, J0, J1, J2, J3, J4, J5, J6, J7, ↓reduceIte, reduceCtorEq, hlt, hg, Int.natCast_nonneg, Int.toNat_natCast]
    refine callS [0, 1, 2] t1 rfl rfl rfl ?_
    rintro _ _ ⟨rfl, v6, X6, w6, F6, Y6, rfl, gg, b6⟩
    simp only [kH]
    refine ⟨_, _, rfl, ?_⟩
    simp -implicitDefEqProofs only [bV.d, oS.d, J0, J1, J2, J3, J4, J5, J6, J7, ↓reduceIte, reduceCtorEq, hw]
    refine ⟨(i + 1, (v6, X6), w6, F6, Y6), ⟨by show i + 1 ≤ x2.length; omega, fun m => ?_, by show F6.length ≤ F0.length + sumN vamn (x2.take (i + 1)); omega⟩, by show x2.length - (i + 1) < x2.length - i; omega, ?_⟩
    · exact Wk.more g1 gg hQ m
    · exact (keepI [0, 1, 2, 3] _ (WkH.refl _) rfl rfl rfl ⟨⟨_, WkV.refl _, rfl⟩, ⟨_, WkV.refl _, rfl⟩, ⟨_, WkV.refl _, rfl⟩, ⟨_, WkV.refl _, rfl⟩, ⟨_, WkV.refl _, rfl⟩, trivial⟩)
  have hlt : ((i : Int) < (x2.length : Int)) = False := by simp; omega
  have hie : i = x2.length := by omega
  subst hie
  rw [List.take_length] at g1 b1
  clear hw h5 hi
  simp -implicitDefEqProofs only [bV.d, oS.d, J0, J1, J2, J3, J4, J5, J6, J7, ↓reduceIte, reduceCtorEq, hlt, List.length_map, l3, l4, l5]
  clear hlt
  have G1 := Wk.more G0 g1 (fun m => Iff.rfl)
  refine loopI (α := Nat × (Nat × List (List D)) × Nat × List Int × List (List D)) (fun x => [(46, .one (.d (.int .i64 x.1))), (45, .one (.d (.int .i64 x3.length))), (44, .one (.d (.sl (encSt.subs x3)))), (3, .one (.ptr 3 0)), (0, .one (.ptr 0 0))]) (fun x => [.box [.own 1 x.2.1.1 Bd.length, .own 2 x.2.2.1 x.2.2.2.1.length], .arr false 1 x.2.1.1 (nums Bd ++ x.2.1.2), .arr false 1 x.2.2.1 (nums x.2.2.2.1 ++ x.2.2.2.2), .box [.d (.sl (x1.map encTym)), .d (.sl (x2.map encVam)), .d (.sl (encSt.subs x3)), .d (.sl (encSt.funs x4)), .d (.sl (encSt.sigs x5))]])
    (fun x => x.1 ≤ x3.length ∧ (∀ m, m ∈ x.2.2.2.1 ↔ m ∈ F1 ∨ ((∃ a ∈ x3.take x.1, fvSt a.2 m) ∧ m ∉ Bd)) ∧ x.2.2.2.1.length ≤ F1.length + sumN subz (x3.take x.1)) (fun x => x3.length - x.1) (0, (v1, X1), w1, F1, Y1)
    (keepI [0, 1, 2, 3] _ (WkH.refl _) rfl rfl rfl ⟨⟨_, WkV.refl _, rfl⟩, ⟨_, WkV.refl _, rfl⟩, ⟨_, WkV.refl _, rfl⟩, ⟨_, WkV.refl _, rfl⟩, ⟨_, WkV.refl _, rfl⟩, trivial⟩) ⟨Nat.zero_le _, fun m => by simp, by simp [sumN]⟩ ?_
  rintro ⟨i, ⟨v2, X2⟩, w2, F2, Y2⟩ ⟨hi, g2, b2⟩
  dsimp only at hi g2 b2 ⊢
  have hw := wrapA1 (a := i) rfl (by omega)
  rcases Nat.lt_or_ge i x3.length with h5 | h5
  · have hlt : ((i : Int) < (x3.length : Int)) = True := by simp; omega
    obtain ⟨u, hu⟩ := rowOf h5
    have hsu := sumN_take (f := subz) hu
    have hle := sumN_take_le (f := subz) x3 (i + 1)
    have hQ := fun m => ex_take (p := fun a => fvSt a.2 m) hu
    have hmem := List.mem_of_getElem? hu
    have hmu := sumN_mem (f := subz) hmem
    have hcu : subz u = 1 + stn u.2 := rfl
    have t1 := i3 u hmem Bd (by omega) (by omega) v2 w2 F2 X2 Y2 (by omega)
    have e1 : ∃ P : Int → Prop, P = fvSt u.2 := ⟨_, rfl⟩
    obtain ⟨P, hP⟩ := e1
    simp only [← hP] at hQ t1
    have e2 : ∃ c : Nat, c = stn u.2 := ⟨_, rfl⟩
    obtain ⟨tc, htc⟩ := e2
    simp only [← htc] at t1
    rw [← htc] at hcu
    have hg : (encSt.subs x3)[i]? = some (encSm u) := by rw [encSubs_s, List.getElem?_map, hu]; rfl
    clear hP hu hmem
    obtain ⟨un, ⟨u1, u2, u3, u4, u5⟩⟩ := u
    simp only [stW, encSt, encSm, List.map_cons, List.map_nil, List.cons_append, List.nil_append, kH] at t1 hg
    simp -implicitDefEqProofs only [bV.d, oS.d, J0, J1, J2, J3, J4, J5, J6, J7, ↓reduceIte, reduceCtorEq, hlt, hg, Int.natCast_nonneg, Int.toNat_natCast]
    refine callS [0, 1, 2] t1 rfl rfl rfl ?_
    rintro _ _ ⟨rfl, v6, X6, w6, F6, Y6, rfl, gg, b6⟩
    simp only [kH]
    refine ⟨_, _, rfl, ?_⟩
    simp -implicitDefEqProofs only [bV.d, oS.d, J0, J1, J2, J3, J4, J5, J6, J7, ↓reduceIte, reduceCtorEq, hw]
    refine ⟨(i + 1, (v6, X6), w6, F6, Y6), ⟨by show i + 1 ≤ x3.length; omega, fun m => ?_, by show F6.length ≤ F1.length + sumN subz (x3.take (i + 1)); omega⟩, by show x3.length - (i + 1) < x3.length - i; omega, ?_⟩
    · exact Wk.more g2 gg hQ m
    · exact (keepI [0, 1, 2, 3] _ (WkH.refl _) rfl rfl rfl ⟨⟨_, WkV.refl _, rfl⟩, ⟨_, WkV.refl _, rfl⟩, ⟨_, WkV.refl _, rfl⟩, ⟨_, WkV.refl _, rfl⟩, ⟨_, WkV.refl _, rfl⟩, trivial⟩)
  have hlt : ((i : Int) < (x3.length : Int)) = False := by simp; omega
  have hie : i = x3.length := by omega
  subst hie
  rw [List.take_length] at g2 b2
  clear hw h5 hi
  simp -implicitDefEqProofs only [bV.d, oS.d, J0, J1, J2, J3, J4, J5, J6, J7, ↓reduceIte, reduceCtorEq, hlt, List.length_map, l3, l4, l5]
  clear hlt
  have G2 := Wk.more G1 g2 (fun m => Iff.rfl)
  refine loopI (α := Nat × (Nat × List (List D)) × Nat × List Int × List (List D)) (fun x => [(58, .one (.d (.int .i64 x.1))), (57, .one (.d (.int .i64 x4.length))), (56, .one (.d (.sl (encSt.funs x4)))), (3, .one (.ptr 3 0)), (0, .one (.ptr 0 0))]) (fun x => [.box [.own 1 x.2.1.1 Bd.length, .own 2 x.2.2.1 x.2.2.2.1.length], .arr false 1 x.2.1.1 (nums Bd ++ x.2.1.2), .arr false 1 x.2.2.1 (nums x.2.2.2.1 ++ x.2.2.2.2), .box [.d (.sl (x1.map encTym)), .d (.sl (x2.map encVam)), .d (.sl (encSt.subs x3)), .d (.sl (encSt.funs x4)), .d (.sl (encSt.sigs x5))]])
    (fun x => x.1 ≤ x4.length ∧ (∀ m, m ∈ x.2.2.2.1 ↔ m ∈ F2 ∨ ((∃ a ∈ x4.take x.1, (m ∉ a.2.1 ∧ (fvSt a.2.2.1 m ∨ (m ∉ a.2.2.2.1 ∧ fvSt a.2.2.2.2 m)))) ∧ m ∉ Bd)) ∧ x.2.2.2.1.length ≤ F2.length + sumN funz (x4.take x.1)) (fun x => x4.length - x.1) (0, (v2, X2), w2, F2, Y2)
    (keepI [0, 1, 2, 3] _ (WkH.refl _) rfl rfl rfl ⟨⟨_, WkV.refl _, rfl⟩, ⟨_, WkV.refl _, rfl⟩, ⟨_, WkV.refl _, rfl⟩, ⟨_, WkV.refl _, rfl⟩, ⟨_, WkV.refl _, rfl⟩, trivial⟩) ⟨Nat.zero_le _, fun m => by simp, by simp [sumN]⟩ ?_
  rintro ⟨i, ⟨v3, X3⟩, w3, F3, Y3⟩ ⟨hi, g3, b3⟩
  dsimp only at hi g3 b3 ⊢
  have hw := wrapA1 (a := i) rfl (by omega)
  rcases Nat.lt_or_ge i x4.length with h5 | h5
  · have hlt : ((i : Int) < (x4.length : Int)) = True := by simp; omega
    obtain ⟨u, hu⟩ := rowOf h5
    have hsu := sumN_take (f := funz) hu
    have hle := sumN_take_le (f := funz) x4 (i + 1)
    have hQ := fun m => ex_take (p := fun a => (m ∉ a.2.1 ∧ (fvSt a.2.2.1 m ∨ (m ∉ a.2.2.2.1 ∧ fvSt a.2.2.2.2 m)))) hu
    have hmem := List.mem_of_getElem? hu
    have hmu := sumN_mem (f := funz) hmem
    have hcu := funz_e u
    have s1 := (i4 u hmem).1 (Bd ++ u.2.1) (by omega) (by simp only [List.length_append]; omega)
    have s2 := (i4 u hmem).2 ((Bd ++ u.2.1) ++ u.2.2.2.1) (by omega) (by simp only [List.length_append]; omega)
    have t1 := vc_kfun s1 s2 (by omega) v3 w3 F3 X3 Y3 (by omega)
    clear s1 s2
    have e1 : ∃ P : Int → Prop, P = fun m => (m ∉ u.2.1 ∧ (fvSt u.2.2.1 m ∨ (m ∉ u.2.2.2.1 ∧ fvSt u.2.2.2.2 m))) := ⟨_, rfl⟩
    obtain ⟨P, hP⟩ := e1
    rw [← hP] at t1
    have hQ2 : ∀ m, (∃ a ∈ x4.take (i + 1), (m ∉ a.2.1 ∧ (fvSt a.2.2.1 m ∨ (m ∉ a.2.2.2.1 ∧ fvSt a.2.2.2.2 m)))) ↔ (∃ a ∈ x4.take i, (m ∉ a.2.1 ∧ (fvSt a.2.2.1 m ∨ (m ∉ a.2.2.2.1 ∧ fvSt a.2.2.2.2 m)))) ∨ P m := by rw [hP]; exact hQ
    have e2 : ∃ c : Nat, c = stn u.2.2.1 + stn u.2.2.2.2 := ⟨_, rfl⟩
    obtain ⟨tc, htc⟩ := e2
    simp only [← htc] at t1
    have hcu : tc < funz u := by omega
    have hg : (encSt.funs x4)[i]? = some (encFm u) := by rw [encFuns_m, List.getElem?_map, hu]; rfl
    clear hP hu hmem htc hQ
    obtain ⟨un, up, ⟨u1, u2, u3, u4, u5⟩, uq, ⟨y1, y2, y3, y4, y5⟩⟩ := u
    simp only [encFn, encSt, encFm, List.map_cons, List.map_nil, List.cons_append, List.nil_append, kH] at t1 hg
    simp -implicitDefEqProofs only [bV.d, oS.d, J0, J1, J2, J3, J4, J5, J6, J7, ↓reduceIte, reduceCtorEq, hlt, hg, Int.natCast_nonneg, Int.toNat_natCast]
    refine callS [0, 1, 2] t1 rfl rfl rfl ?_
    rintro _ _ ⟨rfl, v6, X6, w6, F6, Y6, rfl, gg, b6⟩
    simp only [kH]
    refine ⟨_, _, rfl, ?_⟩
    simp -implicitDefEqProofs only [bV.d, oS.d, J0, J1, J2, J3, J4, J5, J6, J7, ↓reduceIte, reduceCtorEq, hw]
    refine ⟨(i + 1, (v6, X6), w6, F6, Y6), ⟨by show i + 1 ≤ x4.length; omega, fun m => ?_, by show F6.length ≤ F2.length + sumN funz (x4.take (i + 1)); omega⟩, by show x4.length - (i + 1) < x4.length - i; omega, ?_⟩
    · exact Wk.more g3 gg hQ2 m
    · exact (keepI [0, 1, 2, 3] _ (WkH.refl _) rfl rfl rfl ⟨⟨_, WkV.refl _, rfl⟩, ⟨_, WkV.refl _, rfl⟩, ⟨_, WkV.refl _, rfl⟩, ⟨_, WkV.refl _, rfl⟩, ⟨_, WkV.refl _, rfl⟩, trivial⟩)
  have hlt : ((i : Int) < (x4.length : Int)) = False := by simp; omega
  have hie : i = x4.length := by omega
  subst hie
  rw [List.take_length] at g3 b3
  clear hw h5 hi
  simp -implicitDefEqProofs only [bV.d, oS.d, J0, J1, J2, J3, J4, J5, J6, J7, ↓reduceIte, reduceCtorEq, hlt, List.length_map, l3, l4, l5]
  clear hlt
  have G3 := Wk.more G2 g3 (fun m => Iff.rfl)
  refine loopI (α := Nat × (Nat × List (List D)) × Nat × List Int × List (List D)) (fun x => [(70, .one (.d (.int .i64 x.1))), (69, .one (.d (.int .i64 x5.length))), (68, .one (.d (.sl (encSt.sigs x5)))), (3, .one (.ptr 3 0)), (0, .one (.ptr 0 0))]) (fun x => [.box [.own 1 x.2.1.1 Bd.length, .own 2 x.2.2.1 x.2.2.2.1.length], .arr false 1 x.2.1.1 (nums Bd ++ x.2.1.2), .arr false 1 x.2.2.1 (nums x.2.2.2.1 ++ x.2.2.2.2), .box [.d (.sl (x1.map encTym)), .d (.sl (x2.map encVam)), .d (.sl (encSt.subs x3)), .d (.sl (encSt.funs x4)), .d (.sl (encSt.sigs x5))]])
    (fun x => x.1 ≤ x5.length ∧ (∀ m, m ∈ x.2.2.2.1 ↔ m ∈ F3 ∨ ((∃ a ∈ x5.take x.1, (m ∉ a.2.1 ∧ fvSt a.2.2 m)) ∧ m ∉ Bd)) ∧ x.2.2.2.1.length ≤ F3.length + sumN sigz (x5.take x.1)) (fun x => x5.length - x.1) (0, (v3, X3), w3, F3, Y3)
    (keepI [0, 1, 2, 3] _ (WkH.refl _) rfl rfl rfl ⟨⟨_, WkV.refl _, rfl⟩, ⟨_, WkV.refl _, rfl⟩, ⟨_, WkV.refl _, rfl⟩, ⟨_, WkV.refl _, rfl⟩, ⟨_, WkV.refl _, rfl⟩, trivial⟩) ⟨Nat.zero_le _, fun m => by simp, by simp [sumN]⟩ ?_
  rintro ⟨i, ⟨v4, X4⟩, w4, F4, Y4⟩ ⟨hi, g4, b4⟩
  dsimp only at hi g4 b4 ⊢
  have hw := wrapA1 (a := i) rfl (by omega)
  rcases Nat.lt_or_ge i x5.length with h5 | h5
  · have hlt : ((i : Int) < (x5.length : Int)) = True := by simp; omega
    obtain ⟨u, hu⟩ := rowOf h5
    have hsu := sumN_take (f := sigz) hu
    have hle := sumN_take_le (f := sigz) x5 (i + 1)
    have hQ := fun m => ex_take (p := fun a => (m ∉ a.2.1 ∧ fvSt a.2.2 m)) hu
    have hmem := List.mem_of_getElem? hu
    have hmu := sumN_mem (f := sigz) hmem
    have hcu := sigz_e u
    have s1 := i5 u hmem (Bd ++ u.2.1) (by omega) (by simp only [List.length_append]; omega)
    have t1 := vc_kabs s1 (by omega) v4 w4 F4 X4 Y4 (by omega)
    clear s1
    have e1 : ∃ P : Int → Prop, P = fun m => (m ∉ u.2.1 ∧ fvSt u.2.2 m) := ⟨_, rfl⟩
    obtain ⟨P, hP⟩ := e1
    have e4 : (fun m => fvSt u.2.2 m ∧ m ∉ u.2.1) = P := by rw [hP]; funext m; exact propext and_comm
    rw [e4] at t1
    have hQ2 : ∀ m, (∃ a ∈ x5.take (i + 1), (m ∉ a.2.1 ∧ fvSt a.2.2 m)) ↔ (∃ a ∈ x5.take i, (m ∉ a.2.1 ∧ fvSt a.2.2 m)) ∨ P m := by rw [hP]; exact hQ
    have e2 : ∃ c : Nat, c = stn u.2.2 := ⟨_, rfl⟩
    obtain ⟨tc, htc⟩ := e2
    simp only [← htc] at t1
    have hcu : tc < sigz u := by omega
    have hg : (encSt.sigs x5)[i]? = some (encSig u) := by rw [encSigs_m, List.getElem?_map, hu]; rfl
    clear hP hu hmem htc hQ e4
    obtain ⟨un, uq, ⟨u1, u2, u3, u4, u5⟩⟩ := u
    simp only [abW, encSt, encSig, List.map_cons, List.map_nil, List.cons_append, List.nil_append, kH] at t1 hg
    simp -implicitDefEqProofs only [bV.d, oS.d, J0, J1, J2, J3, J4, J5, J6, J7, ↓reduceIte, reduceCtorEq, hlt, hg, Int.natCast_nonneg, Int.toNat_natCast]
    refine callS [0, 1, 2] t1 rfl rfl rfl ?_
    rintro _ _ ⟨rfl, v6, X6, w6, F6, Y6, rfl, gg, b6⟩
    simp only [kH]
    refine ⟨_, _, rfl, ?_⟩
    simp -implicitDefEqProofs only [bV.d, oS.d, J0, J1, J2, J3, J4, J5, J6, J7, ↓reduceIte, reduceCtorEq, hw]
    refine ⟨(i + 1, (v6, X6), w6, F6, Y6), ⟨by show i + 1 ≤ x5.length; omega, fun m => ?_, by show F6.length ≤ F3.length + sumN sigz (x5.take (i + 1)); omega⟩, by show x5.length - (i + 1) < x5.length - i; omega, ?_⟩
    · exact Wk.more g4 gg hQ2 m
    · exact (keepI [0, 1, 2, 3] _ (WkH.refl _) rfl rfl rfl ⟨⟨_, WkV.refl _, rfl⟩, ⟨_, WkV.refl _, rfl⟩, ⟨_, WkV.refl _, rfl⟩, ⟨_, WkV.refl _, rfl⟩, ⟨_, WkV.refl _, rfl⟩, trivial⟩)
  have hlt : ((i : Int) < (x5.length : Int)) = False := by simp; omega
  have hie : i = x5.length := by omega
  subst hie
  rw [List.take_length] at g4 b4
  clear hw h5 hi
  simp -implicitDefEqProofs only [bV.d, oS.d, J0, J1, J2, J3, J4, J5, J6, J7, ↓reduceIte, reduceCtorEq, hlt, List.length_map, l3, l4, l5]
  clear hlt
  have G4 := Wk.more G3 g4 (fun m => Iff.rfl)
  apply vend_of [0, 1, 2]; rfl; rfl
  refine ⟨rfl, v4, X4, w4, F4, Y4, rfl, fun m => ?_, by omega⟩
  rw [G4 m, fv m]
  
  
end Go.Vt.Tryz
set_option maxRecDepth 100000
set_option linter.unusedSimpArgs false
namespace Go.Vt.Tryz
open Go.Vt renaming vslice → J0
open Nat renaming reduceBEq → J1, reduceEqDiff → J2, reduceLT → J3, reduceLeDiff → J4, reduceAdd → J5, reduceMul → J6, reduceSub → J7
open Go.Proofs Go.Vt.Al

def rB (vf vt : Nat) (A B : List Int) (XF XT : List (List D)) (X Z : List L) : AHeap := [.box [.own 1 vf A.length, .own 2 vt B.length, .fn 22 [.ptr 3 0]], .arr false 1 vf (nums A ++ XF), .arr false 1 vt (nums B ++ XT), .box [.ptr 0 0], .box [.ptr 0 0], .box X, .box Z]

theorem vc_xback6 (vf vt : Nat) (A B own out : List Int) (XF XT : List (List D)) (hAB : A.length = B.length) (a0 a1 a2 a3 a4 a5 z0 z1 z2 z3 z4 z5 : D) :
    VCD Tryz.prog 132 [.one (.ptr 7 0), .one (.ptr 8 0)] (rB vf vt (A ++ own) (B ++ out) XF XT [.d a0, .d a1, .d a2, .d a3, .d a4, .d a5] [.d z0, .d z1, .d z2, .d z3, .d z4, .d z5] ++ [.box [.ptr 0 0], .box [.d (.int .i64 A.length)]]) fun h' => h' = rB vf vt A B (nums own ++ XF) (nums out ++ XT) [.d a0, .d a1, .d a2, .d a3, .d a4, .d a5] [.d z0, .d z1, .d z2, .d z3, .d z4, .d z5] ++ [.box [.ptr 0 0], .box [.d (.int .i64 A.length)]] := by
  have e1 : nums (A ++ own) ++ XF = nums A ++ (nums own ++ XF) := by simp [nums]
  have e2 : nums (B ++ out) ++ XT = nums B ++ (nums out ++ XT) := by simp [nums]
  simp only [rB, e1, e2]
  refine VCD_of_fn mixed fn132 rfl (by simp) ?_
  show vwp Tryz.prog 9 vc132 _ [(0, .one (.ptr 7 0)), (1, .one (.ptr 8 0))] _
  unfold vc132
  have h1 : A.length ≤ (A ++ own).length := by simp
  have h2 : A.length ≤ (B ++ out).length := by simp; omega
  rw [vwpI_eq]
  simp -implicitDefEqProofs only [bV.d, oS.d, J0, J1, J2, J3, J4, J5, J6, J7, ↓reduceIte, reduceCtorEq, h1, h2, Int.natCast_nonneg, Int.toNat_natCast]
  apply vend_of [0, 1, 2, 3, 4, 5, 6, 7, 8]; rfl; rfl
  rw [hAB]

set_option maxHeartbeats 1000000 in
theorem vc_xunder6 {g : FuncId} (a0 a1 a2 a3 a4 a5 : D) (A B own ins : List Int) (Rz : List Int → D → D → D → D → D → D → Prop) (hAB : A.length = B.length) (hA : A.length + own.length < 1000000000) (ho : own.length < 10000000) (hi : ins.length < 10000000)
    (hdo : ∀ (out : List Int), bindOk A B own out (fun n => n ∈ ins) → ∀ (vf vt : Nat) (XF XT : List (List D)), VC Tryz.prog g [.one (.d (.sl (nums out))), .one (.ptr 4 0), .one (.ptr 5 0), .one (.ptr 6 0)] (rB vf vt (A ++ own) (B ++ out) XF XT [.d a0, .d a1, .d a2, .d a3, .d a4, .d a5] [.nils, .nils, .nils, .nils, .nils, .nils]) fun r h' => r = .tup [] ∧ ∃ vf vt XF XT z0 z1 z2 z3 z4 z5, h' = rB vf vt (A ++ own) (B ++ out) XF XT [.d a0, .d a1, .d a2, .d a3, .d a4, .d a5] [.d z0, .d z1, .d z2, .d z3, .d z4, .d z5] ∧ Rz out z0 z1 z2 z3 z4 z5)
    (vf vt : Nat) (XF XT : List (List D)) :
    VC Tryz.prog 54 [.one (.ptr 0 0), .one (.d (.sl (nums own))), .one (.d (.sl (nums ins))), .one (.fn g [.ptr 4 0, .ptr 5 0, .ptr 6 0])] (rB vf vt A B XF XT [.d a0, .d a1, .d a2, .d a3, .d a4, .d a5] [.nils, .nils, .nils, .nils, .nils, .nils]) fun r h' => r = .tup [] ∧ ∃ out vf vt XF XT z0 z1 z2 z3 z4 z5, h' = rB vf vt A B XF XT [.d a0, .d a1, .d a2, .d a3, .d a4, .d a5] [.d z0, .d z1, .d z2, .d z3, .d z4, .d z5] ∧ bindOk A B own out (fun n => n ∈ ins) ∧ Rz out z0 z1 z2 z3 z4 z5 := by
  have hfr := vc_fresh vf vt A B own ins XF XT (by omega) hAB ho hi
  simp only [rB, rH] at hfr ⊢
  refine VC_of_df mixed dk54 (by simp) ?_
  show vwp Tryz.prog 7 (vseqs dp54 (.ops do54)) _ [(0, .one (.ptr 0 0)), (1, .one (.d (.sl (nums own)))), (2, .one (.d (.sl (nums ins)))), (3, .one (.fn g [.ptr 4 0, .ptr 5 0, .ptr 6 0]))] _
  simp only [dp54, do54, vseqs]
  rw [vwpI_eq]
  simp -implicitDefEqProofs only [bV.d, oS.d, J0, J1, J2, J3, J4, J5, J6, J7, ↓reduceIte, reduceCtorEq]
  refine callS [0, 1, 2, 3] hfr rfl rfl rfl ?_
  rintro _ _ ⟨⟨out, rfl, hbo⟩, rfl⟩
  refine ⟨_, _, rfl, ?_⟩
  have hlo := hbo.1
  have hdo := hdo out hbo (vf + 1) (vt + 1) [] []
  simp only [rB, List.append_nil] at hdo
  have hcap1 : (A.length + own.length) * 8 ≤ maxBytes ∧ A.length + own.length ≤ maxBytes := by simp [maxBytes]; omega
  have hcap2 : (B.length + out.length) * 8 ≤ maxBytes ∧ B.length + out.length ≤ maxBytes := by simp [maxBytes]; omega
  have htk1 := nums_take A XF
  have htk2 := nums_take B XT
  have hal1 : ((nums own).all fun e => e.length == 1) = true := by simp [nums]
  have hal2 : ((nums out).all fun e => e.length == 1) = true := by simp [nums]
  have e1 : nums A ++ nums own = nums (A ++ own) := by simp [nums]
  have e2 : A.length + own.length = (A ++ own).length := by simp
  have e3 : nums B ++ nums out = nums (B ++ out) := by simp [nums]
  have e4 : B.length + out.length = (B ++ out).length := by simp
  simp -implicitDefEqProofs only [bV.d, oS.d, J0, J1, J2, J3, J4, J5, J6, J7, ↓reduceIte, reduceCtorEq, hcap1, hcap2, htk1, htk2, hal1, hal2, nums_length]
  refine ⟨_, _, rfl, ?_⟩
  rw [e1, e2, e3, e4]
  show vwp Tryz.prog 9 dr54 _ _ _
  unfold dr54
  rw [vwpI_eq]
  simp -implicitDefEqProofs only [bV.d, oS.d, J0, J1, J2, J3, J4, J5, J6, J7, ↓reduceIte, reduceCtorEq]
  refine callS [0, 1, 2, 3, 4, 5, 6] hdo rfl rfl rfl ?_
  rintro _ _ ⟨rfl, vf1, vt1, XF1, XT1, z0, z1, z2, z3, z4, z5, rfl, h2⟩
  refine ⟨_, _, rfl, ?_⟩
  simp -implicitDefEqProofs only [bV.d, oS.d, J0, J1, J2, J3, J4, J5, J6, J7, ↓reduceIte, reduceCtorEq]
  refine ⟨_, vc_xback6 vf1 vt1 A B own out XF1 XT1 hAB a0 a1 a2 a3 a4 a5 z0 z1 z2 z3 z4 z5, ?_⟩
  rintro _ rfl
  simp only [rB, List.cons_append, List.nil_append]
  apply vend_of [0, 1, 2, 3, 4, 5, 6]; rfl; rfl
  exact ⟨rfl, out, vf1, vt1, _, _, z0, z1, z2, z3, z4, z5, rfl, hbo, h2⟩

theorem vc_xback12 (vf vt : Nat) (A B own out : List Int) (XF XT : List (List D)) (hAB : A.length = B.length) (a0 a1 a2 a3 a4 a5 a6 a7 a8 a9 a10 a11 z0 z1 z2 z3 z4 z5 z6 z7 z8 z9 z10 z11 : D) :
    VCD Tryz.prog 132 [.one (.ptr 7 0), .one (.ptr 8 0)] (rB vf vt (A ++ own) (B ++ out) XF XT [.d a0, .d a1, .d a2, .d a3, .d a4, .d a5, .d a6, .d a7, .d a8, .d a9, .d a10, .d a11] [.d z0, .d z1, .d z2, .d z3, .d z4, .d z5, .d z6, .d z7, .d z8, .d z9, .d z10, .d z11] ++ [.box [.ptr 0 0], .box [.d (.int .i64 A.length)]]) fun h' => h' = rB vf vt A B (nums own ++ XF) (nums out ++ XT) [.d a0, .d a1, .d a2, .d a3, .d a4, .d a5, .d a6, .d a7, .d a8, .d a9, .d a10, .d a11] [.d z0, .d z1, .d z2, .d z3, .d z4, .d z5, .d z6, .d z7, .d z8, .d z9, .d z10, .d z11] ++ [.box [.ptr 0 0], .box [.d (.int .i64 A.length)]] := by
  have e1 : nums (A ++ own) ++ XF = nums A ++ (nums own ++ XF) := by simp [nums]
  have e2 : nums (B ++ out) ++ XT = nums B ++ (nums out ++ XT) := by simp [nums]
  simp only [rB, e1, e2]
  refine VCD_of_fn mixed fn132 rfl (by simp) ?_
  show vwp Tryz.prog 9 vc132 _ [(0, .one (.ptr 7 0)), (1, .one (.ptr 8 0))] _
  unfold vc132
  have h1 : A.length ≤ (A ++ own).length := by simp
  have h2 : A.length ≤ (B ++ out).length := by simp; omega
  rw [vwpI_eq]
  simp -implicitDefEqProofs only [bV.d, oS.d, J0, J1, J2, J3, J4, J5, J6, J7, ↓reduceIte, reduceCtorEq, h1, h2, Int.natCast_nonneg, Int.toNat_natCast]
  apply vend_of [0, 1, 2, 3, 4, 5, 6, 7, 8]; rfl; rfl
  rw [hAB]

set_option maxHeartbeats 1000000 in
theorem vc_xunder12 {g : FuncId} (a0 a1 a2 a3 a4 a5 a6 a7 a8 a9 a10 a11 : D) (A B own ins : List Int) (Rz : List Int → D → D → D → D → D → D → D → D → D → D → D → D → Prop) (hAB : A.length = B.length) (hA : A.length + own.length < 1000000000) (ho : own.length < 10000000) (hi : ins.length < 10000000)
    (hdo : ∀ (out : List Int), bindOk A B own out (fun n => n ∈ ins) → ∀ (vf vt : Nat) (XF XT : List (List D)), VC Tryz.prog g [.one (.d (.sl (nums out))), .one (.ptr 4 0), .one (.ptr 5 0), .one (.ptr 6 0)] (rB vf vt (A ++ own) (B ++ out) XF XT [.d a0, .d a1, .d a2, .d a3, .d a4, .d a5, .d a6, .d a7, .d a8, .d a9, .d a10, .d a11] [.nils, .nils, .nils, .nils, .nils, .nils, .nils, .nils, .nils, .nils, .nils, .nils]) fun r h' => r = .tup [] ∧ ∃ vf vt XF XT z0 z1 z2 z3 z4 z5 z6 z7 z8 z9 z10 z11, h' = rB vf vt (A ++ own) (B ++ out) XF XT [.d a0, .d a1, .d a2, .d a3, .d a4, .d a5, .d a6, .d a7, .d a8, .d a9, .d a10, .d a11] [.d z0, .d z1, .d z2, .d z3, .d z4, .d z5, .d z6, .d z7, .d z8, .d z9, .d z10, .d z11] ∧ Rz out z0 z1 z2 z3 z4 z5 z6 z7 z8 z9 z10 z11)
    (vf vt : Nat) (XF XT : List (List D)) :
    VC Tryz.prog 54 [.one (.ptr 0 0), .one (.d (.sl (nums own))), .one (.d (.sl (nums ins))), .one (.fn g [.ptr 4 0, .ptr 5 0, .ptr 6 0])] (rB vf vt A B XF XT [.d a0, .d a1, .d a2, .d a3, .d a4, .d a5, .d a6, .d a7, .d a8, .d a9, .d a10, .d a11] [.nils, .nils, .nils, .nils, .nils, .nils, .nils, .nils, .nils, .nils, .nils, .nils]) fun r h' => r = .tup [] ∧ ∃ out vf vt XF XT z0 z1 z2 z3 z4 z5 z6 z7 z8 z9 z10 z11, h' = rB vf vt A B XF XT [.d a0, .d a1, .d a2, .d a3, .d a4, .d a5, .d a6, .d a7, .d a8, .d a9, .d a10, .d a11] [.d z0, .d z1, .d z2, .d z3, .d z4, .d z5, .d z6, .d z7, .d z8, .d z9, .d z10, .d z11] ∧ bindOk A B own out (fun n => n ∈ ins) ∧ Rz out z0 z1 z2 z3 z4 z5 z6 z7 z8 z9 z10 z11 := by
  have hfr := vc_fresh vf vt A B own ins XF XT (by omega) hAB ho hi
  simp only [rB, rH] at hfr ⊢
  refine VC_of_df mixed dk54 (by simp) ?_
  show vwp Tryz.prog 7 (vseqs dp54 (.ops do54)) _ [(0, .one (.ptr 0 0)), (1, .one (.d (.sl (nums own)))), (2, .one (.d (.sl (nums ins)))), (3, .one (.fn g [.ptr 4 0, .ptr 5 0, .ptr 6 0]))] _
  simp only [dp54, do54, vseqs]
  rw [vwpI_eq]
  simp -implicitDefEqProofs only [bV.d, oS.d, J0, J1, J2, J3, J4, J5, J6, J7, ↓reduceIte, reduceCtorEq]
  refine callS [0, 1, 2, 3] hfr rfl rfl rfl ?_
  rintro _ _ ⟨⟨out, rfl, hbo⟩, rfl⟩
  refine ⟨_, _, rfl, ?_⟩
  have hlo := hbo.1
  have hdo := hdo out hbo (vf + 1) (vt + 1) [] []
  simp only [rB, List.append_nil] at hdo
  have hcap1 : (A.length + own.length) * 8 ≤ maxBytes ∧ A.length + own.length ≤ maxBytes := by simp [maxBytes]; omega
  have hcap2 : (B.length + out.length) * 8 ≤ maxBytes ∧ B.length + out.length ≤ maxBytes := by simp [maxBytes]; omega
  have htk1 := nums_take A XF
  have htk2 := nums_take B XT
  have hal1 : ((nums own).all fun e => e.length == 1) = true := by simp [nums]
  have hal2 : ((nums out).all fun e => e.length == 1) = true := by simp [nums]
  have e1 : nums A ++ nums own = nums (A ++ own) := by simp [nums]
  have e2 : A.length + own.length = (A ++ own).length := by simp
  have e3 : nums B ++ nums out = nums (B ++ out) := by simp [nums]
  have e4 : B.length + out.length = (B ++ out).length := by simp
  simp -implicitDefEqProofs only [bV.d, oS.d, J0, J1, J2, J3, J4, J5, J6, J7, ↓reduceIte, reduceCtorEq, hcap1, hcap2, htk1, htk2, hal1, hal2, nums_length]
  refine ⟨_, _, rfl, ?_⟩
  rw [e1, e2, e3, e4]
  show vwp Tryz.prog 9 dr54 _ _ _
  unfold dr54
  rw [vwpI_eq]
  simp -implicitDefEqProofs only [bV.d, oS.d, J0, J1, J2, J3, J4, J5, J6, J7, ↓reduceIte, reduceCtorEq]
  refine callS [0, 1, 2, 3, 4, 5, 6] hdo rfl rfl rfl ?_
  rintro _ _ ⟨rfl, vf1, vt1, XF1, XT1, z0, z1, z2, z3, z4, z5, z6, z7, z8, z9, z10, z11, rfl, h2⟩
  refine ⟨_, _, rfl, ?_⟩
  simp -implicitDefEqProofs only [bV.d, oS.d, J0, J1, J2, J3, J4, J5, J6, J7, ↓reduceIte, reduceCtorEq]
  refine ⟨_, vc_xback12 vf1 vt1 A B own out XF1 XT1 hAB a0 a1 a2 a3 a4 a5 a6 a7 a8 a9 a10 a11 z0 z1 z2 z3 z4 z5 z6 z7 z8 z9 z10 z11, ?_⟩
  rintro _ rfl
  simp only [rB, List.cons_append, List.nil_append]
  apply vend_of [0, 1, 2, 3, 4, 5, 6]; rfl; rfl
  exact ⟨rfl, out, vf1, vt1, _, _, z0, z1, z2, z3, z4, z5, z6, z7, z8, z9, z10, z11, rfl, hbo, h2⟩

set_option maxHeartbeats 1000000 in
theorem vc_xall (vf vt : Nat) (A B : List Int) (XF XT : List (List D)) (hA : A.length < 1000000000) (hAB : A.length = B.length) (l : List Ty) (hl : sumN tyn l < 100000000) :
    VC Tryz.prog 134 [.one (.ptr 0 0), .one (.d (.sl (encTy.encs l)))] (rH vf vt A B XF XT) fun r h' => r = .one (.d (.sl (encTy.encs (renTy.go A B l)))) ∧ h' = rH vf vt A B XF XT := by
  have hty := fun u (hu : tyn u < 100000000) => vc_xtyp vf vt A B XF XT hA hAB (tyn u) u (Nat.le_refl _) hu
  have hlen := sumN_length (f := tyn) (fun t => by cases t; simp [tyn]) l
  simp only [rH, renTys_map] at hty ⊢
  refine VC_of_fn mixed fn134 (by simp) ?_
  show vwp Tryz.prog 4 vc134 _ [(0, .one (.ptr 0 0)), (1, .one (.d (.sl (encTy.encs l))))] [.box [.own 1 vf A.length, .own 2 vt B.length, .fn 22 [.ptr 3 0]], .arr false 1 vf (nums A ++ XF), .arr false 1 vt (nums B ++ XT), .box [.ptr 0 0]]
  unfold vc134
  rw [vwpI_eq]
  simp -implicitDefEqProofs only [bV.d, oS.d, J0, J1, J2, J3, J4, J5, J6, J7, ↓reduceIte, reduceCtorEq, encsTy_length]
  refine loopI (α := Nat) (fun x => [(10, .one (.d (.int .i64 x))), (9, .one (.d (.int .i64 l.length))), (8, .one (.d (.sl (encTy.encs l)))), (5, .one (.own 4 x x)), (0, .one (.ptr 0 0))]) (fun x => [.box [.own 1 vf A.length, .own 2 vt B.length, .fn 22 [.ptr 3 0]], .arr false 1 vf (nums A ++ XF), .arr false 1 vt (nums B ++ XT), .box [.ptr 0 0], .arr false 3 x (encTy.encs ((l.map (renTy A B)).take x))])
    (fun x => x ≤ l.length) (fun x => l.length - x) 0
    (keepG [(5, 3)] [] [0, 1, 2, 3, 4] _ rfl rfl (WkH.refl _) rfl rfl rfl ⟨⟨_, WkV.refl _, rfl⟩, ⟨_, WkV.refl _, rfl⟩, ⟨_, WkV.refl _, rfl⟩, ⟨_, WkV.refl _, rfl⟩, ⟨_, WkV.refl _, rfl⟩, trivial⟩) (Nat.zero_le _) ?_
  intro i hi
  have hw := wrapA1 (a := i) rfl (by omega)
  rcases Nat.lt_or_ge i l.length with h5 | h5
  · have hlt : ((i : Int) < (l.length : Int)) = True := by simp; omega
    obtain ⟨u, hu⟩ := rowOf h5
    have hmu := sumN_mem (f := tyn) (List.mem_of_getElem? hu)
    have iu := hty u (by omega)
    have hg : (encTy.encs l)[i]? = some (encTy u) := by rw [encsTy, List.getElem?_map, hu]; rfl
    have hrow : (encTy.encs ((l.map (renTy A B)).take i)) ++ [encTy (renTy A B u)] = encTy.encs ((l.map (renTy A B)).take (i + 1)) := by
      rw [List.take_add_one, List.getElem?_map, hu, encsTy, encsTy]
      simp
    have htk : (encTy.encs ((l.map (renTy A B)).take i)).take i = encTy.encs ((l.map (renTy A B)).take i) := List.take_of_length_le (by rw [encsTy_length, List.length_take]; omega)
    have hcap : (i + 1) * 40 ≤ maxBytes ∧ i + 1 ≤ maxBytes := by simp [maxBytes]; omega
    generalize (renTy A B) u = R at iu hrow
    obtain ⟨rk, rn, rl⟩ := R
    obtain ⟨uk, un, ul⟩ := u
    simp only [tyV, encTy, List.map_cons, List.map_nil] at iu hrow hg
    simp -implicitDefEqProofs only [bV.d, oS.d, J0, J1, J2, J3, J4, J5, J6, J7, ↓reduceIte, reduceCtorEq, hlt, hg, Int.natCast_nonneg, Int.toNat_natCast]
    refine callS [0, 1, 2, 3] (iu) rfl rfl rfl ?_
    rintro _ _ ⟨rfl, rfl⟩
    refine ⟨_, _, rfl, ?_⟩
    simp -implicitDefEqProofs only [bV.d, oS.d, J0, J1, J2, J3, J4, J5, J6, J7, ↓reduceIte, reduceCtorEq, hcap, htk, hw]
    rw [hrow]
    refine ⟨i + 1, by omega, by omega, ?_⟩
    exact (keepI [0, 1, 2, 3, 4] _ (WkH.refl _) rfl rfl rfl ⟨⟨_, WkV.refl _, rfl⟩, ⟨_, WkV.refl _, rfl⟩, ⟨_, WkV.refl _, rfl⟩, ⟨_, WkV.refl _, rfl⟩, ⟨_, WkV.refl _, rfl⟩, trivial⟩)
  · have hlt : ((i : Int) < (l.length : Int)) = False := by simp; omega
    have hie : i = l.length := by omega
    subst hie
    simp -implicitDefEqProofs only [bV.d, oS.d, J0, J1, J2, J3, J4, J5, J6, J7, ↓reduceIte, reduceCtorEq, hlt]
    apply vend_of [0, 1, 2, 3]
    · rfl
    · simp [fin, nodup, handO, lendR, lendV, lendLs, lendL, idx, vone, renL, lendVs, renO, renL.renLs]; first | exact ⟨rfl, rfl⟩ | exact ⟨rfl, rfl, rfl⟩
    refine ⟨?_, rfl⟩
    rw [List.take_of_length_le (by rw [encsTy_length, List.length_take, List.length_map]; omega), List.take_of_length_le (by rw [List.length_map]; exact Nat.le_refl _)]

def RS (x : Stx) (A B : List Int) : Prop := ∀ (vf vt : Nat) (XF XT : List (List D)), VC Tryz.prog 56 [.one (.ptr 0 0), stW x] (rH vf vt A B XF XT) fun r h' => ∃ x', r = stW x' ∧ renSt A B x x' ∧ ∃ vf vt XF XT, h' = rH vf vt A B XF XT

theorem vc_xabs {y : Stx} {q A B : List Int} (H : ∀ out, out.length = q.length → RS y (A ++ q) (B ++ out)) (hAB : A.length = B.length) (hA : A.length + q.length < 1000000000) (hq : q.length < 10000000) (hy : stn y < 10000000) (vf vt : Nat) (XF XT : List (List D)) :
    VC Tryz.prog 26 [.one (.ptr 0 0), abW q y] (rH vf vt A B XF XT) fun r h' => ∃ q' y', r = abW q' y' ∧ bindOk A B q q' (fvSt y) ∧ renSt (A ++ q) (B ++ q') y y' ∧ ∃ vf vt XF XT, h' = rH vf vt A B XF XT := by
  have hw := sw_all y [] (by omega) (by simp; omega) 0 0 [] [] [] (by simp; omega)
  have hQe : ∃ Q : Int → Prop, Q = fvSt y := ⟨_, rfl⟩
  obtain ⟨Q, hQ⟩ := hQe
  have hce : ∃ c : Nat, c = stn y := ⟨_, rfl⟩
  obtain ⟨Qc, hQc⟩ := hce
  have hRe : ∃ R : List Int → Stx → Prop, R = fun out y' => renSt (A ++ q) (B ++ out) y y' := ⟨_, rfl⟩
  obtain ⟨R, hR⟩ := hRe
  have H1 : ∀ out, out.length = q.length → ∀ (vf vt : Nat) (XF XT : List (List D)), VC Tryz.prog 56 [.one (.ptr 0 0), stW y] (rH vf vt (A ++ q) (B ++ out) XF XT) fun r h' => ∃ x', r = stW x' ∧ R out x' ∧ ∃ vf vt XF XT, h' = rH vf vt (A ++ q) (B ++ out) XF XT := by rw [hR]; exact H
  have hG : ∀ q' y', R q' y' → renSt (A ++ q) (B ++ q') y y' := by rw [hR]; exact fun _ _ h => h
  suffices hs : VC Tryz.prog 26 [.one (.ptr 0 0), abW q y] (rH vf vt A B XF XT) fun r h' => ∃ q' y', r = abW q' y' ∧ bindOk A B q q' Q ∧ R q' y' ∧ ∃ vf vt XF XT, h' = rH vf vt A B XF XT by
    rw [hQ, hR] at hs
    exact hs
  rw [← hQ, ← hQc] at hw
  rw [← hQc] at hy
  clear hG hR hQ hQc H
  obtain ⟨y1, y2, y3, y4, y5⟩ := y
  simp only [stW, abW, encSt, List.map_cons, List.map_nil, kH, rH, nums, List.map_nil, List.length_nil, List.append_nil] at hw
  simp only [stW, encSt, List.map_cons, List.map_nil, rH] at H1
  have hu := fun ins (hi : ins.length < 10000000) => vc_xunder6 (g := 55) (.sl (nums q)) (.sl (y1.map encTym)) (.sl (y2.map encVam)) (.sl (encSt.subs y3)) (.sl (encSt.funs y4)) (.sl (encSt.sigs y5)) A B q ins (fun out z0 z1 z2 z3 z4 z5 => ∃ y', R out y' ∧ D.sl (nums out) = z0 ∧ [z1, z2, z3, z4, z5] = encSt y') hAB hA hq hi (fun out hb vf vt XF XT => by
    have h1 := H1 out hb.1 vf vt XF XT
    simp only [rB]
    refine VC_of_fn mixed fn55 (by simp) ?_
    show vwp Tryz.prog 7 vc55 _ [(0, .one (.d (.sl (nums out)))), (1, .one (.ptr 4 0)), (2, .one (.ptr 5 0)), (3, .one (.ptr 6 0))] [.box [.own 1 vf (A ++ q).length, .own 2 vt (B ++ out).length, .fn 22 [.ptr 3 0]], .arr false 1 vf (nums (A ++ q) ++ XF), .arr false 1 vt (nums (B ++ out) ++ XT), .box [.ptr 0 0], .box [.ptr 0 0], .box [.d (.sl (nums q)), .d (.sl (y1.map encTym)), .d (.sl (y2.map encVam)), .d (.sl (encSt.subs y3)), .d (.sl (encSt.funs y4)), .d (.sl (encSt.sigs y5))], .box [.nils, .nils, .nils, .nils, .nils, .nils]]
    unfold vc55
    rw [vwpI_eq]
    simp -implicitDefEqProofs only [bV.d, oS.d, J0, J1, J2, J3, J4, J5, J6, J7, ↓reduceIte, reduceCtorEq]
    refine callS [0, 1, 2, 3] h1 rfl rfl rfl ?_
    rintro _ _ ⟨⟨m1, m2, m3, m4, m5⟩, rfl, h2, v3, v4, X3, X4, rfl⟩
    refine ⟨_, _, rfl, ?_⟩
    simp only [encSt, List.map_cons, List.map_nil]
    simp -implicitDefEqProofs only [bV.d, oS.d, J0, J1, J2, J3, J4, J5, J6, J7, ↓reduceIte, reduceCtorEq]
    apply vend_of [0, 1, 2, 3, 4, 5, 6]; rfl; rfl
    exact ⟨rfl, v3, v4, X3, X4, _, _, _, _, _, _, rfl, _, h2, rfl, rfl⟩) vf vt XF XT
  simp only [rB] at hu
  simp only [abW, encSt, List.map_cons, List.map_nil, rH]
  refine VC_of_fn mixed fn26 (by simp) ?_
  show vwp Tryz.prog 4 vc26 _ [(0, .one (.ptr 0 0)), (1, .agg [.d (.sl (nums q)), .d (.sl (y1.map encTym)), .d (.sl (y2.map encVam)), .d (.sl (encSt.subs y3)), .d (.sl (encSt.funs y4)), .d (.sl (encSt.sigs y5))])] [.box [.own 1 vf A.length, .own 2 vt B.length, .fn 22 [.ptr 3 0]], .arr false 1 vf (nums A ++ XF), .arr false 1 vt (nums B ++ XT), .box [.ptr 0 0]]
  unfold vc26
  rw [vwpI_eq]
  simp -implicitDefEqProofs only [bV.d, oS.d, J0, J1, J2, J3, J4, J5, J6, J7, ↓reduceIte, reduceCtorEq]
  refine callB [(7, 0, 1), (7, 1, 1)] _ [.box [.own 1 vf A.length, .own 2 vt B.length, .fn 22 [.ptr 3 0]], .arr false 1 vf (nums A ++ XF), .arr false 1 vt (nums B ++ XT), .box [.ptr 0 0], .box [.ptr 0 0], .box [.d (.sl (nums q)), .d (.sl (y1.map encTym)), .d (.sl (y2.map encVam)), .d (.sl (encSt.subs y3)), .d (.sl (encSt.funs y4)), .d (.sl (encSt.sigs y5))], .box [.nils, .nils, .nils, .nils, .nils, .nils], .box [.own 8 0 0, .own 9 0 0], .arr false 1 0 [], .arr false 1 0 []] [7, 8, 9] rfl (WkV.allRefl _) (WkH.refl _) hw rfl rfl rfl ?_
  rintro _ _ ⟨rfl, vb, XB, w1, F1, Y1, rfl, hF1, hl1⟩
  simp only [kH]
  refine ⟨_, _, rfl, ?_⟩
  have htk := nums_take F1 Y1
  have hfe : (fun n => n ∈ F1) = Q := funext fun n => propext (by rw [hF1]; simp)
  have hl2 : F1.length < 10000000 := by simp only [List.length_nil] at hl1; omega
  simp -implicitDefEqProofs only [bV.d, oS.d, J0, J1, J2, J3, J4, J5, J6, J7, ↓reduceIte, reduceCtorEq]
  refine callS [0, 1, 2, 3, 4, 5, 6] (hu F1 hl2) rfl (by simp [lendVs, lendV, lendLs, lendL, idx, renL, renL.renLs, htk]) rfl ?_
  rintro _ _ ⟨rfl, out, v3, v4, X3, X4, z0, z1, z2, z3, z4, z5, rfl, hb, ⟨m1, m2, m3, m4, m5⟩, h2, rfl, hz⟩
  simp only [encSt, List.cons.injEq, and_true] at hz
  obtain ⟨rfl, rfl, rfl, rfl, rfl⟩ := hz
  refine ⟨_, _, rfl, ?_⟩
  simp -implicitDefEqProofs only [bV.d, oS.d, J0, J1, J2, J3, J4, J5, J6, J7, ↓reduceIte, reduceCtorEq]
  apply vend_of [0, 1, 2, 3]
  · simp only [vres, lk_cons, Nat.reduceBEq, cond_true, cond_false, ti22, ti29, ti31, ti79, vload, List.getElem?_cons_succ, List.getElem?_cons_zero, mkV, List.drop_zero, List.length_cons, List.length_nil, Nat.reduceAdd, Nat.le_refl, if_true, List.take_succ_cons, List.take_zero, List.map_cons, List.map_nil, Nat.reduceLeDiff]; rfl
  · first | rfl | (simp [fin, nodup, handO, lendR, lendV, lendLs, lendL, idx, vone, renL, lendVs, renO, renL.renLs]; first | exact ⟨rfl, rfl⟩ | exact ⟨rfl, rfl, rfl⟩)
  exact ⟨out, ⟨m1, m2, m3, m4, m5⟩, rfl, hfe ▸ hb, h2, v3, v4, X3, X4, rfl⟩

theorem vc_xfun {x y : Stx} {p q A B : List Int} (Hx : ∀ out, out.length = p.length → RS x (A ++ p) (B ++ out)) (Hy : ∀ o1 o2, o1.length = p.length → o2.length = q.length → RS y ((A ++ p) ++ q) ((B ++ o1) ++ o2)) (hAB : A.length = B.length) (hA : A.length + p.length + q.length < 1000000000)
    (hp : p.length < 10000000) (hq : q.length < 10000000) (hxy : stn x + stn y < 10000000) (vf vt : Nat) (XF XT : List (List D)) :
    VC Tryz.prog 135 [.one (.ptr 0 0), .agg (.d (.sl (nums p)) :: (encSt x).map .d ++ .d (.sl (nums q)) :: (encSt y).map .d)] (rH vf vt A B XF XT) fun r h' => ∃ p' x' q' y', r = .agg (.d (.sl (nums p')) :: (encSt x').map .d ++ .d (.sl (nums q')) :: (encSt y').map .d) ∧
      bindOk A B p p' (fun n => fvSt x n ∨ (n ∉ q ∧ fvSt y n)) ∧ renSt (A ++ p) (B ++ p') x x' ∧ bindOk (A ++ p) (B ++ p') q q' (fvSt y) ∧ renSt (A ++ p ++ q) (B ++ p' ++ q') y y' ∧ ∃ vf vt XF XT, h' = rH vf vt A B XF XT := by
  have hw := sw_all x [] (by omega) (by simp; omega) 0 0 [] [] [] (by simp; omega)
  have hw2 := fun vb vf F XB XF hF => vc_kabs (sw_all y ([] ++ q) (by omega) (by simp; omega)) (by simp; omega) vb vf F XB XF hF
  have Hr := fun o1 (h1 : o1.length = p.length) => vc_xabs (y := y) (q := q) (A := A ++ p) (B := B ++ o1) (fun o2 h2 => Hy o1 o2 h1 h2) (by simp [hAB, h1]) (by simp; omega) hq (by omega)
  have hQe : ∃ Q : Int → Prop, Q = fvSt y := ⟨_, rfl⟩
  obtain ⟨Q, hQ⟩ := hQe
  have hce : ∃ c : Nat, c = stn y := ⟨_, rfl⟩
  obtain ⟨Qc, hQc⟩ := hce
  have hPe : ∃ P : Int → Prop, P = fvSt x := ⟨_, rfl⟩
  obtain ⟨P, hP⟩ := hPe
  have hde : ∃ c : Nat, c = stn x := ⟨_, rfl⟩
  obtain ⟨Pc, hPc⟩ := hde
  have hRe : ∃ R : List Int → Stx → Prop, R = fun out x' => renSt (A ++ p) (B ++ out) x x' := ⟨_, rfl⟩
  obtain ⟨R, hR⟩ := hRe
  have hSe : ∃ S : List Int → List Int → Stx → Prop, S = fun o1 o2 y' => bindOk (A ++ p) (B ++ o1) q o2 (fvSt y) ∧ renSt (A ++ p ++ q) (B ++ o1 ++ o2) y y' := ⟨_, rfl⟩
  obtain ⟨S, hS⟩ := hSe
  have H1 : ∀ out, out.length = p.length → ∀ (vf vt : Nat) (XF XT : List (List D)), VC Tryz.prog 56 [.one (.ptr 0 0), stW x] (rH vf vt (A ++ p) (B ++ out) XF XT) fun r h' => ∃ x', r = stW x' ∧ R out x' ∧ ∃ vf vt XF XT, h' = rH vf vt (A ++ p) (B ++ out) XF XT := by rw [hR]; exact Hx
  have H2 : ∀ o1, o1.length = p.length → ∀ (vf vt : Nat) (XF XT : List (List D)), VC Tryz.prog 26 [.one (.ptr 0 0), abW q y] (rH vf vt (A ++ p) (B ++ o1) XF XT) fun r h' => ∃ q' y', r = abW q' y' ∧ S o1 q' y' ∧ ∃ vf vt XF XT, h' = rH vf vt (A ++ p) (B ++ o1) XF XT := by
    rw [hS]
    intro o1 h1 vf vt XF XT
    refine (Hr o1 h1 vf vt XF XT).mono ?_
    rintro r h' ⟨q', y', a, b, c, d⟩
    exact ⟨q', y', a, ⟨b, c⟩, d⟩
  suffices hs : VC Tryz.prog 135 [.one (.ptr 0 0), .agg (.d (.sl (nums p)) :: (encSt x).map .d ++ .d (.sl (nums q)) :: (encSt y).map .d)] (rH vf vt A B XF XT) fun r h' => ∃ p' x' q' y', r = .agg (.d (.sl (nums p')) :: (encSt x').map .d ++ .d (.sl (nums q')) :: (encSt y').map .d) ∧
      bindOk A B p p' (fun n => P n ∨ (n ∉ q ∧ Q n)) ∧ R p' x' ∧ S p' q' y' ∧ ∃ vf vt XF XT, h' = rH vf vt A B XF XT by
    rw [hQ, hP, hR, hS] at hs
    refine hs.mono ?_
    rintro r h' ⟨p', x', q', y', a, b, c, ⟨d, e⟩, f⟩
    exact ⟨p', x', q', y', a, b, c, d, e, f⟩
  rw [← hP, ← hPc] at hw
  simp only [← hQ, ← hQc] at hw2
  rw [← hQc, ← hPc] at hxy
  clear hR hS hQ hQc hP hPc Hx Hy Hr
  obtain ⟨x1, x2, x3, x4, x5⟩ := x
  obtain ⟨y1, y2, y3, y4, y5⟩ := y
  simp only [stW, encSt, List.map_cons, List.map_nil, kH, rH, nums, List.map_nil, List.length_nil, List.append_nil] at hw
  simp only [stW, encSt, List.map_cons, List.map_nil, rH] at H1
  simp only [abW, encSt, List.map_cons, List.map_nil, rH] at H2
  simp only [abW, encSt, List.map_cons, List.map_nil, kH, List.length_nil] at hw2
  have hu := fun ins (hi : ins.length < 10000000) => vc_xunder12 (g := 206) (.sl (nums p)) (.sl (x1.map encTym)) (.sl (x2.map encVam)) (.sl (encSt.subs x3)) (.sl (encSt.funs x4)) (.sl (encSt.sigs x5)) (.sl (nums q)) (.sl (y1.map encTym)) (.sl (y2.map encVam)) (.sl (encSt.subs y3)) (.sl (encSt.funs y4)) (.sl (encSt.sigs y5)) A B p ins (fun out z0 z1 z2 z3 z4 z5 z6 z7 z8 z9 z10 z11 => ∃ x' q' y', R out x' ∧ S out q' y' ∧ D.sl (nums out) = z0 ∧ [z1, z2, z3, z4, z5] = encSt x' ∧ z6 = .sl (nums q') ∧ [z7, z8, z9, z10, z11] = encSt y') hAB (by omega) hp hi (fun out hb vf vt XF XT => by
    have h1 := H1 out hb.1 vf vt XF XT
    have h2 := H2 out hb.1
    simp only [rB]
    refine VC_of_fn mixed fn206 (by simp) ?_
    show vwp Tryz.prog 7 vc206 _ [(0, .one (.d (.sl (nums out)))), (1, .one (.ptr 4 0)), (2, .one (.ptr 5 0)), (3, .one (.ptr 6 0))] [.box [.own 1 vf (A ++ p).length, .own 2 vt (B ++ out).length, .fn 22 [.ptr 3 0]], .arr false 1 vf (nums (A ++ p) ++ XF), .arr false 1 vt (nums (B ++ out) ++ XT), .box [.ptr 0 0], .box [.ptr 0 0], .box [.d (.sl (nums p)), .d (.sl (x1.map encTym)), .d (.sl (x2.map encVam)), .d (.sl (encSt.subs x3)), .d (.sl (encSt.funs x4)), .d (.sl (encSt.sigs x5)), .d (.sl (nums q)), .d (.sl (y1.map encTym)), .d (.sl (y2.map encVam)), .d (.sl (encSt.subs y3)), .d (.sl (encSt.funs y4)), .d (.sl (encSt.sigs y5))], .box [.nils, .nils, .nils, .nils, .nils, .nils, .nils, .nils, .nils, .nils, .nils, .nils]]
    unfold vc206
    rw [vwpI_eq]
    simp -implicitDefEqProofs only [bV.d, oS.d, J0, J1, J2, J3, J4, J5, J6, J7, ↓reduceIte, reduceCtorEq]
    refine callS [0, 1, 2, 3] h1 rfl rfl rfl ?_
    rintro _ _ ⟨⟨m1, m2, m3, m4, m5⟩, rfl, k2, v3, v4, X3, X4, rfl⟩
    refine ⟨_, _, rfl, ?_⟩
    simp only [encSt, List.map_cons, List.map_nil]
    simp -implicitDefEqProofs only [bV.d, oS.d, J0, J1, J2, J3, J4, J5, J6, J7, ↓reduceIte, reduceCtorEq]
    refine callS [0, 1, 2, 3] (h2 v3 v4 X3 X4) rfl rfl rfl ?_
    rintro _ _ ⟨qq, ⟨n1, n2, n3, n4, n5⟩, rfl, k3, v5, v6, X5, X6, rfl⟩
    refine ⟨_, _, rfl, ?_⟩
    simp only [encSt, List.map_cons, List.map_nil]
    simp -implicitDefEqProofs only [bV.d, oS.d, J0, J1, J2, J3, J4, J5, J6, J7, ↓reduceIte, reduceCtorEq]
    apply vend_of [0, 1, 2, 3, 4, 5, 6]; rfl; rfl
    exact ⟨rfl, v5, v6, X5, X6, _, _, _, _, _, _, _, _, _, _, _, _, rfl, _, _, _, k2, k3, rfl, rfl, rfl, rfl⟩) vf vt XF XT
  simp only [rB] at hu
  simp only [encSt, List.map_cons, List.map_nil, List.cons_append, List.nil_append, rH]
  refine VC_of_fn mixed fn135 (by simp) ?_
  show vwp Tryz.prog 4 vc135 _ [(0, .one (.ptr 0 0)), (1, .agg [.d (.sl (nums p)), .d (.sl (x1.map encTym)), .d (.sl (x2.map encVam)), .d (.sl (encSt.subs x3)), .d (.sl (encSt.funs x4)), .d (.sl (encSt.sigs x5)), .d (.sl (nums q)), .d (.sl (y1.map encTym)), .d (.sl (y2.map encVam)), .d (.sl (encSt.subs y3)), .d (.sl (encSt.funs y4)), .d (.sl (encSt.sigs y5))])] [.box [.own 1 vf A.length, .own 2 vt B.length, .fn 22 [.ptr 3 0]], .arr false 1 vf (nums A ++ XF), .arr false 1 vt (nums B ++ XT), .box [.ptr 0 0]]
  unfold vc135
  rw [vwpI_eq]
  simp -implicitDefEqProofs only [bV.d, oS.d, J0, J1, J2, J3, J4, J5, J6, J7, ↓reduceIte, reduceCtorEq]
  refine callB [(7, 0, 1), (7, 1, 1)] _ [.box [.own 1 vf A.length, .own 2 vt B.length, .fn 22 [.ptr 3 0]], .arr false 1 vf (nums A ++ XF), .arr false 1 vt (nums B ++ XT), .box [.ptr 0 0], .box [.ptr 0 0], .box [.d (.sl (nums p)), .d (.sl (x1.map encTym)), .d (.sl (x2.map encVam)), .d (.sl (encSt.subs x3)), .d (.sl (encSt.funs x4)), .d (.sl (encSt.sigs x5)), .d (.sl (nums q)), .d (.sl (y1.map encTym)), .d (.sl (y2.map encVam)), .d (.sl (encSt.subs y3)), .d (.sl (encSt.funs y4)), .d (.sl (encSt.sigs y5))], .box [.nils, .nils, .nils, .nils, .nils, .nils, .nils, .nils, .nils, .nils, .nils, .nils], .box [.own 8 0 0, .own 9 0 0], .arr false 1 0 [], .arr false 1 0 []] [7, 8, 9] rfl (WkV.allRefl _) (WkH.refl _) hw rfl rfl rfl ?_
  rintro _ _ ⟨rfl, vb, XB, w1, F1, Y1, rfl, hF1, hl1⟩
  simp only [kH]
  refine ⟨_, _, rfl, ?_⟩
  simp only [List.length_nil] at hl1
  simp -implicitDefEqProofs only [bV.d, oS.d, J0, J1, J2, J3, J4, J5, J6, J7, ↓reduceIte, reduceCtorEq]
  refine callS [7, 8, 9] (hw2 vb w1 F1 XB Y1 (by omega)) rfl rfl rfl ?_
  rintro _ _ ⟨rfl, vb2, XB2, w2, F2, Y2, rfl, hF2, hl2⟩
  simp only [kH]
  refine ⟨_, _, rfl, ?_⟩
  have htk := nums_take F2 Y2
  have hfe : (fun n => n ∈ F2) = fun n => P n ∨ (n ∉ q ∧ Q n) := funext fun n => propext (by rw [hF2, hF1]; simp [and_comm])
  have hl3 : F2.length < 10000000 := by omega
  simp -implicitDefEqProofs only [bV.d, oS.d, J0, J1, J2, J3, J4, J5, J6, J7, ↓reduceIte, reduceCtorEq]
  refine callS [0, 1, 2, 3, 4, 5, 6] (hu F2 hl3) rfl (by simp [lendVs, lendV, lendLs, lendL, idx, renL, renL.renLs, htk]) rfl ?_
  rintro _ _ ⟨rfl, out, v3, v4, X3, X4, z0, z1, z2, z3, z4, z5, z6, z7, z8, z9, z10, z11, rfl, hb, ⟨m1, m2, m3, m4, m5⟩, qq, ⟨n1, n2, n3, n4, n5⟩, k2, k3, rfl, hz, rfl, hz2⟩
  simp only [encSt, List.cons.injEq, and_true] at hz hz2
  obtain ⟨rfl, rfl, rfl, rfl, rfl⟩ := hz
  obtain ⟨rfl, rfl, rfl, rfl, rfl⟩ := hz2
  refine ⟨_, _, rfl, ?_⟩
  simp -implicitDefEqProofs only [bV.d, oS.d, J0, J1, J2, J3, J4, J5, J6, J7, ↓reduceIte, reduceCtorEq]
  apply vend_of [0, 1, 2, 3]
  · simp only [vres, lk_cons, Nat.reduceBEq, cond_true, cond_false, ti136, ti22, ti29, ti31, ti79, vload, List.getElem?_cons_succ, List.getElem?_cons_zero, mkV, List.drop_zero, List.length_cons, List.length_nil, Nat.reduceAdd, Nat.le_refl, if_true, List.take_succ_cons, List.take_zero, List.map_cons, List.map_nil, Nat.reduceLeDiff]; rfl
  · first | rfl | (simp [fin, nodup, handO, lendR, lendV, lendLs, lendL, idx, vone, renL, lendVs, renO, renL.renLs]; first | exact ⟨rfl, rfl⟩ | exact ⟨rfl, rfl, rfl⟩)
  exact ⟨out, ⟨m1, m2, m3, m4, m5⟩, qq, ⟨n1, n2, n3, n4, n5⟩, rfl, hfe ▸ hb, k2, k3, v3, v4, X3, X4, rfl⟩

end Go.Vt.Tryz
set_option maxRecDepth 100000
set_option linter.unusedSimpArgs false
namespace Go.Vt.Tryz
open Go.Proofs Go.Vt.Al

section iter
variable {P : Program} {n : Nat} {Y : Rounds} {T : Sl} {ys : List Tmp} {h : AHeap} {pd : Option VX}

inductive Ye (e : Nat) : Nat → List Tmp → Prop
  | base : Ye e 0 [0]
  | more {b : Nat} {ys : List Tmp} : Ye e b ys → Ye e (b + 1) (e :: ys)

theorem Ye.mem0 {e b : Nat} {ys : List Tmp} (hy : Ye e b ys) : memT 0 ys = true := by
  induction hy with
  | base => rfl
  | @more b ys _ ih => show (Nat.beq 0 e || memT 0 ys) = true; rw [ih, Bool.or_true]

theorem Ye.memN {e b j : Nat} {ys : List Tmp} (hy : Ye e b ys) (h0 : j ≠ 0) (h1 : j ≠ e) : memT j ys = false := by
  induction hy with
  | base => show (Nat.beq j 0 || false) = false; rw [beq_f h0]; rfl
  | @more b ys _ ih => show (Nat.beq j e || memT j ys) = false; rw [beq_f h1, ih]; rfl

theorem Ye.drop {e b d : Nat} {ys : List Tmp} (h0 : d ≠ 0) (h1 : d ≠ e) (hy : Ye e b ys) : Ye e b (dropT (some d) ys) := by
  induction hy with
  | base => show Ye e 0 (if Nat.beq 0 d = true then [] else [0]); rw [beq_f (Ne.symm h0)]; exact .base
  | @more b ys _ ih =>
    show Ye e (b + 1) (if Nat.beq e d = true then dropT (some d) ys else e :: dropT (some d) ys)
    rw [beq_f (Ne.symm h1)]
    exact .more ih

theorem e_st {e b : Nat} {l : List VOp} {d : Tmp} {op : Op} {r : V} {h' : AHeap} {K : KO} (hy : Ye e b ys) (hop : yop (VOp.mk (some d) op none) ys = .no) (h0 : d ≠ 0) (h1 : d ≠ e) (hv : vop P T h (mkO op) = some (r, h')) (hk : ∀ ys, Ye e b ys → vopsY P Y l ((d, r) :: T) ys h' pd K) : vopsY P Y (VOp.mk (some d) op none :: l) T ys h pd K :=
  y_st hop hv (hk _ (hy.drop h0 h1))

theorem e_st0 {l : List VOp} {op : Op} {r : V} {h' : AHeap} {K : KO} (hop : yop (VOp.mk none op none) ys = .no) (hv : vop P T h (mkO op) = some (r, h')) (hk : vopsY P Y l T ys h' pd K) : vopsY P Y (VOp.mk none op none :: l) T ys h pd K :=
  y_st hop hv (by rw [show dropT none ys = ys by cases ys <;> rfl]; exact hk)

theorem eop_mv {e b d i : Nat} (hy : Ye e b ys) (h0 : i ≠ 0) (h1 : i ≠ e) : yop (VOp.mk (some d) (.move (.tmp i)) none) ys = .no := by
  show (if memT i ys = true then YOp.mv d else .no) = _
  rw [hy.memN h0 h1]
  rfl

theorem e_mv {e b : Nat} {l : List VOp} {K : KO} (hy : Ye e b ys) (hk : ∀ ys, Ye e (b + 1) ys → vopsY P Y l ((e, .one .any) :: T) ys h pd K) : vopsY P Y (VOp.mk (some e) (.move (.tmp 0)) none :: l) T ys h pd K := by
  refine y_mv ?_ (hk _ ?_)
  · show (if memT 0 ys = true then YOp.mv e else .no) = _
    rw [hy.mem0]
    rfl
  · exact .more hy

theorem e_yl {e b : Nat} {l : List VOp} {d : Tmp} {args : Array Operand} {ts : Array TypeId} {vs : List V} {K : KO} (hy : Ye e (b + 1) ys) (h0 : d ≠ 0) (h1 : d ≠ e) (ha : opds T args.toList = some vs) (hk : ∀ ys, Ye e (b + 1) ys → Y vs h fun pd' h' => vopsY P Y l ((d, .one (.d (.bool pd'.isNone))) :: T) ys h' pd' K) : vopsY P Y (VOp.mk (some d) (.call (.mk (.value (.tmp e)) args ts)) none :: l) T ys h none K := by
  refine y_yl (args := args.toList) ?_ ha (hk _ (hy.drop h0 h1))
  show (if memT e ys = true then YOp.yl args.toList else .no) = _
  have : memT e ys = true := by
    cases hy with
    | @more b ys _ => show (Nat.beq e e || _) = true; rw [Nat.beq_refl e]; rfl
  rw [this]
  rfl

end iter

theorem it126 : ItOk Tryz.prog 126 20 vc126 := ⟨Tryz.f126, _, Tryz.func126, rfl, rfl, rfl, by kernel_rfl, by kernel_rfl, rfl⟩

theorem members_wp {α : Type} {n N : Nat} {Y : Rounds} {x3 : List (ByteArray × Stx)} (hbig : x3.length < 1000000000) (Hi : α → AHeap) (Inv : Nat → α → Prop) {id : Nat} {la lb lc ld : L} (hid : ∀ s, (Hi s)[id]? = some (.box [la, lb, .d (.sl (encSt.subs x3)), lc, ld]))
    (hn : id < n) (hN : n ≤ N) (hlen : ∀ s, (Hi s).length = N) (hh : ∀ s, handO (Hi s) (idx (List.range N)) (List.range N) = some (Hi s)) {K : VX → Sl → AHeap → Prop} {T0 : Sl}
    (hround : ∀ (i : Nat) (x : ByteArray × Stx) (s : α), x3[i]? = some x → Inv i s → ∀ K' : Option VX → AHeap → Prop, (∀ s' r, Inv (i + 1) s' → K' none (Hi s' ++ r)) → Y [.one (.d (.str x.1)), stW x.2] (Hi s ++ [.box ((encSm x).map .d)]) K')
    (hend : ∀ s, Inv x3.length s → K .normal T0 (Hi s)) (s0 : α) (h0 : Inv 0 s0) :
    vwpY Tryz.prog n Y vc126 (vitend K T0) [(0, .one .any), (1, .one (.ptr id 0))] [0] (Hi s0) none := by
  have hsl := encSubs_len x3
  unfold vc126
  rw [yw_seq, yw_ops]
  refine y_st rfl (r := .one (.ptr id 2)) (h' := Hi s0) (by simp [vop, ti29, opd, vfieldAddr, hid, List.lookup]) ?_
  refine y_st rfl (r := .one (.d (.sl (encSt.subs x3)))) (h' := Hi s0) (by simp [vop, ti25, opd, vload, hid, mkV, List.lookup, tput]) ?_
  refine y_st rfl (r := .one (.d (.int .i64 x3.length))) (h' := Hi s0) (by simp [vop, ti25, opd, vlen, List.lookup, tput, hsl]) ?_
  refine y_st rfl (r := .one (.d (.int .i64 (0 : Nat)))) (h' := Hi s0) rfl ?_
  rw [yops_nil, ythen, yw_block, yw_loop]
  refine ⟨fun m T ys h1 pd => ∃ i s, m = x3.length - i ∧ i ≤ x3.length ∧ T = [(0, .one .any), (1, .one (.ptr id 0)), (6, .one (.d (.sl (encSt.subs x3)))), (7, .one (.d (.int .i64 x3.length))), (8, .one (.d (.int .i64 i)))] ∧ (∃ b, Ye 12 b ys) ∧ h1 = Hi s ∧ pd = none ∧ Inv i s, ⟨x3.length - 0, _, Hi s0, ?_, 0, s0, rfl, Nat.zero_le _, rfl, ⟨0, .base⟩, rfl, rfl, h0⟩, ?_⟩
  · refine keepI (List.range N) (Hi s0) (WkH.refl _) (nodup_range N) (by rw [List.take_range, Nat.min_eq_left hN]) (hh s0) ⟨⟨_, WkV.refl _, rfl⟩, ⟨_, WkV.refl _, ?_⟩, ⟨_, WkV.refl _, rfl⟩, ⟨_, WkV.refl _, rfl⟩, ⟨_, WkV.refl _, rfl⟩, trivial⟩
    simp [lendR, lendV, lendL, renL, idx_range rfl (Nat.lt_of_lt_of_le hn hN)]
  · rintro m T ys h1 pd ⟨i, s, rfl, hi, rfl, ⟨b, hys⟩, rfl, rfl, hI⟩
    rw [yw_seq, yw_ops]
    refine e_st hys rfl (by decide) (by decide) (r := .one (.d (.bool (decide ((i : Int) < (x3.length : Int)))))) (h' := Hi s) (vop_int (a := (i : Int)) (b := (x3.length : Int)) rfl rfl rfl) fun ys hys => ?_
    rw [yops_nil, ythen, yw_seq, yw_cond]
    refine ⟨fun e => ?_, fun e => ?_⟩
    · have e : (i : Int) < (x3.length : Int) := of_decide_eq_true e
      have hil : i < x3.length := by omega
      obtain ⟨x, hx⟩ := rowOf hil
      have hg : (encSt.subs x3)[i]? = some (encSm x) := by rw [encSubs_s, List.getElem?_map, hx]; rfl
      have hlN := hlen s
      have hR := fun K' hK => hround i x s hx hI K' hK
      rw [yw_skip, ythen, yw_seq, yw_block, yw_seq, yw_ops]
      obtain ⟨xn, ⟨u1, u2, u3, u4, u5⟩⟩ := x
      simp only [encSm, encSt, stW, List.map_cons, List.map_nil] at hg hR
      refine e_st hys rfl (by decide) (by decide) (r := .one (.ref [.str xn, .sl (u1.map encTym), .sl (u2.map encVam), .sl (encSt.subs u3), .sl (encSt.funs u4), .sl (encSt.sigs u5)])) (h' := Hi s) (by simp [vop, ti25, opd, vindexAddr, List.lookup, tput, hil, hg]) fun ys hys => ?_
      refine e_st hys rfl (by decide) (by decide) (r := .agg [.d (.str xn), .d (.sl (u1.map encTym)), .d (.sl (u2.map encVam)), .d (.sl (encSt.subs u3)), .d (.sl (encSt.funs u4)), .d (.sl (encSt.sigs u5))]) (h' := Hi s) (by simp [vop, ti154, opd, vload, mkV, List.lookup, tput]) fun ys hys => ?_
      refine e_st hys rfl (by decide) (by decide) (r := .one (.ptr N 0)) (h' := Hi s ++ [.box [.d (.str ⟨#[]⟩), .nils, .nils, .nils, .nils, .nils]]) (by simp [vop, ti154, vcells, bobj, bt154, hlN]) fun ys hys => ?_
      have hgN : ∀ o, (Hi s ++ [o])[N]? = some o := fun o => by rw [← hlN, List.getElem?_append_right (Nat.le_refl _)]; simp
      have hsN : ∀ o o', (Hi s ++ [o]).set N o' = Hi s ++ [o'] := fun o o' => by rw [← hlN, List.set_append_right _ _ (Nat.le_refl _)]; simp
      refine e_st0 rfl (r := .one .any) (h' := Hi s ++ [.box [.d (.str xn), .d (.sl (u1.map encTym)), .d (.sl (u2.map encVam)), .d (.sl (encSt.subs u3)), .d (.sl (encSt.funs u4)), .d (.sl (encSt.sigs u5))]]) (by simp [vop, ti154, opd, vstore, List.lookup, tput, known, hgN, hsN, vcells, splice]) ?_
      rw [yops_nil, ythen, yw_seq, yw_ops]
      refine e_mv hys fun ys hys => ?_
      refine e_st hys rfl (by decide) (by decide) (r := .one (.ptr N 0)) (h' := Hi s ++ [.box [.d (.str xn), .d (.sl (u1.map encTym)), .d (.sl (u2.map encVam)), .d (.sl (encSt.subs u3)), .d (.sl (encSt.funs u4)), .d (.sl (encSt.sigs u5))]]) (by simp [vop, ti154, opd, vfieldAddr, hgN, List.lookup, tput]) fun ys hys => ?_
      refine e_st hys rfl (by decide) (by decide) (r := .one (.d (.str xn))) (h' := Hi s ++ [.box [.d (.str xn), .d (.sl (u1.map encTym)), .d (.sl (u2.map encVam)), .d (.sl (encSt.subs u3)), .d (.sl (encSt.funs u4)), .d (.sl (encSt.sigs u5))]]) (by simp [vop, ti9, opd, vload, hgN, mkV, List.lookup, tput]) fun ys hys => ?_
      refine e_st hys rfl (by decide) (by decide) (r := .one (.ptr N 1)) (h' := Hi s ++ [.box [.d (.str xn), .d (.sl (u1.map encTym)), .d (.sl (u2.map encVam)), .d (.sl (encSt.subs u3)), .d (.sl (encSt.funs u4)), .d (.sl (encSt.sigs u5))]]) (by simp [vop, ti154, opd, vfieldAddr, hgN, List.lookup, tput]) fun ys hys => ?_
      refine e_st hys rfl (by decide) (by decide) (r := .agg [.d (.sl (u1.map encTym)), .d (.sl (u2.map encVam)), .d (.sl (encSt.subs u3)), .d (.sl (encSt.funs u4)), .d (.sl (encSt.sigs u5))]) (h' := Hi s ++ [.box [.d (.str xn), .d (.sl (u1.map encTym)), .d (.sl (u2.map encVam)), .d (.sl (encSt.subs u3)), .d (.sl (encSt.funs u4)), .d (.sl (encSt.sigs u5))]]) (by simp [vop, ti29, opd, vload, hgN, mkV, List.lookup, tput]) fun ys hys => ?_
      refine e_yl hys (by decide) (by decide) (vs := [.one (.d (.str xn)), .agg [.d (.sl (u1.map encTym)), .d (.sl (u2.map encVam)), .d (.sl (encSt.subs u3)), .d (.sl (encSt.funs u4)), .d (.sl (encSt.sigs u5))]]) rfl (fun ys hys => hR _ fun s' r hI' => ?_)
      refine e_st hys rfl (by decide) (by decide) (r := .one (.d (.bool false))) (h' := Hi s' ++ r) rfl fun ys hys => ?_
      rw [yops_nil, ythen, yw_cond]
      refine ⟨fun e => (by cases e), fun _ => ?_⟩
      rw [yw_skip, yblock, ythen, yw_ops]
      refine e_st hys rfl (by decide) (by decide) (r := .one (.d (.int .i64 ((i + 1 : Nat) : Int)))) (h' := Hi s' ++ r) (vop_int (a := (i : Int)) (b := 1) rfl rfl ?_) fun ys hys => ?_
      · simp only [vbin2, vbin, vint]
        rw [wrap_p (by omega) (by omega)]
        simp
      refine e_st hys (eop_mv hys (by decide) (by decide)) (by decide) (by decide) (r := .one (.d (.int .i64 ((i + 1 : Nat) : Int)))) (h' := Hi s' ++ r) rfl fun ys hys => ?_
      rw [yops_nil, ythen]
      refine ⟨x3.length - (i + 1), _, Hi s', by omega, ?_, i + 1, s', rfl, by omega, rfl, ⟨_, hys⟩, rfl, rfl, hI'⟩
      refine keepI (List.range N) (Hi s' ++ r) (WkH.refl _) (nodup_range N) (by rw [List.take_range, Nat.min_eq_left hN]) (handO_app (hh s')) ⟨⟨_, WkV.refl _, rfl⟩, ⟨_, WkV.refl _, ?_⟩, ⟨_, WkV.refl _, rfl⟩, ⟨_, WkV.refl _, rfl⟩, ⟨_, WkV.refl _, rfl⟩, trivial⟩
      simp [lendR, lendV, lendL, renL, idx_range rfl (Nat.lt_of_lt_of_le hn hN)]
    · have e : ¬ (i : Int) < (x3.length : Int) := of_decide_eq_false e
      have : i = x3.length := by omega
      subst this
      exact hend s hI

end Go.Vt.Tryz
