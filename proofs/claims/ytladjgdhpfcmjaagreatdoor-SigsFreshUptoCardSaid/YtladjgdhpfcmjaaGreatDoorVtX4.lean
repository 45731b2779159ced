/- The program's renamer: what a binder's stamps become. -/
import Derived.Test.YtladjgdhpfcmjaaGreatDoorVtX1
set_option maxRecDepth 100000
set_option linter.unusedSimpArgs false
namespace Go.Vt.Tryz
open Go.Vt renaming vslice → J0
open Nat renaming reduceBEq → J1, reduceEqDiff → J2, reduceLT → J3, reduceLeDiff → J4, reduceAdd → J5, reduceMul → J6, reduceSub → J7
open Go.Proofs Go.Vt.Al

def Fsh (c own ins o : List Int) : Prop := ∀ (i : Nat) (x u : Int), own[i]? = some x → o[i]? = some u → (x ∉ c → u = x) ∧ (x ∈ c → u ∉ c ∧ u ∉ own ∧ u ∉ o.take i ∧ u ∉ ins)

theorem fsh_ok {A B c own ins o : List Int} (hc : ∀ n, n ∈ c ↔ ∃ m ∈ ins, m ∉ own ∧ im A B m = n) (hl : o.length = own.length) (h : Fsh c own ins o) : bindOk A B own o (fun n => n ∈ ins) := by
  refine ⟨hl, fun n hn hno hm => ?_, fun i j x y u v hij hx hy hxy hu hv huv => ?_⟩
  · have hcn : im A B n ∈ c := (hc _).2 ⟨n, hn, hno, rfl⟩
    obtain ⟨i, hi⟩ := List.getElem?_of_mem hm
    have hil := (List.getElem?_eq_some_iff.1 hi).1
    obtain ⟨x, hx⟩ := rowOf (l := own) (i := i) (by omega)
    have := h i x _ hx hi
    by_cases hxc : x ∈ c
    · exact (this.2 hxc).1 hcn
    · exact hxc (this.1 hxc ▸ hcn)
  · have hi := h i x u hx hu
    have hj := h j y v hy hv
    by_cases hyc : y ∈ c
    · refine (hj.2 hyc).2.2.1 ?_
      rw [← huv]
      have : (o.take j)[i]? = some u := by rw [List.getElem?_take_of_lt hij]; exact hu
      exact List.mem_of_getElem? this
    · have hvy := hj.1 hyc
      by_cases hxc : x ∈ c
      · exact (hi.2 hxc).2.1 (by rw [huv, hvy]; exact List.mem_of_getElem? hy)
      · exact hxy (by rw [← hi.1 hxc, huv, hvy])

theorem fsh_app {c own ins o : List Int} {k m : Int} (h : Fsh c own ins o) (hk : own[o.length]? = some k) (hm : (k ∉ c ∧ m = k) ∨ (k ∈ c ∧ m ∉ c ∧ m ∉ own ∧ m ∉ o ∧ m ∉ ins)) : Fsh c own ins (o ++ [m]) := by
  intro i x u hx hu
  rcases Nat.lt_trichotomy i o.length with hi | hi | hi
  · rw [List.getElem?_append_left hi] at hu
    have := h i x u hx hu
    rw [List.take_append_of_le_length (by omega)]
    exact this
  · subst hi
    rw [hk] at hx
    cases hx
    rw [List.getElem?_append_right (Nat.le_refl _), Nat.sub_self] at hu
    have hmu : m = u := by simpa using hu
    subst hmu
    rw [List.take_append_of_le_length (Nat.le_refl _), List.take_length]
    rcases hm with ⟨h1, h2⟩ | ⟨h1, h2, h3, h4, h5⟩
    · exact ⟨fun _ => h2, fun hc => absurd hc h1⟩
    · exact ⟨fun hc => absurd h1 hc, fun _ => ⟨h2, h3, h4, h5⟩⟩
  · rw [List.getElem?_eq_none (by simp; omega)] at hu
    cases hu

set_option maxHeartbeats 2000000 in
theorem vc_fresh (vf vt : Nat) (A B own ins : List Int) (XF XT : List (List D)) (hA : A.length < 1000000000) (hAB : A.length = B.length) (ho : own.length < 10000000) (hi : ins.length < 10000000) :
    VC Tryz.prog 22 [.one (.d (.sl (nums own))), .one (.d (.sl (nums ins))), .one (.ptr 3 0)] (rH vf vt A B XF XT) fun r h' => (∃ out, r = .one (.d (.sl (nums out))) ∧ bindOk A B own out (fun n => n ∈ ins)) ∧ h' = rH vf vt A B XF XT := by
  have hst := fun n => vc_xstamp vf vt A B XF XT hA hAB n
  simp only [rH] at hst ⊢
  refine VC_of_fn mixed fn22 (by simp) ?_
  show vwp Tryz.prog 4 vc22 _ [(0, .one (.d (.sl (nums own)))), (1, .one (.d (.sl (nums ins)))), (2, .one (.ptr 3 0))] [.box [.own 1 vf A.length, .own 2 vt B.length, .fn 22 [.ptr 3 0]], .arr false 1 vf (nums A ++ XF), .arr false 1 vt (nums B ++ XT), .box [.ptr 0 0]]
  unfold vc22
  rw [vwpI_eq]
  simp -implicitDefEqProofs only [bV.d, oS.d, J0, J1, J2, J3, J4, J5, J6, J7, ↓reduceIte, reduceCtorEq, nums_length]
  refine loopI (α := Nat × List Int) (fun x => [(14, .one (.d (.int .i64 x.1))), (13, .one (.d (.int .i64 ins.length))), (12, .one (.d (.sl (nums ins)))), (6, .one (.own 4 x.2.length x.2.length)), (0, .one (.d (.sl (nums own)))), (1, .one (.d (.sl (nums ins)))), (2, .one (.ptr 3 0))]) (fun x => [.box [.own 1 vf A.length, .own 2 vt B.length, .fn 22 [.ptr 3 0]], .arr false 1 vf (nums A ++ XF), .arr false 1 vt (nums B ++ XT), .box [.ptr 0 0], .arr false 1 x.2.length (nums x.2)])
    (fun x => x.1 ≤ ins.length ∧ x.2.length ≤ x.1 ∧ ∀ n, n ∈ x.2 ↔ ∃ m ∈ ins.take x.1, m ∉ own ∧ im A B m = n) (fun x => ins.length - x.1) (0, [])
    (keepG [(6, 1)] [] [0, 1, 2, 3, 4] _ rfl rfl (WkH.refl _) rfl rfl rfl ⟨⟨_, WkV.refl _, rfl⟩, ⟨_, WkV.refl _, rfl⟩, ⟨_, WkV.refl _, rfl⟩, ⟨_, WkV.refl _, rfl⟩, ⟨_, WkV.refl _, rfl⟩, ⟨_, WkV.refl _, rfl⟩, ⟨_, WkV.refl _, rfl⟩, trivial⟩) ⟨Nat.zero_le _, Nat.le_refl _, by simp⟩ ?_
  rintro ⟨i, c⟩ ⟨h1, h2, h3⟩
  dsimp only at h1 h2 h3 ⊢
  have hw := wrapA1 (a := i) rfl (by omega)
  have htk : (nums c).take c.length = nums c := List.take_of_length_le (by rw [nums_length]; exact Nat.le_refl _)
  rcases Nat.lt_or_ge i ins.length with h5 | h5
  · have hc : ((i : Int) < (ins.length : Int)) = True := by simp; omega
    obtain ⟨k, hk⟩ := rowOf h5
    have hg := nums_get hk
    have hco := vc_contains own k (by omega)
    simp -implicitDefEqProofs only [bV.d, oS.d, J0, J1, J2, J3, J4, J5, J6, J7, ↓reduceIte, reduceCtorEq, hc, hg, Int.natCast_nonneg, Int.toNat_natCast]
    refine callS [] (hco) rfl rfl rfl ?_
    rintro _ _ ⟨rfl, rfl⟩
    refine ⟨_, _, rfl, ?_⟩
    by_cases hm : k ∈ own
    · simp -implicitDefEqProofs only [bV.d, oS.d, J0, J1, J2, J3, J4, J5, J6, J7, ↓reduceIte, reduceCtorEq, hm, hw]
      refine ⟨(i + 1, c), ⟨by show i + 1 ≤ ins.length; omega, by show c.length ≤ i + 1; omega, fun n => ?_⟩, by show ins.length - (i + 1) < ins.length - i; omega, ?_⟩
      · show n ∈ c ↔ ∃ m ∈ ins.take (i + 1), _
        rw [h3 n, List.take_add_one, hk]
        simp only [Option.toList_some, List.mem_append, List.mem_singleton]
        constructor
        · rintro ⟨m, a1, a2, a3⟩; exact ⟨m, .inl a1, a2, a3⟩
        · rintro ⟨m, a1 | a1, a2, a3⟩
          · exact ⟨m, a1, a2, a3⟩
          · exact absurd (a1 ▸ hm) a2
      · exact (keepI [0, 1, 2, 3, 4] _ (WkH.refl _) rfl rfl rfl ⟨⟨_, WkV.refl _, rfl⟩, ⟨_, WkV.refl _, rfl⟩, ⟨_, WkV.refl _, rfl⟩, ⟨_, WkV.refl _, rfl⟩, ⟨_, WkV.refl _, rfl⟩, ⟨_, WkV.refl _, rfl⟩, ⟨_, WkV.refl _, rfl⟩, trivial⟩)
    · have hcap : (c.length + 1) * 8 ≤ maxBytes ∧ c.length + 1 ≤ maxBytes := by simp [maxBytes]; omega
      have e2 : nums c ++ [[.int .i64 (im A B k)]] = nums (c ++ [im A B k]) := by simp [nums]
      have e3 : c.length + 1 = (c ++ [im A B k]).length := by simp
      simp -implicitDefEqProofs only [bV.d, oS.d, J0, J1, J2, J3, J4, J5, J6, J7, ↓reduceIte, reduceCtorEq, hm]
      refine callS [0, 1, 2, 3] (hst k) rfl rfl rfl ?_
      rintro _ _ ⟨rfl, rfl⟩
      refine ⟨_, _, rfl, ?_⟩
      simp -implicitDefEqProofs only [bV.d, oS.d, J0, J1, J2, J3, J4, J5, J6, J7, ↓reduceIte, reduceCtorEq, hcap, htk, hw]
      rw [e2, e3]
      refine ⟨(i + 1, c ++ [im A B k]), ⟨by show i + 1 ≤ ins.length; omega, by show (c ++ [im A B k]).length ≤ i + 1; simp; omega, fun n => ?_⟩, by show ins.length - (i + 1) < ins.length - i; omega, ?_⟩
      · show n ∈ c ++ [im A B k] ↔ ∃ m ∈ ins.take (i + 1), _
        rw [List.mem_append, h3 n, List.take_add_one, hk]
        simp only [Option.toList_some, List.mem_append, List.mem_singleton]
        constructor
        · rintro (⟨m, a1, a2, a3⟩ | e)
          · exact ⟨m, .inl a1, a2, a3⟩
          · exact ⟨k, .inr rfl, hm, e.symm⟩
        · rintro ⟨m, a1 | a1, a2, a3⟩
          · exact .inl ⟨m, a1, a2, a3⟩
          · subst a1; exact .inr a3.symm
      · exact (keepI [0, 1, 2, 3, 4] _ (WkH.refl _) rfl rfl rfl ⟨⟨_, WkV.refl _, rfl⟩, ⟨_, WkV.refl _, rfl⟩, ⟨_, WkV.refl _, rfl⟩, ⟨_, WkV.refl _, rfl⟩, ⟨_, WkV.refl _, rfl⟩, ⟨_, WkV.refl _, rfl⟩, ⟨_, WkV.refl _, rfl⟩, trivial⟩)
  · have hc : ((i : Int) < (ins.length : Int)) = False := by simp; omega
    have hie : i = ins.length := by omega
    subst hie
    rw [List.take_length] at h3
    simp -implicitDefEqProofs only [bV.d, oS.d, J0, J1, J2, J3, J4, J5, J6, J7, ↓reduceIte, reduceCtorEq, hc, nums_length]
    refine loopI (α := Nat × List Int) (fun x => [(31, .one (.d (.int .i64 x.1))), (30, .one (.d (.int .i64 own.length))), (29, .one (.d (.sl (nums own)))), (9, .one (.own 4 x.2.length x.2.length)), (6, .one (.d (.sl (nums c)))), (0, .one (.d (.sl (nums own)))), (1, .one (.d (.sl (nums ins))))]) (fun x => [.box [.own 1 vf A.length, .own 2 vt B.length, .fn 22 [.ptr 3 0]], .arr false 1 vf (nums A ++ XF), .arr false 1 vt (nums B ++ XT), .box [.ptr 0 0], .arr false 1 x.2.length (nums x.2)])
      (fun x => x.1 ≤ own.length ∧ x.2.length = x.1 ∧ Fsh c own ins x.2) (fun x => own.length - x.1) (0, [])
      (keepG [(9, 1)] [] [0, 1, 2, 3, 5] _ rfl rfl (WkH.refl _) rfl rfl rfl ⟨⟨_, WkV.refl _, rfl⟩, ⟨_, WkV.refl _, rfl⟩, ⟨_, WkV.refl _, rfl⟩, ⟨_, WkV.refl _, rfl⟩, ⟨_, WkV.refl _, by simp [lendR, lendV, lendL, idx, htk]⟩, ⟨_, WkV.refl _, rfl⟩, ⟨_, WkV.refl _, rfl⟩, trivial⟩) ⟨Nat.zero_le _, rfl, fun i x u _ hu => by cases hu⟩ ?_
    rintro ⟨j, o⟩ ⟨g1, g2, g3⟩
    dsimp only at g1 g2 g3 ⊢
    have hw := wrapA1 (a := j) rfl (by omega)
    have hto : (nums o).take o.length = nums o := List.take_of_length_le (by rw [nums_length]; exact Nat.le_refl _)
    rcases Nat.lt_or_ge j own.length with h6 | h6
    · have hcj : ((j : Int) < (own.length : Int)) = True := by simp; omega
      obtain ⟨k, hk⟩ := rowOf h6
      have hg := nums_get hk
      have hco := vc_contains c k (by omega)
      have hcap : (o.length + 1) * 8 ≤ maxBytes ∧ o.length + 1 ≤ maxBytes := by simp [maxBytes]; omega
      simp -implicitDefEqProofs only [bV.d, oS.d, J0, J1, J2, J3, J4, J5, J6, J7, ↓reduceIte, reduceCtorEq, hcj, hg, Int.natCast_nonneg, Int.toNat_natCast]
      refine callS [] (hco) rfl rfl rfl ?_
      rintro _ _ ⟨rfl, rfl⟩
      refine ⟨_, _, rfl, ?_⟩
      by_cases hm : k ∈ c
      · have hun := vc_unused c own o ins o.length [] (by omega) (by omega) (by omega) (by omega)
        simp only [List.append_nil] at hun
        have nb : Nat.beq 1 1 = true := rfl
        simp -implicitDefEqProofs only [bV.d, oS.d, J0, J1, J2, J3, J4, J5, J6, J7, ↓reduceIte, reduceCtorEq, hm, nb, vones]
        refine callS [5, 4] (hun) rfl rfl rfl ?_
        rintro _ _ ⟨⟨m, rfl, m1, m2, m3, m4⟩, rfl⟩
        refine ⟨_, _, rfl, ?_⟩
        have e2 : nums o ++ [[.int .i64 m]] = nums (o ++ [m]) := by simp [nums]
        have e3 : o.length + 1 = (o ++ [m]).length := by simp
        simp -implicitDefEqProofs only [bV.d, oS.d, J0, J1, J2, J3, J4, J5, J6, J7, ↓reduceIte, reduceCtorEq, hcap, hto, hw]
        rw [e2, e3]
        refine ⟨(j + 1, o ++ [m]), ⟨by show j + 1 ≤ own.length; omega, by show (o ++ [m]).length = j + 1; simp; omega, fsh_app g3 (by rw [g2]; exact hk) (.inr ⟨hm, m1, m2, m3, m4⟩)⟩, by show own.length - (j + 1) < own.length - j; omega, ?_⟩
        exact (keepI [0, 1, 2, 3, 4] _ (WkH.refl _) rfl rfl rfl ⟨⟨_, WkV.refl _, rfl⟩, ⟨_, WkV.refl _, rfl⟩, ⟨_, WkV.refl _, rfl⟩, ⟨_, WkV.refl _, rfl⟩, ⟨_, WkV.refl _, rfl⟩, ⟨_, WkV.refl _, rfl⟩, ⟨_, WkV.refl _, rfl⟩, trivial⟩)
      · have e2 : nums o ++ [[.int .i64 k]] = nums (o ++ [k]) := by simp [nums]
        have e3 : o.length + 1 = (o ++ [k]).length := by simp
        simp -implicitDefEqProofs only [bV.d, oS.d, J0, J1, J2, J3, J4, J5, J6, J7, ↓reduceIte, reduceCtorEq, hm, hcap, hto, hw]
        rw [e2, e3]
        refine ⟨(j + 1, o ++ [k]), ⟨by show j + 1 ≤ own.length; omega, by show (o ++ [k]).length = j + 1; simp; omega, fsh_app g3 (by rw [g2]; exact hk) (.inl ⟨hm, rfl⟩)⟩, by show own.length - (j + 1) < own.length - j; omega, ?_⟩
        exact (keepI [0, 1, 2, 3, 4] _ (WkH.refl _) rfl rfl rfl ⟨⟨_, WkV.refl _, rfl⟩, ⟨_, WkV.refl _, rfl⟩, ⟨_, WkV.refl _, rfl⟩, ⟨_, WkV.refl _, rfl⟩, ⟨_, WkV.refl _, rfl⟩, ⟨_, WkV.refl _, rfl⟩, ⟨_, WkV.refl _, rfl⟩, trivial⟩)
    · have hcj : ((j : Int) < (own.length : Int)) = False := by simp; omega
      simp -implicitDefEqProofs only [bV.d, oS.d, J0, J1, J2, J3, J4, J5, J6, J7, ↓reduceIte, reduceCtorEq, hcj]
      apply vend_of [0, 1, 2, 3]
      · rfl
      · simp [fin, nodup, handO, lendR, lendV, lendLs, lendL, idx, vone, renL, lendVs, renO, renL.renLs]; first | exact ⟨rfl, rfl⟩ | exact ⟨rfl, rfl, rfl⟩
      refine ⟨⟨o, by rw [hto], fsh_ok h3 (by omega) g3⟩, rfl⟩

end Go.Vt.Tryz
set_option maxRecDepth 100000
set_option linter.unusedSimpArgs false
namespace Go.Vt.Tryz
open Go.Vt renaming vslice → J0
open Nat renaming reduceBEq → J1, reduceEqDiff → J2, reduceLT → J3, reduceLeDiff → J4, reduceAdd → J5, reduceMul → J6, reduceSub → J7
open Go.Proofs Go.Vt.Al

theorem so_makeFb {P : Program} {T : Sl} {h : AHeap} {K : Kn (V × AHeap)} {f : FuncId} {x : Operand} : @vstepI P T h (.makeFunc (.func f) #[x] #[]) K = @obI _ ((opds T [x]).bind fun vs => (vcaps vs).map fun ls => (.one (.fb f ls), h)) K :=
  so_of (by
    simp only [vop, mkO]
    rw [if_neg (show ¬ (#[x] : Array Operand).size = 0 by simp), if_pos (show (#[] : Array Operand).size = 0 from rfl)]
    show (match opds T [x] with | some vs => _ | none => none) = _
    cases opds T [x] with
    | none => rfl
    | some vs => simp only [Option.bind_some]; cases vcaps vs <;> rfl) rfl (by simp [vother, mkO])

def fH (v : Nat) (F : List Int) (XF : List (List D)) : AHeap := [.box [.d (.int .i64 6), .own 1 v F.length], .arr false 1 v (nums F ++ XF)]

def Fnd (F : List Int) (Q : Int → Prop) (c : Nat) (h' : AHeap) : Prop := ∃ v F' XF, h' = fH v F' XF ∧ (∀ n, n ∈ F' ↔ n ∈ F ∨ Q n) ∧ F'.length ≤ F.length + c

theorem vc_see (v : Nat) (F : List Int) (XF : List (List D)) (k n : Int) (l : List Ty) (hF : F.length < 1000000000) :
    VC Tryz.prog 240 [.one (.ptr 0 0), tyV (.mk k n l)] (fH v F XF) fun r h' => r = .tup [] ∧ Fnd F (fun m => k = 6 ∧ n = m) 1 h' := by
  have hco := vc_containsO v F XF n hF
  have hcap : (F.length + 1) * 8 ≤ maxBytes ∧ F.length + 1 ≤ maxBytes := by simp [maxBytes]; omega
  have htk : (nums F ++ XF).take F.length = nums F := by rw [List.take_append_of_le_length (by rw [nums_length]; exact Nat.le_refl _), List.take_of_length_le (by rw [nums_length]; exact Nat.le_refl _)]
  simp only [fH] at hco ⊢
  simp only [tyV, encTy, List.map_cons, List.map_nil]
  refine VC_of_fn mixed fn240 (by simp) ?_
  show vwp Tryz.prog 2 vc240 _ [(0, .one (.ptr 0 0)), (1, .agg [.d (.int .i64 k), .d (.int .i64 n), .d (.sl (encTy.encs l))])] [.box [.d (.int .i64 6), .own 1 v F.length], .arr false 1 v (nums F ++ XF)]
  unfold vc240
  rw [vwpI_eq]
  by_cases hk : k = 6
  · have hk1 : (k = 6) = True := by simp [hk]
    simp -implicitDefEqProofs only [bV.d, oS.d, J0, J1, J2, J3, J4, J5, J6, J7, ↓reduceIte, reduceCtorEq, hk1]
    refine callS [1] (hco) rfl rfl rfl ?_
    rintro _ _ ⟨rfl, rfl⟩
    refine ⟨_, _, rfl, ?_⟩
    by_cases hm : n ∈ F
    · simp -implicitDefEqProofs only [bV.d, oS.d, J0, J1, J2, J3, J4, J5, J6, J7, ↓reduceIte, reduceCtorEq, hm]
      apply vend_of [0, 1]; rfl; rfl
      exact ⟨rfl, v, F, XF, rfl, fun m => ⟨.inl, fun h => h.elim id fun h => h.2 ▸ hm⟩, by omega⟩
    · have e2 : nums F ++ [[.int .i64 n]] = nums (F ++ [n]) ++ [] := by simp [nums]
      have e3 : F.length + 1 = (F ++ [n]).length := by simp
      simp -implicitDefEqProofs only [bV.d, oS.d, J0, J1, J2, J3, J4, J5, J6, J7, ↓reduceIte, reduceCtorEq, hm, hcap, htk]
      rw [e2, e3]
      apply vend_of [0, 1]; rfl; rfl
      refine ⟨rfl, v + 1, F ++ [n], [], rfl, fun m => ?_, by simp⟩
      simp only [List.mem_append, List.mem_singleton]
      exact ⟨fun h => h.elim .inl fun e => .inr ⟨hk, e.symm⟩, fun h => h.elim .inl fun e => .inr e.2.symm⟩
  · have hk1 : (k = 6) = False := by simp [hk]
    simp -implicitDefEqProofs only [bV.d, oS.d, J0, J1, J2, J3, J4, J5, J6, J7, ↓reduceIte, reduceCtorEq, hk1]
    apply vend_of [0, 1]; rfl; rfl
    exact ⟨rfl, v, F, XF, rfl, fun m => ⟨.inl, fun h => h.elim id fun h => by first | exact h.elim | exact absurd h.1 hk⟩, by omega⟩

set_option maxHeartbeats 1000000 in
theorem vc_walkT : ∀ (N : Nat) (t : Ty), tyn t ≤ N → N < 100000000 → ∀ (v : Nat) (F : List Int) (XF : List (List D)), F.length + tyn t < 1000000000 →
    VC Tryz.prog 239 [tyV t, .one (.fb 240 [.ptr 0 0])] (fH v F XF) fun r h' => r = .tup [] ∧ Fnd F (fvTy t) (tyn t) h'
  | 0, .mk k n l, h, _, _, _, _, _ => by simp only [tyn] at h; omega
  | N + 1, .mk k n l, h, hN, v, F, XF, hF => by
    have ih := vc_walkT N
    have hse := vc_see v F XF k n l (by omega)
    simp only [tyn, tyn_go] at h hF
    have hlen := sumN_length (f := tyn) (fun t => by cases t; simp [tyn]) l
    simp only [fH] at ih hse ⊢
    simp only [tyV, encTy, List.map_cons, List.map_nil] at hse ⊢
    refine VC_of_fn mixed fn239 (by simp) ?_
    show vwp Tryz.prog 2 vc239 _ [(0, .agg [.d (.int .i64 k), .d (.int .i64 n), .d (.sl (encTy.encs l))]), (1, .one (.fb 240 [.ptr 0 0]))] [.box [.d (.int .i64 6), .own 1 v F.length], .arr false 1 v (nums F ++ XF)]
    unfold vc239
    rw [vwpI_eq]
    simp -implicitDefEqProofs only [bV.d, oS.d, J0, J1, J2, J3, J4, J5, J6, J7, ↓reduceIte, reduceCtorEq]
    refine callS [0, 1] hse rfl rfl rfl ?_
    rintro _ _ ⟨rfl, v1, F1, Y1, rfl, hF1, hl1⟩
    simp only [fH]
    refine ⟨_, _, rfl, ?_⟩
    simp -implicitDefEqProofs only [bV.d, oS.d, J0, J1, J2, J3, J4, J5, J6, J7, ↓reduceIte, reduceCtorEq, encsTy_length]
    refine loopI (α := Nat × Nat × List Int × List (List D)) (fun x => [(12, .one (.d (.int .i64 x.1))), (11, .one (.d (.int .i64 l.length))), (10, .one (.d (.sl (encTy.encs l)))), (1, .one (.fb 240 [.ptr 0 0]))]) (fun x => [.box [.d (.int .i64 6), .own 1 x.2.1 x.2.2.1.length], .arr false 1 x.2.1 (nums x.2.2.1 ++ x.2.2.2)])
      (fun x => x.1 ≤ l.length ∧ (∀ m, m ∈ x.2.2.1 ↔ m ∈ F ∨ (k = 6 ∧ n = m) ∨ ∃ t ∈ l.take x.1, fvTy t m) ∧ x.2.2.1.length ≤ F.length + 1 + sumN tyn (l.take x.1)) (fun x => l.length - x.1) (0, v1, F1, Y1)
      (keepI [0, 1] _ (WkH.refl _) rfl rfl rfl ⟨⟨_, WkV.refl _, rfl⟩, ⟨_, WkV.refl _, rfl⟩, ⟨_, WkV.refl _, rfl⟩, ⟨_, WkV.refl _, rfl⟩, trivial⟩) ⟨Nat.zero_le _, fun m => by simp [hF1], by simpa [sumN] using hl1⟩ ?_
    rintro ⟨i, v2, F2, Y2⟩ ⟨hi, h2, h3⟩
    dsimp only at hi h2 h3 ⊢
    have hw := wrapA1 (a := i) rfl (by omega)
    rcases Nat.lt_or_ge i l.length with h5 | h5
    · have hc : ((i : Int) < (l.length : Int)) = True := by simp; omega
      obtain ⟨u, hu⟩ := rowOf h5
      have hg : (encTy.encs l)[i]? = some (encTy u) := by rw [encsTy, List.getElem?_map, hu]; rfl
      have hmu := sumN_mem (f := tyn) (List.mem_of_getElem? hu)
      have hsu := sumN_take (f := tyn) hu
      have hle := sumN_take_le (f := tyn) l (i + 1)
      have iu := ih u (by omega) (by omega) v2 F2 Y2 (by omega)
      have hQ : ∀ m, (∃ t ∈ l.take (i + 1), fvTy t m) ↔ (∃ t ∈ l.take i, fvTy t m) ∨ fvTy u m := fun m => by
        rw [List.take_add_one, hu]
        simp only [Option.toList_some, List.mem_append, List.mem_singleton]
        constructor
        · rintro ⟨t, a | a, b⟩
          · exact .inl ⟨t, a, b⟩
          · subst a; exact .inr b
        · rintro (⟨t, a, b⟩ | b)
          · exact ⟨t, .inl a, b⟩
          · exact ⟨u, .inr rfl, b⟩
      have hfe : ∃ R : Int → Prop, R = fvTy u := ⟨_, rfl⟩
      obtain ⟨R, hR⟩ := hfe
      have hte : ∃ c : Nat, c = tyn u := ⟨_, rfl⟩
      obtain ⟨c, hcc⟩ := hte
      rw [← hR, ← hcc] at iu
      simp only [← hR] at hQ
      rw [← hcc] at hsu
      obtain ⟨uk, un, ul⟩ := u
      simp only [tyV, encTy, List.map_cons, List.map_nil] at iu hg
      simp -implicitDefEqProofs only [bV.d, oS.d, J0, J1, J2, J3, J4, J5, J6, J7, ↓reduceIte, reduceCtorEq, hc, hg, Int.natCast_nonneg, Int.toNat_natCast]
      refine callS [0, 1] iu rfl rfl rfl ?_
      rintro _ _ ⟨rfl, v3, F3, Y3, rfl, hF3, hl3⟩
      simp only [fH]
      refine ⟨_, _, rfl, ?_⟩
      simp -implicitDefEqProofs only [bV.d, oS.d, J0, J1, J2, J3, J4, J5, J6, J7, ↓reduceIte, reduceCtorEq, hw]
      refine ⟨(i + 1, v3, F3, Y3), ⟨by show i + 1 ≤ l.length; omega, fun m => ?_, ?_⟩, by show l.length - (i + 1) < l.length - i; omega, ?_⟩
      · show m ∈ F3 ↔ m ∈ F ∨ _ ∨ ∃ t ∈ l.take (i + 1), fvTy t m
        rw [hF3 m, h2 m, hQ m, or_assoc, or_assoc]
      · show F3.length ≤ F.length + 1 + sumN tyn (l.take (i + 1))
        omega
      · exact (keepI [0, 1] _ (WkH.refl _) rfl rfl rfl ⟨⟨_, WkV.refl _, rfl⟩, ⟨_, WkV.refl _, rfl⟩, ⟨_, WkV.refl _, rfl⟩, ⟨_, WkV.refl _, rfl⟩, trivial⟩)
    · have hc : ((i : Int) < (l.length : Int)) = False := by simp; omega
      have hie : i = l.length := by omega
      subst hie
      rw [List.take_length] at h2 h3
      simp -implicitDefEqProofs only [bV.d, oS.d, J0, J1, J2, J3, J4, J5, J6, J7, ↓reduceIte, reduceCtorEq, hc]
      apply vend_of [0, 1]; rfl; rfl
      refine ⟨rfl, v2, F2, Y2, rfl, fun m => ?_, by simp only [tyn, tyn_go]; omega⟩
      rw [h2 m]
      simp only [fvTy, fvTys_mem, kindStamp]

theorem vc_Stamps (t : Ty) (ht : tyn t < 100000000) : VC Tryz.prog 109 [tyV t] [] fun r h' => (∃ F, r = .one (.d (.sl (nums F))) ∧ (∀ n, n ∈ F ↔ fvTy t n) ∧ F.length ≤ tyn t) ∧ h' = [] := by
  have hw := vc_walkT 99999999 t (by omega) (by omega) 0 [] [] (by simp; omega)
  have hf : VC Tryz.prog 182 [tyV t, .one (.d (.int .i64 6))] [] fun r h' => (∃ F, r = .one (.d (.sl (nums F))) ∧ (∀ n, n ∈ F ↔ fvTy t n) ∧ F.length ≤ tyn t) ∧ h' = [] := by
    have hRe : ∃ R : Int → Prop, R = fvTy t := ⟨_, rfl⟩
    obtain ⟨R, hR⟩ := hRe
    have hte : ∃ c : Nat, c = tyn t := ⟨_, rfl⟩
    obtain ⟨c, hcc⟩ := hte
    rw [← hR, ← hcc] at hw ⊢
    obtain ⟨k, n, l⟩ := t
    simp only [fH] at hw
    simp only [tyV, encTy, List.map_cons, List.map_nil] at hw ⊢
    refine VC_of_fn mixed fn182 (by simp) ?_
    show vwp Tryz.prog 0 vc182 _ [(0, .agg [.d (.int .i64 k), .d (.int .i64 n), .d (.sl (encTy.encs l))]), (1, .one (.d (.int .i64 6)))] []
    unfold vc182
    rw [vwpI_eq]
    simp -implicitDefEqProofs only [bV.d, oS.d, J0, J1, J2, J3, J4, J5, J6, J7, ↓reduceIte, reduceCtorEq, so_makeFb]
    refine callB [(1, 1, 1)] _ [.box [.d (.int .i64 k), .d (.int .i64 n), .d (.sl (encTy.encs l))], .box [.d (.int .i64 6), .own 2 0 0], .arr false 1 0 []] [1, 2] rfl (WkV.allRefl _) (WkH.refl _) hw rfl rfl rfl ?_
    rintro _ _ ⟨rfl, v1, F1, Y1, rfl, hF1, hl1⟩
    simp only [fH]
    refine ⟨_, _, rfl, ?_⟩
    simp -implicitDefEqProofs only [bV.d, oS.d, J0, J1, J2, J3, J4, J5, J6, J7, ↓reduceIte, reduceCtorEq]
    apply vend_of []
    · rfl
    · simp [fin, nodup, handO, lendR, lendV, lendLs, lendL, idx, vone, renL, lendVs, renO, renL.renLs]; first | exact ⟨rfl, rfl⟩ | exact ⟨rfl, rfl, rfl⟩
    refine ⟨⟨F1, ?_, fun m => by simpa using hF1 m, by simpa using hl1⟩, rfl⟩
    rw [List.take_append_of_le_length (by rw [nums_length]; exact Nat.le_refl _), List.take_of_length_le (by rw [nums_length]; exact Nat.le_refl _)]
  have hRe : ∃ R : Int → Prop, R = fvTy t := ⟨_, rfl⟩
  obtain ⟨R, hR⟩ := hRe
  have hte : ∃ c : Nat, c = tyn t := ⟨_, rfl⟩
  obtain ⟨c, hcc⟩ := hte
  rw [← hR, ← hcc] at hf ⊢
  obtain ⟨k, n, l⟩ := t
  simp only [tyV, encTy, List.map_cons, List.map_nil] at hf ⊢
  refine VC_of_fn mixed fn109 (by simp) ?_
  show vwp Tryz.prog 0 vc109 _ [(0, .agg [.d (.int .i64 k), .d (.int .i64 n), .d (.sl (encTy.encs l))])] []
  unfold vc109
  rw [vwpI_eq]
  simp -implicitDefEqProofs only [bV.d, oS.d, J0, J1, J2, J3, J4, J5, J6, J7, ↓reduceIte, reduceCtorEq]
  refine callS [] (hf) rfl rfl rfl ?_
  rintro _ _ ⟨⟨F, rfl, h1, h2⟩, rfl⟩
  refine ⟨_, _, rfl, ?_⟩
  simp -implicitDefEqProofs only [bV.d, oS.d, J0, J1, J2, J3, J4, J5, J6, J7, ↓reduceIte, reduceCtorEq]
  apply vend_of []; rfl; rfl
  exact ⟨⟨F, rfl, h1, h2⟩, rfl⟩

end Go.Vt.Tryz
set_option maxRecDepth 100000
set_option linter.unusedSimpArgs false
namespace Go.Vt.Tryz
open Go.Vt renaming vslice → J0
open Nat renaming reduceBEq → J1, reduceEqDiff → J2, reduceLT → J3, reduceLeDiff → J4, reduceAdd → J5, reduceMul → J6, reduceSub → J7
open Go.Proofs Go.Vt.Al

def kH (vb vf : Nat) (Bd F : List Int) (XB XF : List (List D)) : AHeap := [.box [.own 1 vb Bd.length, .own 2 vf F.length], .arr false 1 vb (nums Bd ++ XB), .arr false 1 vf (nums F ++ XF)]

def Wk (Bd F : List Int) (Q : Int → Prop) (c : Nat) (h' : AHeap) : Prop := ∃ vb XB vf F' XF, h' = kH vb vf Bd F' XB XF ∧ (∀ n, n ∈ F' ↔ n ∈ F ∨ (Q n ∧ n ∉ Bd)) ∧ F'.length ≤ F.length + c

theorem nums_take (F : List Int) (XF : List (List D)) : (nums F ++ XF).take F.length = nums F := by rw [List.take_append_of_le_length (by rw [nums_length]; exact Nat.le_refl _), List.take_of_length_le (by rw [nums_length]; exact Nat.le_refl _)]

theorem ex_take {α : Type} {p : α → Prop} {l : List α} {i : Nat} {u : α} (h : l[i]? = some u) : (∃ t ∈ l.take (i + 1), p t) ↔ (∃ t ∈ l.take i, p t) ∨ p u := by
  rw [List.take_add_one, h]
  simp only [Option.toList_some, List.mem_append, List.mem_singleton]
  constructor
  · rintro ⟨t, a | a, b⟩
    · exact .inl ⟨t, a, b⟩
    · subst a; exact .inr b
  · rintro (⟨t, a, b⟩ | b)
    · exact ⟨t, .inl a, b⟩
    · exact ⟨u, .inr rfl, b⟩

set_option maxHeartbeats 1000000 in
theorem vc_ktyp (vb vf : Nat) (Bd F : List Int) (XB XF : List (List D)) (t : Ty) (ht : tyn t < 100000000) (hB : Bd.length < 1000000000) (hF : F.length + tyn t < 1000000000) :
    VC Tryz.prog 129 [.one (.ptr 0 0), tyV t] (kH vb vf Bd F XB XF) fun r h' => r = .tup [] ∧ Wk Bd F (fvTy t) (tyn t) h' := by
  have hs := vc_Stamps t ht
  have hQe : ∃ Q : Int → Prop, Q = fvTy t := ⟨_, rfl⟩
  obtain ⟨Q, hQ⟩ := hQe
  have hce : ∃ c : Nat, c = tyn t := ⟨_, rfl⟩
  obtain ⟨c, hc⟩ := hce
  rw [← hQ, ← hc] at hs ⊢
  rw [← hc] at ht hF
  obtain ⟨k, n, l⟩ := t
  simp only [kH] at hs ⊢
  simp only [tyV, encTy, List.map_cons, List.map_nil] at hs ⊢
  refine VC_of_fn mixed fn129 (by simp) ?_
  show vwp Tryz.prog 3 vc129 _ [(0, .one (.ptr 0 0)), (1, .agg [.d (.int .i64 k), .d (.int .i64 n), .d (.sl (encTy.encs l))])] [.box [.own 1 vb Bd.length, .own 2 vf F.length], .arr false 1 vb (nums Bd ++ XB), .arr false 1 vf (nums F ++ XF)]
  unfold vc129
  rw [vwpI_eq]
  simp -implicitDefEqProofs only [bV.d, oS.d, J0, J1, J2, J3, J4, J5, J6, J7, ↓reduceIte, reduceCtorEq]
  refine callS [] (hs) rfl rfl rfl ?_
  rintro _ _ ⟨⟨L, rfl, h1, h2⟩, rfl⟩
  refine ⟨_, _, rfl, ?_⟩
  simp -implicitDefEqProofs only [bV.d, oS.d, J0, J1, J2, J3, J4, J5, J6, J7, ↓reduceIte, reduceCtorEq, nums_length]
  refine loopI (α := Nat × Nat × List Int × List (List D)) (fun x => [(9, .one (.d (.int .i64 x.1))), (8, .one (.d (.int .i64 L.length))), (7, .one (.d (.sl (nums L)))), (0, .one (.ptr 0 0))]) (fun x => [.box [.own 1 vb Bd.length, .own 2 x.2.1 x.2.2.1.length], .arr false 1 vb (nums Bd ++ XB), .arr false 1 x.2.1 (nums x.2.2.1 ++ x.2.2.2)])
    (fun x => x.1 ≤ L.length ∧ (∀ m, m ∈ x.2.2.1 ↔ m ∈ F ∨ ((∃ y ∈ L.take x.1, m = y) ∧ m ∉ Bd)) ∧ x.2.2.1.length ≤ F.length + x.1) (fun x => L.length - x.1) (0, vf, F, XF)
    (keepI [0, 1, 2] _ (WkH.refl _) rfl rfl rfl ⟨⟨_, WkV.refl _, rfl⟩, ⟨_, WkV.refl _, rfl⟩, ⟨_, WkV.refl _, rfl⟩, ⟨_, WkV.refl _, rfl⟩, trivial⟩) ⟨Nat.zero_le _, fun m => by simp, by simp⟩ ?_
  rintro ⟨i, v, G, Y⟩ ⟨hi, g1, g2⟩
  dsimp only at hi g1 g2 ⊢
  have hw := wrapA1 (a := i) rfl (by omega)
  rcases Nat.lt_or_ge i L.length with h5 | h5
  · have hlt : ((i : Int) < (L.length : Int)) = True := by simp; omega
    obtain ⟨u, hu⟩ := rowOf h5
    have hg := nums_get hu
    have c1 := vc_containsO vb Bd XB u hB
    have c2 := vc_containsO v G Y u (by omega)
    have hcap : (G.length + 1) * 8 ≤ maxBytes ∧ G.length + 1 ≤ maxBytes := by simp [maxBytes]; omega
    have htk := nums_take G Y
    simp -implicitDefEqProofs only [bV.d, oS.d, J0, J1, J2, J3, J4, J5, J6, J7, ↓reduceIte, reduceCtorEq, hlt, hg, Int.natCast_nonneg, Int.toNat_natCast]
    refine callS [1] (c1) rfl rfl rfl ?_
    rintro _ _ ⟨rfl, rfl⟩
    refine ⟨_, _, rfl, ?_⟩
    by_cases hm : u ∈ Bd
    · simp -implicitDefEqProofs only [bV.d, oS.d, J0, J1, J2, J3, J4, J5, J6, J7, ↓reduceIte, reduceCtorEq, hm, hw]
      refine ⟨(i + 1, v, G, Y), ⟨by show i + 1 ≤ L.length; omega, fun m => ?_, by show G.length ≤ F.length + (i + 1); omega⟩, by show L.length - (i + 1) < L.length - i; omega, ?_⟩
      · show m ∈ G ↔ m ∈ F ∨ ((∃ y ∈ L.take (i + 1), m = y) ∧ m ∉ Bd)
        rw [g1 m, ex_take (p := fun y => m = y) hu]
        constructor
        · rintro (a | ⟨a, b⟩)
          · exact .inl a
          · exact .inr ⟨.inl a, b⟩
        · rintro (a | ⟨a | a, b⟩)
          · exact .inl a
          · exact .inr ⟨a, b⟩
          · exact absurd hm (a ▸ b)
      · exact (keepI [0, 1, 2] _ (WkH.refl _) rfl rfl rfl ⟨⟨_, WkV.refl _, rfl⟩, ⟨_, WkV.refl _, rfl⟩, ⟨_, WkV.refl _, rfl⟩, ⟨_, WkV.refl _, rfl⟩, trivial⟩)
    · simp -implicitDefEqProofs only [bV.d, oS.d, J0, J1, J2, J3, J4, J5, J6, J7, ↓reduceIte, reduceCtorEq, hm]
      refine callS [2] (c2) rfl rfl rfl ?_
      rintro _ _ ⟨rfl, rfl⟩
      refine ⟨_, _, rfl, ?_⟩
      by_cases hm2 : u ∈ G
      · simp -implicitDefEqProofs only [bV.d, oS.d, J0, J1, J2, J3, J4, J5, J6, J7, ↓reduceIte, reduceCtorEq, hm2, hw]
        refine ⟨(i + 1, v, G, Y), ⟨by show i + 1 ≤ L.length; omega, fun m => ?_, by show G.length ≤ F.length + (i + 1); omega⟩, by show L.length - (i + 1) < L.length - i; omega, ?_⟩
        · show m ∈ G ↔ m ∈ F ∨ ((∃ y ∈ L.take (i + 1), m = y) ∧ m ∉ Bd)
          rw [ex_take (p := fun y => m = y) hu]
          constructor
          · intro a
            rcases (g1 m).1 a with a | ⟨a, b⟩
            · exact .inl a
            · exact .inr ⟨.inl a, b⟩
          · rintro (a | ⟨a | a, b⟩)
            · exact (g1 m).2 (.inl a)
            · exact (g1 m).2 (.inr ⟨a, b⟩)
            · exact a ▸ hm2
        · exact (keepI [0, 1, 2] _ (WkH.refl _) rfl rfl rfl ⟨⟨_, WkV.refl _, rfl⟩, ⟨_, WkV.refl _, rfl⟩, ⟨_, WkV.refl _, rfl⟩, ⟨_, WkV.refl _, rfl⟩, trivial⟩)
      · have e2 : nums G ++ [[.int .i64 u]] = nums (G ++ [u]) ++ [] := by simp [nums]
        have e3 : G.length + 1 = (G ++ [u]).length := by simp
        simp -implicitDefEqProofs only [bV.d, oS.d, J0, J1, J2, J3, J4, J5, J6, J7, ↓reduceIte, reduceCtorEq, hm2, hcap, htk, hw]
        rw [e2, e3]
        refine ⟨(i + 1, v + 1, G ++ [u], []), ⟨by show i + 1 ≤ L.length; omega, fun m => ?_, by show (G ++ [u]).length ≤ F.length + (i + 1); simp; omega⟩, by show L.length - (i + 1) < L.length - i; omega, ?_⟩
        · show m ∈ G ++ [u] ↔ m ∈ F ∨ ((∃ y ∈ L.take (i + 1), m = y) ∧ m ∉ Bd)
          rw [ex_take (p := fun y => m = y) hu, List.mem_append, List.mem_singleton, g1 m]
          constructor
          · rintro ((a | ⟨a, b⟩) | a)
            · exact .inl a
            · exact .inr ⟨.inl a, b⟩
            · exact .inr ⟨.inr a, a ▸ hm⟩
          · rintro (a | ⟨a | a, b⟩)
            · exact .inl (.inl a)
            · exact .inl (.inr ⟨a, b⟩)
            · exact .inr a
        · exact (keepI [0, 1, 2] _ (WkH.refl _) rfl rfl rfl ⟨⟨_, WkV.refl _, rfl⟩, ⟨_, WkV.refl _, rfl⟩, ⟨_, WkV.refl _, rfl⟩, ⟨_, WkV.refl _, rfl⟩, trivial⟩)
  · have hlt : ((i : Int) < (L.length : Int)) = False := by simp; omega
    have hie : i = L.length := by omega
    subst hie
    rw [List.take_length] at g1
    simp -implicitDefEqProofs only [bV.d, oS.d, J0, J1, J2, J3, J4, J5, J6, J7, ↓reduceIte, reduceCtorEq, hlt]
    apply vend_of [0, 1, 2]; rfl; rfl
    refine ⟨rfl, vb, XB, v, G, Y, rfl, fun m => ?_, by omega⟩
    rw [g1 m, ← h1 m]
    constructor
    · rintro (a | ⟨⟨y, a, rfl⟩, b⟩)
      · exact .inl a
      · exact .inr ⟨a, b⟩
    · rintro (a | ⟨a, b⟩)
      · exact .inl a
      · exact .inr ⟨⟨m, a, rfl⟩, b⟩

theorem Wk.more {Bd F F1 F2 : List Int} {P Q R : Int → Prop} (h1 : ∀ m, m ∈ F1 ↔ m ∈ F ∨ (P m ∧ m ∉ Bd)) (h2 : ∀ m, m ∈ F2 ↔ m ∈ F1 ∨ (Q m ∧ m ∉ Bd)) (hR : ∀ m, R m ↔ P m ∨ Q m) (m : Int) : m ∈ F2 ↔ m ∈ F ∨ (R m ∧ m ∉ Bd) := by
  rw [h2 m, h1 m, hR m]
  constructor
  · rintro ((a | ⟨a, b⟩) | ⟨a, b⟩)
    · exact .inl a
    · exact .inr ⟨.inl a, b⟩
    · exact .inr ⟨.inr a, b⟩
  · rintro (a | ⟨a | a, b⟩)
    · exact .inl (.inl a)
    · exact .inl (.inr ⟨a, b⟩)
    · exact .inr ⟨a, b⟩

set_option maxHeartbeats 1000000 in
theorem vc_kall (vb vf : Nat) (Bd F : List Int) (XB XF : List (List D)) (l : List Ty) (ht : sumN tyn l < 100000000) (hB : Bd.length < 1000000000) (hF : F.length + sumN tyn l < 1000000000) :
    VC Tryz.prog 204 [.one (.ptr 0 0), .one (.d (.sl (encTy.encs l)))] (kH vb vf Bd F XB XF) fun r h' => r = .tup [] ∧ Wk Bd F (fun m => ∃ t ∈ l, fvTy t m) (sumN tyn l) h' := by
  have hty := fun u (hu : tyn u < 100000000) vb vf F XB XF (hF : F.length + tyn u < 1000000000) => vc_ktyp vb vf Bd F XB XF u hu hB hF
  have hlen := sumN_length (f := tyn) (fun t => by cases t; simp [tyn]) l
  simp only [kH] at hty ⊢
  refine VC_of_fn mixed fn204 (by simp) ?_
  show vwp Tryz.prog 3 vc204 _ [(0, .one (.ptr 0 0)), (1, .one (.d (.sl (encTy.encs l))))] [.box [.own 1 vb Bd.length, .own 2 vf F.length], .arr false 1 vb (nums Bd ++ XB), .arr false 1 vf (nums F ++ XF)]
  unfold vc204
  rw [vwpI_eq]
  simp -implicitDefEqProofs only [bV.d, oS.d, J0, J1, J2, J3, J4, J5, J6, J7, ↓reduceIte, reduceCtorEq, encsTy_length]
  refine loopI (α := Nat × (Nat × List (List D)) × Nat × List Int × List (List D)) (fun x => [(8, .one (.d (.int .i64 x.1))), (7, .one (.d (.int .i64 l.length))), (6, .one (.d (.sl (encTy.encs l)))), (0, .one (.ptr 0 0))]) (fun x => [.box [.own 1 x.2.1.1 Bd.length, .own 2 x.2.2.1 x.2.2.2.1.length], .arr false 1 x.2.1.1 (nums Bd ++ x.2.1.2), .arr false 1 x.2.2.1 (nums x.2.2.2.1 ++ x.2.2.2.2)])
    (fun x => x.1 ≤ l.length ∧ (∀ m, m ∈ x.2.2.2.1 ↔ m ∈ F ∨ ((∃ t ∈ l.take x.1, fvTy t m) ∧ m ∉ Bd)) ∧ x.2.2.2.1.length ≤ F.length + sumN tyn (l.take x.1)) (fun x => l.length - x.1) (0, (vb, XB), vf, F, XF)
    (keepI [0, 1, 2] _ (WkH.refl _) rfl rfl rfl ⟨⟨_, WkV.refl _, rfl⟩, ⟨_, WkV.refl _, rfl⟩, ⟨_, WkV.refl _, rfl⟩, ⟨_, WkV.refl _, rfl⟩, trivial⟩) ⟨Nat.zero_le _, fun m => by simp, by simp [sumN]⟩ ?_
  rintro ⟨i, ⟨vb1, XB1⟩, v, G, Y⟩ ⟨hi, g1, g2⟩
  dsimp only at hi g1 g2 ⊢
  have hw := wrapA1 (a := i) rfl (by omega)
  rcases Nat.lt_or_ge i l.length with h5 | h5
  · have hlt : ((i : Int) < (l.length : Int)) = True := by simp; omega
    obtain ⟨u, hu⟩ := rowOf h5
    have hg : (encTy.encs l)[i]? = some (encTy u) := by rw [encsTy, List.getElem?_map, hu]; rfl
    have hsu := sumN_take (f := tyn) hu
    have hle := sumN_take_le (f := tyn) l (i + 1)
    have iu := hty u (by omega) vb1 v G XB1 Y (by omega)
    have hQ := fun m => ex_take (p := fun t => fvTy t m) hu
    have hfe : ∃ R : Int → Prop, R = fvTy u := ⟨_, rfl⟩
    obtain ⟨R, hR⟩ := hfe
    have hte : ∃ c : Nat, c = tyn u := ⟨_, rfl⟩
    obtain ⟨c, hcc⟩ := hte
    rw [← hR, ← hcc] at iu
    simp only [← hR] at hQ
    rw [← hcc] at hsu
    obtain ⟨uk, un, ul⟩ := u
    simp only [tyV, encTy, List.map_cons, List.map_nil] at iu hg
    simp -implicitDefEqProofs only [bV.d, oS.d, J0, J1, J2, J3, J4, J5, J6, J7, ↓reduceIte, reduceCtorEq, hlt, hg, Int.natCast_nonneg, Int.toNat_natCast]
    refine callS [0, 1, 2] iu rfl rfl rfl ?_
    rintro _ _ ⟨rfl, vb3, XB3, v3, F3, Y3, rfl, hF3, hl3⟩
    simp only [kH]
    refine ⟨_, _, rfl, ?_⟩
    simp -implicitDefEqProofs only [bV.d, oS.d, J0, J1, J2, J3, J4, J5, J6, J7, ↓reduceIte, reduceCtorEq, hw]
    refine ⟨(i + 1, (vb3, XB3), v3, F3, Y3), ⟨by show i + 1 ≤ l.length; omega, fun m => ?_, by show F3.length ≤ F.length + sumN tyn (l.take (i + 1)); omega⟩, by show l.length - (i + 1) < l.length - i; omega, ?_⟩
    · exact Wk.more g1 hF3 hQ m
    · exact (keepI [0, 1, 2] _ (WkH.refl _) rfl rfl rfl ⟨⟨_, WkV.refl _, rfl⟩, ⟨_, WkV.refl _, rfl⟩, ⟨_, WkV.refl _, rfl⟩, ⟨_, WkV.refl _, rfl⟩, trivial⟩)
  · have hlt : ((i : Int) < (l.length : Int)) = False := by simp; omega
    have hie : i = l.length := by omega
    subst hie
    rw [List.take_length] at g1 g2
    simp -implicitDefEqProofs only [bV.d, oS.d, J0, J1, J2, J3, J4, J5, J6, J7, ↓reduceIte, reduceCtorEq, hlt]
    apply vend_of [0, 1, 2]; rfl; rfl
    exact ⟨rfl, vb1, XB1, v, G, Y, rfl, g1, g2⟩

set_option maxHeartbeats 1000000 in
theorem vc_kctors (vb vf : Nat) (Bd F : List Int) (XB XF : List (List D)) (l : List Ct) (ht : sumN ctn l < 100000000) (hB : Bd.length < 1000000000) (hF : F.length + sumN ctn l < 1000000000) :
    VC Tryz.prog 130 [.one (.ptr 0 0), .one (.d (.sl (l.map encCt)))] (kH vb vf Bd F XB XF) fun r h' => r = .tup [] ∧ Wk Bd F (fun m => ∃ c ∈ l, fvTy.go c.args m) (sumN ctn l) h' := by
  have hty := fun u (hu : sumN tyn u < 100000000) vb vf F XB XF (hF : F.length + sumN tyn u < 1000000000) => vc_kall vb vf Bd F XB XF u hu hB hF
  have hlen := sumN_length (f := ctn) (fun t => by cases t; simp [ctn]) l
  simp only [kH] at hty ⊢
  refine VC_of_fn mixed fn130 (by simp) ?_
  show vwp Tryz.prog 3 vc130 _ [(0, .one (.ptr 0 0)), (1, .one (.d (.sl (l.map encCt))))] [.box [.own 1 vb Bd.length, .own 2 vf F.length], .arr false 1 vb (nums Bd ++ XB), .arr false 1 vf (nums F ++ XF)]
  unfold vc130
  rw [vwpI_eq]
  simp -implicitDefEqProofs only [bV.d, oS.d, J0, J1, J2, J3, J4, J5, J6, J7, ↓reduceIte, reduceCtorEq, List.length_map]
  refine loopI (α := Nat × (Nat × List (List D)) × Nat × List Int × List (List D)) (fun x => [(8, .one (.d (.int .i64 x.1))), (7, .one (.d (.int .i64 l.length))), (6, .one (.d (.sl (l.map encCt)))), (0, .one (.ptr 0 0))]) (fun x => [.box [.own 1 x.2.1.1 Bd.length, .own 2 x.2.2.1 x.2.2.2.1.length], .arr false 1 x.2.1.1 (nums Bd ++ x.2.1.2), .arr false 1 x.2.2.1 (nums x.2.2.2.1 ++ x.2.2.2.2)])
    (fun x => x.1 ≤ l.length ∧ (∀ m, m ∈ x.2.2.2.1 ↔ m ∈ F ∨ ((∃ c ∈ l.take x.1, fvTy.go c.args m) ∧ m ∉ Bd)) ∧ x.2.2.2.1.length ≤ F.length + sumN ctn (l.take x.1)) (fun x => l.length - x.1) (0, (vb, XB), vf, F, XF)
    (keepI [0, 1, 2] _ (WkH.refl _) rfl rfl rfl ⟨⟨_, WkV.refl _, rfl⟩, ⟨_, WkV.refl _, rfl⟩, ⟨_, WkV.refl _, rfl⟩, ⟨_, WkV.refl _, rfl⟩, trivial⟩) ⟨Nat.zero_le _, fun m => by simp, by simp [sumN]⟩ ?_
  rintro ⟨i, ⟨vb1, XB1⟩, v, G, Y⟩ ⟨hi, g1, g2⟩
  dsimp only at hi g1 g2 ⊢
  have hw := wrapA1 (a := i) rfl (by omega)
  rcases Nat.lt_or_ge i l.length with h5 | h5
  · have hlt : ((i : Int) < (l.length : Int)) = True := by simp; omega
    obtain ⟨u, hu⟩ := rowOf h5
    have hg : (l.map encCt)[i]? = some (encCt u) := by rw [List.getElem?_map, hu]; rfl
    have hsu := sumN_take (f := ctn) hu
    have hle := sumN_take_le (f := ctn) l (i + 1)
    have hcu : sumN tyn u.args < ctn u := by simp only [ctn, tyn_go]; omega
    have iu := hty u.args (by omega) vb1 v G XB1 Y (by omega)
    have hQ := fun m => ex_take (p := fun (c : Ct) => fvTy.go c.args m) hu
    simp only [fvTys_mem] at hQ
    obtain ⟨us, ul⟩ := u
    simp only [encCt] at hg
    dsimp only at iu hQ hcu
    simp -implicitDefEqProofs only [bV.d, oS.d, J0, J1, J2, J3, J4, J5, J6, J7, ↓reduceIte, reduceCtorEq, hlt, hg, Int.natCast_nonneg, Int.toNat_natCast]
    refine callS [0, 1, 2] iu rfl rfl rfl ?_
    rintro _ _ ⟨rfl, vb3, XB3, v3, F3, Y3, rfl, hF3, hl3⟩
    simp only [kH]
    refine ⟨_, _, rfl, ?_⟩
    simp -implicitDefEqProofs only [bV.d, oS.d, J0, J1, J2, J3, J4, J5, J6, J7, ↓reduceIte, reduceCtorEq, hw]
    refine ⟨(i + 1, (vb3, XB3), v3, F3, Y3), ⟨by show i + 1 ≤ l.length; omega, fun m => ?_, by show F3.length ≤ F.length + sumN ctn (l.take (i + 1)); omega⟩, by show l.length - (i + 1) < l.length - i; omega, ?_⟩
    · show m ∈ F3 ↔ m ∈ F ∨ ((∃ c ∈ l.take (i + 1), fvTy.go c.args m) ∧ m ∉ Bd)
      refine Wk.more (R := fun m => ∃ c ∈ l.take (i + 1), fvTy.go c.args m) g1 hF3 (fun m => ?_) m
      simp only [fvTys_mem]
      exact hQ m
    · exact (keepI [0, 1, 2] _ (WkH.refl _) rfl rfl rfl ⟨⟨_, WkV.refl _, rfl⟩, ⟨_, WkV.refl _, rfl⟩, ⟨_, WkV.refl _, rfl⟩, ⟨_, WkV.refl _, rfl⟩, trivial⟩)
  · have hlt : ((i : Int) < (l.length : Int)) = False := by simp; omega
    have hie : i = l.length := by omega
    subst hie
    rw [List.take_length] at g1 g2
    simp -implicitDefEqProofs only [bV.d, oS.d, J0, J1, J2, J3, J4, J5, J6, J7, ↓reduceIte, reduceCtorEq, hlt]
    apply vend_of [0, 1, 2]; rfl; rfl
    exact ⟨rfl, vb1, XB1, v, G, Y, rfl, g1, g2⟩

end Go.Vt.Tryz
