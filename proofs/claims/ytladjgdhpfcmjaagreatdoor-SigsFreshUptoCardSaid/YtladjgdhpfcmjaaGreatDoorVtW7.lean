/- The reference's walk over a structure (printed by mkw7.py). -/
import Derived.Test.YtladjgdhpfcmjaaGreatDoorVtW1
set_option maxRecDepth 100000
set_option linter.unusedSimpArgs false
namespace Go.Vt.Tryz
open Go.Vt renaming vslice → J0
open Nat renaming reduceBEq → J1, reduceEqDiff → J2, reduceLT → J3, reduceLeDiff → J4, reduceAdd → J5, reduceMul → J6, reduceSub → J7
open Go.Proofs Go.Vt.Al

set_option maxHeartbeats 4000000 in
theorem vc_wstr_of (fr to tk : List Int) (hfr : fr.length < 1000000000) (hto : to.length < 1000000000) (htk : tk.length < 1000000000) (s1 : List Tym) (s2 : List Vam) (s3 : List (ByteArray × Stx)) (s4 : List (ByteArray × FnE)) (s5 : List SigE) (hsm : stn (.mk s1 s2 s3 s4 s5) < 90000000)
    (H3 : ∀ x ∈ s3, StrOk fr to tk x.2) (H4 : ∀ x ∈ s4, StrOk fr to tk x.2.2.1 ∧ StrOk fr to tk x.2.2.2.2) (H5 : ∀ x ∈ s5, StrOk fr to tk x.2.2) : StrOk fr to tk (.mk s1 s2 s3 s4 s5) := by
  intro A w v J hn0 hA hf hz0 hb
  simp only [stn, goS_sum, goF_sum, goG_sum] at hsm hA hf
  have hl1 := sumN_length (f := tymn) (fun t => by unfold tymn; omega) s1
  have hl2' := sumN_length (f := vamn) (fun t => by unfold vamn; omega) s2
  have hl3 := sumN_length (f := subz) (fun t => by unfold subz; omega) s3
  have hl4 := sumN_length (f := funz) (fun t => by unfold funz; omega) s4
  have hl5 := sumN_length (f := sigz) (fun t => by unfold sigz; omega) s5
  rw [str_mapW] at hb ⊢
  have q1 := bh_map2 (f := tymF tk (subF fr to) A) (c := tymn) (k := A.length) s1 (fun x _ w _ => bh_tym x w) w hn0
  have hn1 := q1.1.trans hn0
  have hz1 := Int.le_trans hz0 q1.2.1
  generalize e1 : mapW (tymF tk (subF fr to) A) s1 w = R1 at hb q1 hn1 hz1 ⊢
  obtain ⟨r1, w1⟩ := R1
  simp only at hb q1 hn1 hz1 ⊢
  have q2 := bh_map2 (f := vamF tk (subF fr to) A) (c := vamn) (k := A.length) s2 (fun x _ w _ => bh_vam x w) w1 hn1
  have hn2 := q2.1.trans hn1
  have hz2 := Int.le_trans hz1 q2.2.1
  generalize e2 : mapW (vamF tk (subF fr to) A) s2 w1 = R2 at hb q2 hn2 hz2 ⊢
  obtain ⟨r2, w2⟩ := R2
  simp only at hb q2 hn2 hz2 ⊢
  have q3 := bh_map2 (f := subE tk (subF fr to) A) (c := subz) (k := A.length) s3 (fun x _ w hw => (bh_str x.2 A w hw).mono (by rw [subz_e]; omega)) w2 hn2
  have hn3 := q3.1.trans hn2
  have hz3 := Int.le_trans hz2 q3.2.1
  generalize e3 : mapW (subE tk (subF fr to) A) s3 w2 = R3 at hb q3 hn3 hz3 ⊢
  obtain ⟨r3, w3⟩ := R3
  simp only at hb q3 hn3 hz3 ⊢
  have q4 := bh_map2 (f := funE tk (subF fr to) A) (c := funz) (k := A.length) s4 (fun x _ w hw => (bh_fn x.2 w hw).mono (by rw [funz_e]; omega)) w3 hn3
  have hn4 := q4.1.trans hn3
  have hz4 := Int.le_trans hz3 q4.2.1
  generalize e4 : mapW (funE tk (subF fr to) A) s4 w3 = R4 at hb q4 hn4 hz4 ⊢
  obtain ⟨r4, w4⟩ := R4
  simp only at hb q4 hn4 hz4 ⊢
  have q5 := bh_map2 (f := sigE tk (subF fr to) A) (c := sigz) (k := A.length) s5 (fun x _ w hw => (bh_abs x.2 w hw).mono (by rw [sigz_e]; omega)) w4 hn4
  have hn5 := q5.1.trans hn4
  have hz5 := Int.le_trans hz4 q5.2.1
  generalize e5 : mapW (sigE tk (subF fr to) A) s5 w4 = R5 at hb q5 hn5 hz5 ⊢
  obtain ⟨r5, w5⟩ := R5
  simp only at hb q5 hn5 hz5 ⊢
  have a1 := q1.2.2
  have a2 := q2.2.2
  have a3 := q3.2.2
  have a4 := q4.2.2
  have a5 := q5.2.2
  have m2 := q2.2.1
  have m3 := q3.2.1
  have m4 := q4.2.1
  have m5 := q5.2.1
  simp only [wb, wa, stW, encSt, List.map_cons, List.map_nil]
  refine VC_of_fn mixed fn31 (by simp) ?_
  show vwp Tryz.prog 2 vc31 _ [(0, .one (.ptr 0 0)), (1, .agg [.d (.sl (s1.map encTym)), .d (.sl (s2.map encVam)), .d (.sl (encSt.subs s3)), .d (.sl (encSt.funs s4)), .d (.sl (encSt.sigs s5))])] [.box [.own 1 v A.length, .d (.sl (nums fr)), .d (.sl (nums to)), .d (.int .i64 w.next), .d (.sl (nums tk)), .d (.sl (nums w.free))], .arr false 2 v (rws A w.nums ++ J)]
  unfold vc31
  rw [vwpI_eq]
  simp -implicitDefEqProofs only [bV.d, oS.d, J0, J1, J2, J3, J4, J5, J6, J7, ↓reduceIte, reduceCtorEq]
  refine loopI (α := Nat × Nat × List (List D)) (fun x => [(6, .one (.d (.int .i64 x.1))), (0, .one (.ptr 0 0)), (3, .one (.ptr 2 0)), (5, .one (.ptr 4 0)), (4, .one (.ptr 3 0))])
    (fun x => [.box [.own 1 x.2.1 A.length, .d (.sl (nums fr)), .d (.sl (nums to)), .d (.int .i64 (mapW (tymF tk (subF fr to) A) (s1.take x.1) w).2.next), .d (.sl (nums tk)), .d (.sl (nums (mapW (tymF tk (subF fr to) A) (s1.take x.1) w).2.free))], .arr false 2 x.2.1 (rws A (mapW (tymF tk (subF fr to) A) (s1.take x.1) w).2.nums ++ x.2.2), .box [.d (.sl (s1.map encTym)), .d (.sl (s2.map encVam)), .d (.sl (encSt.subs s3)), .d (.sl (encSt.funs s4)), .d (.sl (encSt.sigs s5))], .box [.nils, .nils, .nils, .nils, .nils], .box [.own 5 x.1 x.1, .nils, .nils, .nils, .nils], .arr false 5 x.1 ((mapW (tymF tk (subF fr to) A) (s1.take x.1) w).1.map encTym)])
    (fun x => x.1 ≤ s1.length) (fun x => s1.length - x.1) (0, v, J)
    (keepG [] [(4, 0, 5)] [0, 1, 2, 3, 4, 5] _ rfl rfl (WkH.refl _) rfl rfl rfl ⟨⟨_, WkV.refl _, rfl⟩, ⟨_, WkV.refl _, rfl⟩, ⟨_, WkV.refl _, rfl⟩, ⟨_, WkV.refl _, rfl⟩, ⟨_, WkV.refl _, rfl⟩, trivial⟩) (Nat.zero_le _) ?_
  rintro ⟨i, v1, X1⟩ hi
  simp only at hi
  dsimp only
  have hw := wrapA1 (a := i) rfl (by omega)
  have hl2 : ((mapW (tymF tk (subF fr to) A) (s1.take i) w).1.map encTym).length = i := by rw [List.length_map, mapW_length, List.length_take]; omega
  have htk2 : ((mapW (tymF tk (subF fr to) A) (s1.take i) w).1.map encTym).take i = (mapW (tymF tk (subF fr to) A) (s1.take i) w).1.map encTym := List.take_of_length_le (by omega)
  have hp := bh_part2 (f := tymF tk (subF fr to) A) (c := tymn) (k := A.length) (l := s1) (fun x _ w _ => bh_tym x w) (i + 1) w hn0
  have hbt := bh_part2 (f := tymF tk (subF fr to) A) (c := tymn) (k := A.length) (l := s1) (fun x _ w _ => bh_tym x w) i w hn0
  rcases Nat.lt_or_ge i s1.length with h5 | h5
  case inl =>
    have hc : ((i : Int) < (s1.length : Int)) = True := by simp; omega
    obtain ⟨x, hx⟩ := rowOf h5
    have hgu : (s1.map encTym)[i]? = some (encTym x) := by rw [List.getElem?_map, hx]; rfl
    have hmu := sumN_mem (f := tymn) (List.mem_of_getElem? hx)
    have hsu := sumN_take (f := tymn) hx
    have hle := sumN_take_le (f := tymn) s1 (i + 1)
    have hmt := mapW_take (f := tymF tk (subF fr to) A) hx w
    have hcap : (i + 1) * 80 ≤ maxBytes ∧ i + 1 ≤ maxBytes := by simp [maxBytes]; omega
    have hS1 := hbt.1.1.trans hn0
    have hS2 : (mapW (tymF tk (subF fr to) A) (s1.take i) w).2.free.length ≤ w.free.length + sumN tymn (s1.take i) := hbt.1.2.2
    have hS3 := Int.le_trans hz0 hbt.1.2.1
    have hS4 : (tymF tk (subF fr to) A x (mapW (tymF tk (subF fr to) A) (s1.take i) w).2).2.next < 1000000000000000 := by have := hp.2; rw [hmt, e1] at this; simp only at this; omega
    generalize hW : (mapW (tymF tk (subF fr to) A) (s1.take i) w).2 = S at hmt hS1 hS2 hS3 hS4 ⊢
    have t1 := vc_wtyp fr to tk v1 A X1 (by omega) hfr hto htk 99999999 x.t (by have := tymn_e x; omega) (by omega) S hS1 (by have := tymn_e x; omega) hS3 (by have := (bh_map (f := ctF tk (subF fr to) A) (c := ctn) x.cts (fun c _ w => bh_ct c w) (tyF tk (subF fr to) A x.t S).2).2.1; simp only [tymF] at hS4; omega)
    have k1 := bh_ty (tk := tk) (sb := subF fr to) (A := A) x.t S
    have t2 := vc_wctors fr to tk v1 A X1 (by omega) hfr hto htk x.cts (by have := tymn_e x; omega) (tyF tk (subF fr to) A x.t S).2 (k1.1.trans hS1) (by have := k1.2.2; have := tymn_e x; omega) (Int.le_trans hS3 k1.2.1) hS4
    simp only [tymF] at hmt
    generalize tyF tk (subF fr to) A x.t S = R at t1 t2 hmt
    obtain ⟨⟨rk, rn, rl⟩, S1⟩ := R
    simp only at t1 t2 hmt
    generalize mapW (ctF tk (subF fr to) A) x.cts S1 = R2 at t2 hmt
    obtain ⟨rc, S2⟩ := R2
    obtain ⟨xn, ⟨xk, xi, xl⟩, xc⟩ := x
    have e8 : (mapW (tymF tk (subF fr to) A) (s1.take i) w).1.map encTym ++ [[.str xn, .int .i64 rk, .int .i64 rn, .sl (encTy.encs rl), .sl (rc.map encCt)]] = (mapW (tymF tk (subF fr to) A) (s1.take (i + 1)) w).1.map encTym := by rw [hmt]; simp [encTym, encVam, encSm, encFm, encFn, encSig, encSc, encTy, encSt]
    have e9 : S2 = (mapW (tymF tk (subF fr to) A) (s1.take (i + 1)) w).2 := by rw [hmt]
    simp only [wb, wa] at t1 t2
    simp only [encTym, encVam, encSm, encFm, encFn, encSig, encSc, encTy, encSt, stW, abW, tyV, List.cons_append, List.nil_append, List.map_cons, List.map_nil] at t1 t2 hgu
    simp -implicitDefEqProofs only [bV.d, oS.d, J0, J1, J2, J3, J4, J5, J6, J7, ↓reduceIte, reduceCtorEq, hc, hgu, hcap, htk2, hw, encsTy_length, encSubs_len, encFuns_len, encSigs_len, List.length_map, Int.natCast_nonneg, Int.toNat_natCast]
    refine ⟨?_, ?_⟩
    all_goals
      refine callS [0, 1] (t1) rfl rfl rfl ?_
      rintro _ _ ⟨rfl, rfl⟩
      refine ⟨_, _, rfl, ?_⟩
      simp -implicitDefEqProofs only [bV.d, oS.d, J0, J1, J2, J3, J4, J5, J6, J7, ↓reduceIte, reduceCtorEq, hc, hgu, hcap, htk2, hw, encsTy_length, encSubs_len, encFuns_len, encSigs_len, List.length_map, Int.natCast_nonneg, Int.toNat_natCast]
      refine callS [0, 1] (t2) rfl rfl rfl ?_
      rintro _ _ ⟨rfl, rfl⟩
      refine ⟨_, _, rfl, ?_⟩
      simp -implicitDefEqProofs only [bV.d, oS.d, J0, J1, J2, J3, J4, J5, J6, J7, ↓reduceIte, reduceCtorEq, hc, hgu, hcap, htk2, hw, encsTy_length, encSubs_len, encFuns_len, encSigs_len, List.length_map, Int.natCast_nonneg, Int.toNat_natCast]
      rw [e8, e9]
      refine ⟨(i + 1, v1, X1), by show i + 1 ≤ s1.length; omega, by show s1.length - (i + 1) < s1.length - i; omega, ?_⟩
      exact (keepI [0, 1, 2, 3, 4, 5] _ (WkH.refl _) rfl rfl rfl ⟨⟨_, WkV.refl _, rfl⟩, ⟨_, WkV.refl _, rfl⟩, ⟨_, WkV.refl _, rfl⟩, ⟨_, WkV.refl _, rfl⟩, ⟨_, WkV.refl _, rfl⟩, trivial⟩)
  have hc : ((i : Int) < (s1.length : Int)) = False := by simp; omega
  have hie : i = s1.length := by omega
  subst hie
  rw [List.take_length, e1] at htk2
  simp only [List.take_length, e1] at htk2 ⊢
  simp -implicitDefEqProofs only [bV.d, oS.d, J0, J1, J2, J3, J4, J5, J6, J7, ↓reduceIte, reduceCtorEq, hc, encsTy_length, encSubs_len, encFuns_len, encSigs_len, List.length_map]
  have hk1 := htk2
  refine loopI (α := Nat × Nat × List (List D)) (fun x => [(8, .one (.d (.int .i64 x.1))), (0, .one (.ptr 0 0)), (3, .one (.ptr 2 0)), (5, .one (.ptr 4 0)), (4, .one (.ptr 3 0))])
    (fun x => [.box [.own 1 x.2.1 A.length, .d (.sl (nums fr)), .d (.sl (nums to)), .d (.int .i64 (mapW (vamF tk (subF fr to) A) (s2.take x.1) w1).2.next), .d (.sl (nums tk)), .d (.sl (nums (mapW (vamF tk (subF fr to) A) (s2.take x.1) w1).2.free))], .arr false 2 x.2.1 (rws A (mapW (vamF tk (subF fr to) A) (s2.take x.1) w1).2.nums ++ x.2.2), .box [.d (.sl (s1.map encTym)), .d (.sl (s2.map encVam)), .d (.sl (encSt.subs s3)), .d (.sl (encSt.funs s4)), .d (.sl (encSt.sigs s5))], .box [.nils, .nils, .nils, .nils, .nils], .box [.own 5 s1.length s1.length, .own 6 x.1 x.1, .nils, .nils, .nils], .arr false 5 s1.length (r1.map encTym), .arr false 5 x.1 ((mapW (vamF tk (subF fr to) A) (s2.take x.1) w1).1.map encVam)])
    (fun x => x.1 ≤ s2.length) (fun x => s2.length - x.1) (0, v1, X1)
    (keepG [] [(4, 1, 5)] [0, 1, 2, 3, 4, 5, 6] _ rfl rfl (WkH.refl _) rfl rfl rfl ⟨⟨_, WkV.refl _, rfl⟩, ⟨_, WkV.refl _, rfl⟩, ⟨_, WkV.refl _, rfl⟩, ⟨_, WkV.refl _, rfl⟩, ⟨_, WkV.refl _, rfl⟩, trivial⟩) (Nat.zero_le _) ?_
  clear hw hi hl2 htk2 hp hbt
  rintro ⟨i, v1, X1⟩ hi
  simp only at hi
  dsimp only
  have hw := wrapA1 (a := i) rfl (by omega)
  have hl2 : ((mapW (vamF tk (subF fr to) A) (s2.take i) w1).1.map encVam).length = i := by rw [List.length_map, mapW_length, List.length_take]; omega
  have htk2 : ((mapW (vamF tk (subF fr to) A) (s2.take i) w1).1.map encVam).take i = (mapW (vamF tk (subF fr to) A) (s2.take i) w1).1.map encVam := List.take_of_length_le (by omega)
  have hp := bh_part2 (f := vamF tk (subF fr to) A) (c := vamn) (k := A.length) (l := s2) (fun x _ w _ => bh_vam x w) (i + 1) w1 hn1
  have hbt := bh_part2 (f := vamF tk (subF fr to) A) (c := vamn) (k := A.length) (l := s2) (fun x _ w _ => bh_vam x w) i w1 hn1
  rcases Nat.lt_or_ge i s2.length with h5 | h5
  case inl =>
    have hc : ((i : Int) < (s2.length : Int)) = True := by simp; omega
    obtain ⟨x, hx⟩ := rowOf h5
    have hgu : (s2.map encVam)[i]? = some (encVam x) := by rw [List.getElem?_map, hx]; rfl
    have hmu := sumN_mem (f := vamn) (List.mem_of_getElem? hx)
    have hsu := sumN_take (f := vamn) hx
    have hle := sumN_take_le (f := vamn) s2 (i + 1)
    have hmt := mapW_take (f := vamF tk (subF fr to) A) hx w1
    have hcap : (i + 1) * 64 ≤ maxBytes ∧ i + 1 ≤ maxBytes := by simp [maxBytes]; omega
    have hS1 := hbt.1.1.trans hn1
    have hS2 : (mapW (vamF tk (subF fr to) A) (s2.take i) w1).2.free.length ≤ w1.free.length + sumN vamn (s2.take i) := hbt.1.2.2
    have hS3 := Int.le_trans hz1 hbt.1.2.1
    have hS4 : (vamF tk (subF fr to) A x (mapW (vamF tk (subF fr to) A) (s2.take i) w1).2).2.next < 1000000000000000 := by have := hp.2; rw [hmt, e2] at this; simp only at this; omega
    generalize hW : (mapW (vamF tk (subF fr to) A) (s2.take i) w1).2 = S at hmt hS1 hS2 hS3 hS4 ⊢
    have t1 := vc_wtyp fr to tk v1 A X1 (by omega) hfr hto htk 99999999 x.s.t (by have := vamn_e x; omega) (by omega) S hS1 (by have := vamn_e x; omega) hS3 hS4
    simp only [vamF] at hmt
    generalize tyF tk (subF fr to) A x.s.t S = R at t1 hmt
    obtain ⟨⟨rk, rn, rl⟩, S2⟩ := R
    obtain ⟨xn, xg, ⟨xk, xi, xl⟩⟩ := x
    have e8 : (mapW (vamF tk (subF fr to) A) (s2.take i) w1).1.map encVam ++ [[.str xn, .int .i64 xg, .int .i64 rk, .int .i64 rn, .sl (encTy.encs rl)]] = (mapW (vamF tk (subF fr to) A) (s2.take (i + 1)) w1).1.map encVam := by rw [hmt]; simp [encTym, encVam, encSm, encFm, encFn, encSig, encSc, encTy, encSt]
    have e9 : S2 = (mapW (vamF tk (subF fr to) A) (s2.take (i + 1)) w1).2 := by rw [hmt]
    simp only [wb, wa] at t1
    simp only [encTym, encVam, encSm, encFm, encFn, encSig, encSc, encTy, encSt, stW, abW, tyV, List.cons_append, List.nil_append, List.map_cons, List.map_nil] at t1 hgu
    simp -implicitDefEqProofs only [bV.d, oS.d, J0, J1, J2, J3, J4, J5, J6, J7, ↓reduceIte, reduceCtorEq, hc, hgu, hcap, htk2, hw, encsTy_length, encSubs_len, encFuns_len, encSigs_len, List.length_map, Int.natCast_nonneg, Int.toNat_natCast]
    refine callS [0, 1] (t1) rfl rfl rfl ?_
    rintro _ _ ⟨rfl, rfl⟩
    refine ⟨_, _, rfl, ?_⟩
    simp -implicitDefEqProofs only [bV.d, oS.d, J0, J1, J2, J3, J4, J5, J6, J7, ↓reduceIte, reduceCtorEq, hc, hgu, hcap, htk2, hw, encsTy_length, encSubs_len, encFuns_len, encSigs_len, List.length_map, Int.natCast_nonneg, Int.toNat_natCast]
    rw [e8, e9]
    refine ⟨(i + 1, v1, X1), by show i + 1 ≤ s2.length; omega, by show s2.length - (i + 1) < s2.length - i; omega, ?_⟩
    exact (keepI [0, 1, 2, 3, 4, 5, 6] _ (WkH.refl _) rfl rfl rfl ⟨⟨_, WkV.refl _, rfl⟩, ⟨_, WkV.refl _, rfl⟩, ⟨_, WkV.refl _, rfl⟩, ⟨_, WkV.refl _, rfl⟩, ⟨_, WkV.refl _, rfl⟩, trivial⟩)
  have hc : ((i : Int) < (s2.length : Int)) = False := by simp; omega
  have hie : i = s2.length := by omega
  subst hie
  rw [List.take_length, e2] at htk2
  simp only [List.take_length, e2] at htk2 ⊢
  simp -implicitDefEqProofs only [bV.d, oS.d, J0, J1, J2, J3, J4, J5, J6, J7, ↓reduceIte, reduceCtorEq, hc, encsTy_length, encSubs_len, encFuns_len, encSigs_len, List.length_map]
  have hk2 := htk2
  refine loopI (α := Nat × Nat × List (List D)) (fun x => [(10, .one (.d (.int .i64 x.1))), (0, .one (.ptr 0 0)), (3, .one (.ptr 2 0)), (5, .one (.ptr 4 0)), (4, .one (.ptr 3 0))])
    (fun x => [.box [.own 1 x.2.1 A.length, .d (.sl (nums fr)), .d (.sl (nums to)), .d (.int .i64 (mapW (subE tk (subF fr to) A) (s3.take x.1) w2).2.next), .d (.sl (nums tk)), .d (.sl (nums (mapW (subE tk (subF fr to) A) (s3.take x.1) w2).2.free))], .arr false 2 x.2.1 (rws A (mapW (subE tk (subF fr to) A) (s3.take x.1) w2).2.nums ++ x.2.2), .box [.d (.sl (s1.map encTym)), .d (.sl (s2.map encVam)), .d (.sl (encSt.subs s3)), .d (.sl (encSt.funs s4)), .d (.sl (encSt.sigs s5))], .box [.nils, .nils, .nils, .nils, .nils], .box [.own 5 s1.length s1.length, .own 6 s2.length s2.length, .own 7 x.1 x.1, .nils, .nils], .arr false 5 s1.length (r1.map encTym), .arr false 5 s2.length (r2.map encVam), .arr false 6 x.1 ((mapW (subE tk (subF fr to) A) (s3.take x.1) w2).1.map encSm)])
    (fun x => x.1 ≤ s3.length) (fun x => s3.length - x.1) (0, v1, X1)
    (keepG [] [(4, 2, 6)] [0, 1, 2, 3, 4, 5, 6, 7] _ rfl rfl (WkH.refl _) rfl rfl rfl ⟨⟨_, WkV.refl _, rfl⟩, ⟨_, WkV.refl _, rfl⟩, ⟨_, WkV.refl _, rfl⟩, ⟨_, WkV.refl _, rfl⟩, ⟨_, WkV.refl _, rfl⟩, trivial⟩) (Nat.zero_le _) ?_
  clear hw hi hl2 htk2 hp hbt
  rintro ⟨i, v1, X1⟩ hi
  simp only at hi
  dsimp only
  have hw := wrapA1 (a := i) rfl (by omega)
  have hl2 : ((mapW (subE tk (subF fr to) A) (s3.take i) w2).1.map encSm).length = i := by rw [List.length_map, mapW_length, List.length_take]; omega
  have htk2 : ((mapW (subE tk (subF fr to) A) (s3.take i) w2).1.map encSm).take i = (mapW (subE tk (subF fr to) A) (s3.take i) w2).1.map encSm := List.take_of_length_le (by omega)
  have hp := bh_part2 (f := subE tk (subF fr to) A) (c := subz) (k := A.length) (l := s3) (fun x _ w hw => (bh_str x.2 A w hw).mono (by rw [subz_e]; omega)) (i + 1) w2 hn2
  have hbt := bh_part2 (f := subE tk (subF fr to) A) (c := subz) (k := A.length) (l := s3) (fun x _ w hw => (bh_str x.2 A w hw).mono (by rw [subz_e]; omega)) i w2 hn2
  rcases Nat.lt_or_ge i s3.length with h5 | h5
  case inl =>
    have hc : ((i : Int) < (s3.length : Int)) = True := by simp; omega
    obtain ⟨x, hx⟩ := rowOf h5
    have hgu : (encSt.subs s3)[i]? = some (encSm x) := by rw [encSubs_s]; rw [List.getElem?_map, hx]; rfl
    have hmu := sumN_mem (f := subz) (List.mem_of_getElem? hx)
    have hsu := sumN_take (f := subz) hx
    have hle := sumN_take_le (f := subz) s3 (i + 1)
    have hmt := mapW_take (f := subE tk (subF fr to) A) hx w2
    have hcap : (i + 1) * 136 ≤ maxBytes ∧ i + 1 ≤ maxBytes := by simp [maxBytes]; omega
    have hS1 := hbt.1.1.trans hn2
    have hS2 : (mapW (subE tk (subF fr to) A) (s3.take i) w2).2.free.length ≤ w2.free.length + sumN subz (s3.take i) := hbt.1.2.2
    have hS3 := Int.le_trans hz2 hbt.1.2.1
    have hS4 : (subE tk (subF fr to) A x (mapW (subE tk (subF fr to) A) (s3.take i) w2).2).2.next < 1000000000000000 := by have := hp.2; rw [hmt, e3] at this; simp only at this; omega
    generalize hW : (mapW (subE tk (subF fr to) A) (s3.take i) w2).2 = S at hmt hS1 hS2 hS3 hS4 ⊢
    have t1 := H3 x (List.mem_of_getElem? hx) A S v1 X1 hS1 (by have := subz_e x; omega) (by have := subz_e x; omega) hS3 hS4
    simp only [subE] at hmt
    generalize strF tk (subF fr to) A x.2 S = R at t1 hmt
    obtain ⟨⟨m1, m2, m3, m4, m5⟩, S2⟩ := R
    obtain ⟨xn, ⟨x1, x2, x3, x4, x5⟩⟩ := x
    have e8 : (mapW (subE tk (subF fr to) A) (s3.take i) w2).1.map encSm ++ [[.str xn, .sl (m1.map encTym), .sl (m2.map encVam), .sl (encSt.subs m3), .sl (encSt.funs m4), .sl (encSt.sigs m5)]] = (mapW (subE tk (subF fr to) A) (s3.take (i + 1)) w2).1.map encSm := by rw [hmt]; simp [encTym, encVam, encSm, encFm, encFn, encSig, encSc, encTy, encSt]
    have e9 : S2 = (mapW (subE tk (subF fr to) A) (s3.take (i + 1)) w2).2 := by rw [hmt]
    simp only [wb, wa] at t1
    simp only [encTym, encVam, encSm, encFm, encFn, encSig, encSc, encTy, encSt, stW, abW, tyV, List.cons_append, List.nil_append, List.map_cons, List.map_nil] at t1 hgu
    simp -implicitDefEqProofs only [bV.d, oS.d, J0, J1, J2, J3, J4, J5, J6, J7, ↓reduceIte, reduceCtorEq, hc, hgu, hcap, htk2, hw, encsTy_length, encSubs_len, encFuns_len, encSigs_len, List.length_map, Int.natCast_nonneg, Int.toNat_natCast]
    refine callS [0, 1] (t1) rfl rfl rfl ?_
    rintro _ _ ⟨rfl, v2, X2, rfl⟩
    refine ⟨_, _, rfl, ?_⟩
    simp -implicitDefEqProofs only [bV.d, oS.d, J0, J1, J2, J3, J4, J5, J6, J7, ↓reduceIte, reduceCtorEq, hc, hgu, hcap, htk2, hw, encsTy_length, encSubs_len, encFuns_len, encSigs_len, List.length_map, Int.natCast_nonneg, Int.toNat_natCast]
    rw [e8, e9]
    refine ⟨(i + 1, v2, X2), by show i + 1 ≤ s3.length; omega, by show s3.length - (i + 1) < s3.length - i; omega, ?_⟩
    exact (keepI [0, 1, 2, 3, 4, 5, 6, 7] _ (WkH.refl _) rfl rfl rfl ⟨⟨_, WkV.refl _, rfl⟩, ⟨_, WkV.refl _, rfl⟩, ⟨_, WkV.refl _, rfl⟩, ⟨_, WkV.refl _, rfl⟩, ⟨_, WkV.refl _, rfl⟩, trivial⟩)
  have hc : ((i : Int) < (s3.length : Int)) = False := by simp; omega
  have hie : i = s3.length := by omega
  subst hie
  rw [List.take_length, e3] at htk2
  simp only [List.take_length, e3] at htk2 ⊢
  simp -implicitDefEqProofs only [bV.d, oS.d, J0, J1, J2, J3, J4, J5, J6, J7, ↓reduceIte, reduceCtorEq, hc, encsTy_length, encSubs_len, encFuns_len, encSigs_len, List.length_map]
  have hk3 := htk2
  refine loopI (α := Nat × Nat × List (List D)) (fun x => [(11, .one (.d (.int .i64 x.1))), (0, .one (.ptr 0 0)), (3, .one (.ptr 2 0)), (5, .one (.ptr 4 0)), (4, .one (.ptr 3 0))])
    (fun x => [.box [.own 1 x.2.1 A.length, .d (.sl (nums fr)), .d (.sl (nums to)), .d (.int .i64 (mapW (funE tk (subF fr to) A) (s4.take x.1) w3).2.next), .d (.sl (nums tk)), .d (.sl (nums (mapW (funE tk (subF fr to) A) (s4.take x.1) w3).2.free))], .arr false 2 x.2.1 (rws A (mapW (funE tk (subF fr to) A) (s4.take x.1) w3).2.nums ++ x.2.2), .box [.d (.sl (s1.map encTym)), .d (.sl (s2.map encVam)), .d (.sl (encSt.subs s3)), .d (.sl (encSt.funs s4)), .d (.sl (encSt.sigs s5))], .box [.nils, .nils, .nils, .nils, .nils], .box [.own 5 s1.length s1.length, .own 6 s2.length s2.length, .own 7 s3.length s3.length, .own 8 x.1 x.1, .nils], .arr false 5 s1.length (r1.map encTym), .arr false 5 s2.length (r2.map encVam), .arr false 6 s3.length (r3.map encSm), .arr false 13 x.1 ((mapW (funE tk (subF fr to) A) (s4.take x.1) w3).1.map encFm)])
    (fun x => x.1 ≤ s4.length) (fun x => s4.length - x.1) (0, v1, X1)
    (keepG [] [(4, 3, 13)] [0, 1, 2, 3, 4, 5, 6, 7, 8] _ rfl rfl (WkH.refl _) rfl rfl rfl ⟨⟨_, WkV.refl _, rfl⟩, ⟨_, WkV.refl _, rfl⟩, ⟨_, WkV.refl _, rfl⟩, ⟨_, WkV.refl _, rfl⟩, ⟨_, WkV.refl _, rfl⟩, trivial⟩) (Nat.zero_le _) ?_
  clear hw hi hl2 htk2 hp hbt
  rintro ⟨i, v1, X1⟩ hi
  simp only at hi
  dsimp only
  have hw := wrapA1 (a := i) rfl (by omega)
  have hl2 : ((mapW (funE tk (subF fr to) A) (s4.take i) w3).1.map encFm).length = i := by rw [List.length_map, mapW_length, List.length_take]; omega
  have htk2 : ((mapW (funE tk (subF fr to) A) (s4.take i) w3).1.map encFm).take i = (mapW (funE tk (subF fr to) A) (s4.take i) w3).1.map encFm := List.take_of_length_le (by omega)
  have hp := bh_part2 (f := funE tk (subF fr to) A) (c := funz) (k := A.length) (l := s4) (fun x _ w hw => (bh_fn x.2 w hw).mono (by rw [funz_e]; omega)) (i + 1) w3 hn3
  have hbt := bh_part2 (f := funE tk (subF fr to) A) (c := funz) (k := A.length) (l := s4) (fun x _ w hw => (bh_fn x.2 w hw).mono (by rw [funz_e]; omega)) i w3 hn3
  rcases Nat.lt_or_ge i s4.length with h5 | h5
  case inl =>
    have hc : ((i : Int) < (s4.length : Int)) = True := by simp; omega
    obtain ⟨x, hx⟩ := rowOf h5
    have hgu : (encSt.funs s4)[i]? = some (encFm x) := by rw [encFuns_m]; rw [List.getElem?_map, hx]; rfl
    have hmu := sumN_mem (f := funz) (List.mem_of_getElem? hx)
    have hsu := sumN_take (f := funz) hx
    have hle := sumN_take_le (f := funz) s4 (i + 1)
    have hmt := mapW_take (f := funE tk (subF fr to) A) hx w3
    have hcap : (i + 1) * 304 ≤ maxBytes ∧ i + 1 ≤ maxBytes := by simp [maxBytes]; omega
    have hS1 := hbt.1.1.trans hn3
    have hS2 : (mapW (funE tk (subF fr to) A) (s4.take i) w3).2.free.length ≤ w3.free.length + sumN funz (s4.take i) := hbt.1.2.2
    have hS3 := Int.le_trans hz3 hbt.1.2.1
    have hS4 : (funE tk (subF fr to) A x (mapW (funE tk (subF fr to) A) (s4.take i) w3).2).2.next < 1000000000000000 := by have := hp.2; rw [hmt, e4] at this; simp only at this; omega
    generalize hW : (mapW (funE tk (subF fr to) A) (s4.take i) w3).2 = S at hmt hS1 hS2 hS3 hS4 ⊢
    have t1 := vc_wfun fr to tk (H4 x (List.mem_of_getElem? hx)).1 (H4 x (List.mem_of_getElem? hx)).2 x.2.1 x.2.2.2.1 A S v1 X1 hS1 (by have := funz_e x; omega) (by have := funz_e x; omega) hS3 hS4
    simp only [funE] at hmt
    have hxe : (x.2.1, x.2.2.1, x.2.2.2.1, x.2.2.2.2) = x.2 := rfl
    rw [hxe] at t1
    generalize fnF tk (subF fr to) A x.2 S = R at t1 hmt
    obtain ⟨⟨p1, ⟨m1, m2, m3, m4, m5⟩, p2, ⟨n1, n2, n3, n4, n5⟩⟩, S2⟩ := R
    obtain ⟨xn, xp, ⟨x1, x2, x3, x4, x5⟩, xq, ⟨y1, y2, y3, y4, y5⟩⟩ := x
    clear hxe
    have e8 : (mapW (funE tk (subF fr to) A) (s4.take i) w3).1.map encFm ++ [[.str xn, .sl (nums p1), .sl (m1.map encTym), .sl (m2.map encVam), .sl (encSt.subs m3), .sl (encSt.funs m4), .sl (encSt.sigs m5), .sl (nums p2), .sl (n1.map encTym), .sl (n2.map encVam), .sl (encSt.subs n3), .sl (encSt.funs n4), .sl (encSt.sigs n5)]] = (mapW (funE tk (subF fr to) A) (s4.take (i + 1)) w3).1.map encFm := by rw [hmt]; simp [encTym, encVam, encSm, encFm, encFn, encSig, encSc, encTy, encSt]
    have e9 : S2 = (mapW (funE tk (subF fr to) A) (s4.take (i + 1)) w3).2 := by rw [hmt]
    simp only [wb, wa] at t1
    simp only [encTym, encVam, encSm, encFm, encFn, encSig, encSc, encTy, encSt, stW, abW, tyV, List.cons_append, List.nil_append, List.map_cons, List.map_nil] at t1 hgu
    simp -implicitDefEqProofs only [bV.d, oS.d, J0, J1, J2, J3, J4, J5, J6, J7, ↓reduceIte, reduceCtorEq, hc, hgu, hcap, htk2, hw, encsTy_length, encSubs_len, encFuns_len, encSigs_len, List.length_map, Int.natCast_nonneg, Int.toNat_natCast]
    refine callS [0, 1] (t1) rfl rfl rfl ?_
    rintro _ _ ⟨rfl, v2, X2, rfl⟩
    refine ⟨_, _, rfl, ?_⟩
    simp -implicitDefEqProofs only [bV.d, oS.d, J0, J1, J2, J3, J4, J5, J6, J7, ↓reduceIte, reduceCtorEq, hc, hgu, hcap, htk2, hw, encsTy_length, encSubs_len, encFuns_len, encSigs_len, List.length_map, Int.natCast_nonneg, Int.toNat_natCast]
    rw [e8, e9]
    refine ⟨(i + 1, v2, X2), by show i + 1 ≤ s4.length; omega, by show s4.length - (i + 1) < s4.length - i; omega, ?_⟩
    exact (keepI [0, 1, 2, 3, 4, 5, 6, 7, 8] _ (WkH.refl _) rfl rfl rfl ⟨⟨_, WkV.refl _, rfl⟩, ⟨_, WkV.refl _, rfl⟩, ⟨_, WkV.refl _, rfl⟩, ⟨_, WkV.refl _, rfl⟩, ⟨_, WkV.refl _, rfl⟩, trivial⟩)
  have hc : ((i : Int) < (s4.length : Int)) = False := by simp; omega
  have hie : i = s4.length := by omega
  subst hie
  rw [List.take_length, e4] at htk2
  simp only [List.take_length, e4] at htk2 ⊢
  simp -implicitDefEqProofs only [bV.d, oS.d, J0, J1, J2, J3, J4, J5, J6, J7, ↓reduceIte, reduceCtorEq, hc, encsTy_length, encSubs_len, encFuns_len, encSigs_len, List.length_map]
  have hk4 := htk2
  refine loopI (α := Nat × Nat × List (List D)) (fun x => [(12, .one (.d (.int .i64 x.1))), (0, .one (.ptr 0 0)), (3, .one (.ptr 2 0)), (5, .one (.ptr 4 0)), (4, .one (.ptr 3 0))])
    (fun x => [.box [.own 1 x.2.1 A.length, .d (.sl (nums fr)), .d (.sl (nums to)), .d (.int .i64 (mapW (sigE tk (subF fr to) A) (s5.take x.1) w4).2.next), .d (.sl (nums tk)), .d (.sl (nums (mapW (sigE tk (subF fr to) A) (s5.take x.1) w4).2.free))], .arr false 2 x.2.1 (rws A (mapW (sigE tk (subF fr to) A) (s5.take x.1) w4).2.nums ++ x.2.2), .box [.d (.sl (s1.map encTym)), .d (.sl (s2.map encVam)), .d (.sl (encSt.subs s3)), .d (.sl (encSt.funs s4)), .d (.sl (encSt.sigs s5))], .box [.nils, .nils, .nils, .nils, .nils], .box [.own 5 s1.length s1.length, .own 6 s2.length s2.length, .own 7 s3.length s3.length, .own 8 s4.length s4.length, .own 9 x.1 x.1], .arr false 5 s1.length (r1.map encTym), .arr false 5 s2.length (r2.map encVam), .arr false 6 s3.length (r3.map encSm), .arr false 13 s4.length (r4.map encFm), .arr false 7 x.1 ((mapW (sigE tk (subF fr to) A) (s5.take x.1) w4).1.map encSig)])
    (fun x => x.1 ≤ s5.length) (fun x => s5.length - x.1) (0, v1, X1)
    (keepG [] [(4, 4, 7)] [0, 1, 2, 3, 4, 5, 6, 7, 8, 9] _ rfl rfl (WkH.refl _) rfl rfl rfl ⟨⟨_, WkV.refl _, rfl⟩, ⟨_, WkV.refl _, rfl⟩, ⟨_, WkV.refl _, rfl⟩, ⟨_, WkV.refl _, rfl⟩, ⟨_, WkV.refl _, rfl⟩, trivial⟩) (Nat.zero_le _) ?_
  clear hw hi hl2 htk2 hp hbt
  rintro ⟨i, v1, X1⟩ hi
  simp only at hi
  dsimp only
  have hw := wrapA1 (a := i) rfl (by omega)
  have hl2 : ((mapW (sigE tk (subF fr to) A) (s5.take i) w4).1.map encSig).length = i := by rw [List.length_map, mapW_length, List.length_take]; omega
  have htk2 : ((mapW (sigE tk (subF fr to) A) (s5.take i) w4).1.map encSig).take i = (mapW (sigE tk (subF fr to) A) (s5.take i) w4).1.map encSig := List.take_of_length_le (by omega)
  have hp := bh_part2 (f := sigE tk (subF fr to) A) (c := sigz) (k := A.length) (l := s5) (fun x _ w hw => (bh_abs x.2 w hw).mono (by rw [sigz_e]; omega)) (i + 1) w4 hn4
  have hbt := bh_part2 (f := sigE tk (subF fr to) A) (c := sigz) (k := A.length) (l := s5) (fun x _ w hw => (bh_abs x.2 w hw).mono (by rw [sigz_e]; omega)) i w4 hn4
  rcases Nat.lt_or_ge i s5.length with h5 | h5
  case inl =>
    have hc : ((i : Int) < (s5.length : Int)) = True := by simp; omega
    obtain ⟨x, hx⟩ := rowOf h5
    have hgu : (encSt.sigs s5)[i]? = some (encSig x) := by rw [encSigs_m]; rw [List.getElem?_map, hx]; rfl
    have hmu := sumN_mem (f := sigz) (List.mem_of_getElem? hx)
    have hsu := sumN_take (f := sigz) hx
    have hle := sumN_take_le (f := sigz) s5 (i + 1)
    have hmt := mapW_take (f := sigE tk (subF fr to) A) hx w4
    have hcap : (i + 1) * 160 ≤ maxBytes ∧ i + 1 ≤ maxBytes := by simp [maxBytes]; omega
    have hS1 := hbt.1.1.trans hn4
    have hS2 : (mapW (sigE tk (subF fr to) A) (s5.take i) w4).2.free.length ≤ w4.free.length + sumN sigz (s5.take i) := hbt.1.2.2
    have hS3 := Int.le_trans hz4 hbt.1.2.1
    have hS4 : (sigE tk (subF fr to) A x (mapW (sigE tk (subF fr to) A) (s5.take i) w4).2).2.next < 1000000000000000 := by have := hp.2; rw [hmt, e5] at this; simp only at this; omega
    generalize hW : (mapW (sigE tk (subF fr to) A) (s5.take i) w4).2 = S at hmt hS1 hS2 hS3 hS4 ⊢
    have t1 := vc_wabs fr to tk (H5 x (List.mem_of_getElem? hx)) x.2.1 A S v1 X1 hS1 (by have := sigz_e x; omega) (by have := sigz_e x; omega) hS3 hS4
    simp only [sigE] at hmt
    have hxe : (x.2.1, x.2.2) = x.2 := rfl
    rw [hxe] at t1
    generalize absF tk (subF fr to) A x.2 S = R at t1 hmt
    obtain ⟨⟨p1, ⟨m1, m2, m3, m4, m5⟩⟩, S2⟩ := R
    obtain ⟨xn, xp, ⟨x1, x2, x3, x4, x5⟩⟩ := x
    clear hxe
    have e8 : (mapW (sigE tk (subF fr to) A) (s5.take i) w4).1.map encSig ++ [[.str xn, .sl (nums p1), .sl (m1.map encTym), .sl (m2.map encVam), .sl (encSt.subs m3), .sl (encSt.funs m4), .sl (encSt.sigs m5)]] = (mapW (sigE tk (subF fr to) A) (s5.take (i + 1)) w4).1.map encSig := by rw [hmt]; simp [encTym, encVam, encSm, encFm, encFn, encSig, encSc, encTy, encSt]
    have e9 : S2 = (mapW (sigE tk (subF fr to) A) (s5.take (i + 1)) w4).2 := by rw [hmt]
    simp only [wb, wa] at t1
    simp only [encTym, encVam, encSm, encFm, encFn, encSig, encSc, encTy, encSt, stW, abW, tyV, List.cons_append, List.nil_append, List.map_cons, List.map_nil] at t1 hgu
    simp -implicitDefEqProofs only [bV.d, oS.d, J0, J1, J2, J3, J4, J5, J6, J7, ↓reduceIte, reduceCtorEq, hc, hgu, hcap, htk2, hw, encsTy_length, encSubs_len, encFuns_len, encSigs_len, List.length_map, Int.natCast_nonneg, Int.toNat_natCast]
    refine callS [0, 1] (t1) rfl rfl rfl ?_
    rintro _ _ ⟨rfl, v2, X2, rfl⟩
    refine ⟨_, _, rfl, ?_⟩
    simp -implicitDefEqProofs only [bV.d, oS.d, J0, J1, J2, J3, J4, J5, J6, J7, ↓reduceIte, reduceCtorEq, hc, hgu, hcap, htk2, hw, encsTy_length, encSubs_len, encFuns_len, encSigs_len, List.length_map, Int.natCast_nonneg, Int.toNat_natCast]
    rw [e8, e9]
    refine ⟨(i + 1, v2, X2), by show i + 1 ≤ s5.length; omega, by show s5.length - (i + 1) < s5.length - i; omega, ?_⟩
    exact (keepI [0, 1, 2, 3, 4, 5, 6, 7, 8, 9] _ (WkH.refl _) rfl rfl rfl ⟨⟨_, WkV.refl _, rfl⟩, ⟨_, WkV.refl _, rfl⟩, ⟨_, WkV.refl _, rfl⟩, ⟨_, WkV.refl _, rfl⟩, ⟨_, WkV.refl _, rfl⟩, trivial⟩)
  have hc : ((i : Int) < (s5.length : Int)) = False := by simp; omega
  have hie : i = s5.length := by omega
  subst hie
  rw [List.take_length, e5] at htk2
  simp only [List.take_length, e5] at htk2 ⊢
  simp -implicitDefEqProofs only [bV.d, oS.d, J0, J1, J2, J3, J4, J5, J6, J7, ↓reduceIte, reduceCtorEq, hc, encsTy_length, encSubs_len, encFuns_len, encSigs_len, List.length_map]
  have hk5 := htk2
  apply vend_of [0, 1]
  · simp only [vres, lk_cons, Nat.reduceBEq, cond_true, cond_false, ti102, ti120, ti122, ti131, ti136, ti23, ti24, ti25, ti26, ti27, ti29, ti3, ti31, ti9, vload, List.getElem?_cons_succ, List.getElem?_cons_zero, mkV, List.drop_zero, List.length_cons, List.length_nil, Nat.reduceAdd, Nat.le_refl, if_true, List.take_succ_cons, List.take_zero, List.map_cons, List.map_nil, Nat.reduceLeDiff]; rfl
  · first | rfl | (simp [fin, nodup, handO, lendR, lendV, lendLs, lendL, idx, vone, renL, lendVs, renO, renL.renLs]; first | exact ⟨rfl, rfl⟩ | exact ⟨rfl, rfl, rfl⟩)
  rw [hk1, hk2, hk3, hk4, hk5, encSubs_s, encFuns_m, encSigs_m]
  exact ⟨rfl, v1, X1, rfl⟩

theorem vc_wstr (fr to tk : List Int) (hfr : fr.length < 1000000000) (hto : to.length < 1000000000) (htk : tk.length < 1000000000) : ∀ (s : Stx), stn s < 90000000 → StrOk fr to tk s := by
  intro s
  induction s using Stx.ind with
  | h ts vs ss fs gs i1 i2 i3 =>
  intro hs
  have hs' := hs
  simp only [stn] at hs'
  refine vc_wstr_of fr to tk hfr hto htk ts vs ss fs gs hs (fun x hx => i1 x hx ?_) (fun x hx => ⟨(i2 x hx).1 ?_, (i2 x hx).2 ?_⟩) (fun x hx => i3 x hx ?_)
  · have := stn_mem hx; omega
  · have := stn_memF hx; omega
  · have := stn_memF hx; omega
  · have := stn_memG hx; omega

end Go.Vt.Tryz
set_option maxRecDepth 100000
set_option linter.unusedSimpArgs false
namespace Go.Vt.Tryz
open Go.Vt renaming vslice → J0
open Nat renaming reduceBEq → J1, reduceEqDiff → J2, reduceLT → J3, reduceLeDiff → J4, reduceAdd → J5, reduceMul → J6, reduceSub → J7
open Go.Proofs Go.Vt.Al

theorem ba_get (s : ByteArray) (i : Nat) : s[i]? = s.data.toList[i]? := by
  by_cases h : i < s.size
  · have h2 : i < s.data.toList.length := by simpa using h
    rw [getElem?_pos s i h, List.getElem?_eq_getElem h2]
    rfl
  · have h2 : ¬ i < s.data.toList.length := by simpa using h
    rw [getElem?_neg s i h, List.getElem?_eq_none (by omega)]

def vix : L → Int → Option V
  | .d (.str s), n => if 0 ≤ n then (match s[n.toNat]? with | some b => some (.one (.d (.int .u8 b.toNat))) | none => none) else none
  | _, _ => none
theorem vix_str {s : ByteArray} {n : Nat} {b : UInt8} (hb : s[n]? = some b) : vix (.d (.str s)) (n : Int) = some (.one (.d (.int .u8 b.toNat))) := by
  simp only [vix, Int.natCast_nonneg, if_true, Int.toNat_natCast, hb]

theorem so_index {P : Program} {T : Sl} {h : AHeap} {K : Kn (V × AHeap)} {t : TypeId} {x ix : Operand} {i : TI} (ht : ti P t = some i) (hk : i.kd = .str) :
    @vstepI P T h (.index t x ix) K = @obI _ ((asL (opd T x)).bind fun l => (asI (opd T ix)).bind fun q => (vix l q.2).map fun v => (v, h)) K :=
  so_of (by
    simp only [vop, mkO, ht]
    rcases opd T x with _ | ⟨l | ls | _⟩ <;> first | rfl | skip
    rotate_left
    · have hv : ∀ n, velem i n (.agg ls) = none := fun n => by unfold velem; simp only [hk]; split <;> rfl
      rcases opd T ix with _ | ⟨m | _ | _⟩ <;> first | rfl | skip
      rcases m with ⟨_ | ⟨k, n⟩ | _ | _ | _⟩ | _ | _ | _ | _ | _ | _ | _ | _ | _ | _ | _ <;> first | rfl | skip
      simp only [hv]
      rfl
    rcases opd T ix with _ | ⟨m | _ | _⟩
    · rcases l with ⟨_ | _ | _ | _ | _⟩ | _ | _ | _ | _ | _ | _ | _ | _ | _ | _ | _ | _ <;> rfl
    · rcases m with ⟨_ | ⟨k, n⟩ | _ | _ | _⟩ | _ | _ | _ | _ | _ | _ | _ | _ | _ | _ | _ | _ <;> rcases l with ⟨_ | _ | s | _ | _⟩ | _ | _ | _ | _ | _ | _ | _ | _ | _ | _ | _ | _ <;> first | rfl | skip
      simp only [hk, asL, asI, Option.bind_some, vix]
      split
      · cases s[n.toNat]? <;> rfl
      · rfl
    · rcases l with ⟨_ | _ | _ | _ | _⟩ | _ | _ | _ | _ | _ | _ | _ | _ | _ | _ | _ | _ <;> rfl
    · rcases l with ⟨_ | _ | _ | _ | _⟩ | _ | _ | _ | _ | _ | _ | _ | _ | _ | _ | _ | _ <;> rfl) rfl (by simp [vother, mkO])

def cmpL : List UInt8 → List UInt8 → Int
  | [], [] => 0
  | [], _ :: _ => -1
  | _ :: _, [] => 1
  | x :: a, y :: b => if x.toNat < y.toNat then -1 else if y.toNat < x.toNat then 1 else cmpL a b

def ltN (a b : ByteArray) : Bool := decide (cmpL a.data.toList b.data.toList < 0)

theorem drop_cons {α : Type} {l : List α} {i : Nat} {x : α} (h : l[i]? = some x) : l.drop i = x :: l.drop (i + 1) := by
  have hl := (List.getElem?_eq_some_iff.1 h).1
  rw [List.drop_eq_getElem_cons hl]
  rw [List.getElem?_eq_getElem hl] at h
  rw [Option.some.inj h]

theorem vc_ncmp (a b : ByteArray) (ha : a.size < 100000000000) (hb : b.size < 100000000000) : VC Tryz.prog 60 [.one (.d (.str a)), .one (.d (.str b))] [] fun r h' => r = .one (.d (.int .i64 (cmpL a.data.toList b.data.toList))) ∧ h' = [] := by
  have sa : a.data.toList.length = a.size := by simp
  have sb : b.data.toList.length = b.size := by simp
  refine VC_of_fn mixed fn60 (by simp) ?_
  show vwp Tryz.prog 0 vc60 _ [(0, .one (.d (.str a))), (1, .one (.d (.str b)))] []
  unfold vc60
  rw [vwpI_eq]
  simp -implicitDefEqProofs only [bV.d, oS.d, J0, J1, J2, J3, J4, J5, J6, J7, ↓reduceIte, reduceCtorEq]
  refine loopI (α := Nat) (fun i => [(5, .one (.d (.int .i64 i))), (0, .one (.d (.str a))), (1, .one (.d (.str b)))]) (fun _ => [])
    (fun i => i ≤ a.size ∧ i ≤ b.size ∧ cmpL a.data.toList b.data.toList = cmpL (a.data.toList.drop i) (b.data.toList.drop i)) (fun i => a.size - i) 0
    (keepI [] _ (WkH.refl _) rfl rfl rfl ⟨⟨_, WkV.refl _, rfl⟩, ⟨_, WkV.refl _, rfl⟩, ⟨_, WkV.refl _, rfl⟩, trivial⟩) ⟨Nat.zero_le _, Nat.zero_le _, rfl⟩ ?_
  rintro i ⟨hi1, hi2, hc⟩
  rcases Nat.lt_or_ge i a.size with h1 | h1
  · have e1 : ((i : Int) < (a.size : Int)) = True := by simp; omega
    rcases Nat.lt_or_ge i b.size with h2 | h2
    · have e2 : ((i : Int) < (b.size : Int)) = True := by simp; omega
      obtain ⟨x, hx⟩ := rowOf (l := a.data.toList) (i := i) (by omega)
      obtain ⟨y, hy⟩ := rowOf (l := b.data.toList) (i := i) (by omega)
      have gx := (ba_get a i).trans hx
      have gy := (ba_get b i).trans hy
      rw [drop_cons hx, drop_cons hy, cmpL] at hc
      rcases Nat.lt_trichotomy x.toNat y.toNat with h3 | h3 | h3
      · have e3 : ((x.toNat : Int) < (y.toNat : Int)) = True := by simp; omega
        rw [if_pos h3] at hc
        simp -implicitDefEqProofs only [bV.d, oS.d, J0, J1, J2, J3, J4, J5, J6, J7, ↓reduceIte, reduceCtorEq, e1, e2, e3, so_index ti9 rfl, vix_str gx, vix_str gy]
        apply vend_of []; rfl; rfl
        exact ⟨by rw [hc], rfl⟩
      · have e3 : ((x.toNat : Int) < (y.toNat : Int)) = False := by simp; omega
        have e4 : ((y.toNat : Int) < (x.toNat : Int)) = False := by simp; omega
        rw [if_neg (by omega), if_neg (by omega)] at hc
        have hw := wrapA1 (a := i) rfl (by omega)
        simp -implicitDefEqProofs only [bV.d, oS.d, J0, J1, J2, J3, J4, J5, J6, J7, ↓reduceIte, reduceCtorEq, e1, e2, e3, e4, so_index ti9 rfl, vix_str gx, vix_str gy, hw]
        refine ⟨i + 1, ⟨by omega, by omega, hc⟩, by omega, ?_⟩
        exact (keepI [] _ (WkH.refl _) rfl rfl rfl ⟨⟨_, WkV.refl _, rfl⟩, ⟨_, WkV.refl _, rfl⟩, ⟨_, WkV.refl _, rfl⟩, trivial⟩)
      · have e3 : ((x.toNat : Int) < (y.toNat : Int)) = False := by simp; omega
        have e4 : ((y.toNat : Int) < (x.toNat : Int)) = True := by simp; omega
        rw [if_neg (by omega), if_pos h3] at hc
        simp -implicitDefEqProofs only [bV.d, oS.d, J0, J1, J2, J3, J4, J5, J6, J7, ↓reduceIte, reduceCtorEq, e1, e2, e3, e4, so_index ti9 rfl, vix_str gx, vix_str gy]
        apply vend_of []; rfl; rfl
        exact ⟨by rw [hc], rfl⟩
    · have e2 : ((i : Int) < (b.size : Int)) = False := by simp; omega
      have e5 : ((a.size : Int) < (b.size : Int)) = False := by simp; omega
      have e6 : ((b.size : Int) < (a.size : Int)) = True := by simp; omega
      obtain ⟨x, hx⟩ := rowOf (l := a.data.toList) (i := i) (by omega)
      rw [drop_cons hx, List.drop_of_length_le (l := b.data.toList) (by omega)] at hc
      simp -implicitDefEqProofs only [bV.d, oS.d, J0, J1, J2, J3, J4, J5, J6, J7, ↓reduceIte, reduceCtorEq, e1, e2, e5, e6]
      apply vend_of []; rfl; rfl
      exact ⟨by rw [hc]; try rfl, rfl⟩
  · have e1 : ((i : Int) < (a.size : Int)) = False := by simp; omega
    rw [List.drop_of_length_le (l := a.data.toList) (by omega)] at hc
    rcases Nat.lt_or_ge i b.size with h2 | h2
    · have e5 : ((a.size : Int) < (b.size : Int)) = True := by simp; omega
      obtain ⟨y, hy⟩ := rowOf (l := b.data.toList) (i := i) (by omega)
      rw [drop_cons hy] at hc
      simp -implicitDefEqProofs only [bV.d, oS.d, J0, J1, J2, J3, J4, J5, J6, J7, ↓reduceIte, reduceCtorEq, e1, e5]
      apply vend_of []; rfl; rfl
      exact ⟨by rw [hc]; try rfl, rfl⟩
    · have e5 : ((a.size : Int) < (b.size : Int)) = False := by simp; omega
      have e6 : ((b.size : Int) < (a.size : Int)) = False := by simp; omega
      rw [List.drop_of_length_le (l := b.data.toList) (by omega)] at hc
      simp -implicitDefEqProofs only [bV.d, oS.d, J0, J1, J2, J3, J4, J5, J6, J7, ↓reduceIte, reduceCtorEq, e1, e5, e6]
      apply vend_of []; rfl; rfl
      exact ⟨by rw [hc]; try rfl, rfl⟩


theorem insR_app {α : Type} {lt : ByteArray → ByteArray → Bool} {nm : α → ByteArray} {x : α} : ∀ {a b : List α}, (∀ y ∈ a, lt (nm x) (nm y) = true) → insR lt nm x (a ++ b) = a ++ insR lt nm x b
  | [], _, _ => rfl
  | y :: a, b, h => by
    rw [List.cons_append, insR, if_pos (h y (by simp)), insR_app (fun z hz => h z (by simp [hz]))]
    rfl

theorem ins_at {α : Type} {lt : ByteArray → ByteArray → Bool} {nm : α → ByteArray} {x : α} {l : List α} {k : Nat} (h1 : ∀ y ∈ l.drop k, lt (nm x) (nm y) = true) (h2 : ∀ y, 0 < k → l[k - 1]? = some y → ¬ lt (nm x) (nm y) = true) (hk : k ≤ l.length) : l.take k ++ x :: l.drop k = (insR lt nm x l.reverse).reverse := by
  conv => rhs; rw [← List.take_append_drop k l, List.reverse_append]
  rw [insR_app (fun y hy => h1 y (List.mem_reverse.1 hy)), List.reverse_append, List.reverse_reverse]
  have hb : insR lt nm x (l.take k).reverse = x :: (l.take k).reverse := by
    cases k with
    | zero => rfl
    | succ k =>
      obtain ⟨y, hy⟩ := rowOf (l := l) (i := k) (by omega)
      rw [List.take_add_one, hy]
      simp only [Option.toList_some, List.reverse_append, List.reverse_cons, List.reverse_nil, List.nil_append, List.cons_append, insR]
      rw [if_neg (h2 y (by omega) (by simpa using hy))]
  rw [hb, List.reverse_cons, List.reverse_reverse, List.append_assoc]
  rfl

theorem midG_get {α : Type} {l : List α} {n : α} {k : Nat} (hk : k ≤ l.length) : (l.take k ++ n :: l.drop k)[k]? = some n := by
  rw [List.getElem?_append_right (by simp; omega)]
  simp [Nat.min_eq_left hk]
theorem midG_pred {α : Type} {l : List α} {n y : α} {k : Nat} (hk : k < l.length) (hy : l[k]? = some y) : (l.take (k + 1) ++ n :: l.drop (k + 1))[k]? = some y := by
  rw [List.getElem?_append_left (by simp; omega), List.getElem?_take_of_lt (by omega)]
  exact hy
theorem midG_swap {α : Type} {l : List α} {n y : α} {k : Nat} (hk : k < l.length) (hy : l[k]? = some y) : ((l.take (k + 1) ++ n :: l.drop (k + 1)).set (k + 1) y).set k n = l.take k ++ n :: l.drop k := by
  have e1 : l.take (k + 1) = l.take k ++ [y] := by rw [List.take_add_one, hy]; rfl
  have e2 := drop_cons hy
  have hlen : (l.take k).length = k := by simp; omega
  rw [e1, e2, List.append_assoc]
  generalize l.drop (k + 1) = q
  generalize l.take k = p at hlen
  subst hlen
  simp only [List.cons_append, List.nil_append]
  rw [List.set_append_right _ _ (by omega), List.set_append_right _ _ (by omega)]
  simp

theorem sortL_take {α : Type} {lt : ByteArray → ByteArray → Bool} {nm : α → ByteArray} {l : List α} {i : Nat} {x : α} (h : l[i]? = some x) : sortL lt nm (l.take (i + 1)) = (insR lt nm x (sortL lt nm (l.take i)).reverse).reverse := by
  unfold sortL
  rw [List.take_add_one, h]
  simp only [Option.toList_some, List.foldl_append, List.foldl_cons, List.foldl_nil, List.reverse_reverse]
theorem insR_length {α : Type} {lt : ByteArray → ByteArray → Bool} {nm : α → ByteArray} {x : α} : ∀ l : List α, (insR lt nm x l).length = l.length + 1
  | [] => rfl
  | y :: r => by unfold insR; split <;> simp [insR_length r]
theorem sortL_length {α : Type} {lt : ByteArray → ByteArray → Bool} {nm : α → ByteArray} (l : List α) : (sortL lt nm l).length = l.length := by
  have : ∀ (l acc : List α), (l.foldl (fun acc x => insR lt nm x acc) acc).length = acc.length + l.length := by
    intro l
    induction l with
    | nil => intro acc; simp
    | cons x l ih => intro acc; simp only [List.foldl_cons, List.length_cons, ih, insR_length]; omega
  simp [sortL, this]
theorem sortL_mem {α : Type} {lt : ByteArray → ByteArray → Bool} {nm : α → ByteArray} {l : List α} {x : α} : x ∈ sortL lt nm l ↔ x ∈ l := by
  have hi : ∀ (y : α) (l : List α), x ∈ insR lt nm y l ↔ x = y ∨ x ∈ l := by
    intro y l
    induction l with
    | nil => simp [insR]
    | cons z r ih =>
      unfold insR
      split
      · simp only [List.mem_cons, ih]
        constructor
        · rintro (h | h | h) <;> simp [h]
        · rintro (h | h | h) <;> simp [h]
      · simp
  have : ∀ (l acc : List α), x ∈ l.foldl (fun acc x => insR lt nm x acc) acc ↔ x ∈ acc ∨ x ∈ l := by
    intro l
    induction l with
    | nil => intro acc; simp
    | cons y l ih =>
      intro acc
      simp only [List.foldl_cons, ih, hi, List.mem_cons]
      constructor
      · rintro ((h | h) | h) <;> simp [h]
      · rintro (h | h | h) <;> simp [h]
  simp [sortL, this]

end Go.Vt.Tryz
