/- The reference's Sorted (printed by mkw9.py). -/
import Derived.Test.YtladjgdhpfcmjaaGreatDoorVtW7
import Derived.Test.YtladjgdhpfcmjaaGreatDoorVtB17
set_option maxRecDepth 100000
set_option linter.unusedSimpArgs false
namespace Go.Vt.Tryz
open Go.Vt renaming vslice → J0
open Nat renaming reduceBEq → J1, reduceEqDiff → J2, reduceLT → J3, reduceLeDiff → J4, reduceAdd → J5, reduceMul → J6, reduceSub → J7
open Go.Proofs Go.Vt.Al

def SortOk (s : Stx) : Prop := VC Tryz.prog 29 [stW s] [] fun r h' => r = stW (sortSt ltN s) ∧ h' = []

def gS (x : ByteArray × Stx) : ByteArray × Stx := (x.1, sortSt ltN x.2)
def gF (x : ByteArray × FnE) : ByteArray × FnE := (x.1, x.2.1, sortSt ltN x.2.2.1, x.2.2.2.1, sortSt ltN x.2.2.2.2)
def gG (x : SigE) : SigE := (x.1, x.2.1, sortSt ltN x.2.2)

set_option maxHeartbeats 2000000 in
theorem vc_sortedFuns (l : List (ByteArray × FnE)) (hl : l.length < 1000000000) (hnF : ∀ x ∈ l, x.1.size < 100000000000) (H4 : ∀ x ∈ l, SortOk x.2.2.1 ∧ SortOk x.2.2.2.2) : VC Tryz.prog 61 [.one (.d (.sl (encSt.funs l)))] [] fun r h' => r = .one (.d (.sl (encSt.funs (sortL ltN (fun m : ByteArray × FnE => m.1) (l.map gF))))) ∧ h' = [] := by
  refine VC_of_fn mixed fn61 (by simp) ?_
  show vwp Tryz.prog 0 vc61 _ [(0, .one (.d (.sl (encSt.funs l))))] []
  unfold vc61
  rw [vwpI_eq]
  simp -implicitDefEqProofs only [bV.d, oS.d, J0, J1, J2, J3, J4, J5, J6, J7, ↓reduceIte, reduceCtorEq]
  refine loopI (α := Nat) (fun i => [(4, .one (.d (.int .i64 i))), (3, .one (.own 0 i i)), (0, .one (.d (.sl (encSt.funs l))))])
    (fun i => [.arr false 13 i ((sortL ltN (fun m : ByteArray × FnE => m.1) ((l.map gF).take i)).map encFm)])
    (fun i => i ≤ l.length) (fun i => l.length - i) 0
    (keepG [(3, 13)] [] [0] _ rfl rfl (WkH.refl _) rfl rfl rfl ⟨⟨_, WkV.refl _, rfl⟩, ⟨_, WkV.refl _, rfl⟩, ⟨_, WkV.refl _, rfl⟩, trivial⟩) (Nat.zero_le _) ?_
  intro i hi
  have hw := wrapA1 (a := i) rfl (by omega)
  have hacc : (sortL ltN (fun m : ByteArray × FnE => m.1) ((l.map gF).take i)).length = i := by rw [sortL_length, List.length_take, List.length_map]; omega
  have htk2 : ((sortL ltN (fun m : ByteArray × FnE => m.1) ((l.map gF).take i)).map encFm).take i = (sortL ltN (fun m : ByteArray × FnE => m.1) ((l.map gF).take i)).map encFm := List.take_of_length_le (by rw [List.length_map]; omega)
  rcases Nat.lt_or_ge i l.length with h5 | h5
  case inl =>
    have hc : ((i : Int) < (l.length : Int)) = True := by simp; omega
    obtain ⟨x0, hx0⟩ := rowOf h5
    have hmem := List.mem_of_getElem? hx0
    have hcap : (i + 1) * 304 ≤ maxBytes ∧ i + 1 ≤ maxBytes := by simp [maxBytes]; omega
    have hgu : (encSt.funs l)[i]? = some (encFm x0) := by rw [encFuns_m]; rw [List.getElem?_map, hx0]; rfl
    have hxs : (l.map gF)[i]? = some (gF x0) := by rw [List.getElem?_map, hx0]; rfl
    have hst := sortL_take (lt := ltN) (nm := (fun m : ByteArray × FnE => m.1)) hxs
    have hxn : ((fun m : ByteArray × FnE => m.1) (gF x0)).size < 100000000000 := hnF x0 hmem
    have hyn : ∀ y ∈ (sortL ltN (fun m : ByteArray × FnE => m.1) ((l.map gF).take i)), ((fun m : ByteArray × FnE => m.1) y).size < 100000000000 := fun y hy => by
      obtain ⟨z, hz, rfl⟩ := List.mem_map.1 (List.mem_of_mem_take (sortL_mem.1 hy))
      exact hnF z hz
    generalize hA : (sortL ltN (fun m : ByteArray × FnE => m.1) ((l.map gF).take i)) = acc at hacc htk2 hst hyn ⊢
    have t1 := (H4 x0 hmem).1
    have t2 := (H4 x0 hmem).2
    unfold SortOk at t1 t2
    have hge : gF x0 = (x0.1, x0.2.1, sortSt ltN x0.2.2.1, x0.2.2.2.1, sortSt ltN x0.2.2.2.2) := rfl
    rw [hge] at hst hxn
    generalize sortSt ltN x0.2.2.1 = R at t1 hst hxn
    generalize sortSt ltN x0.2.2.2.2 = R2 at t2 hst hxn
    obtain ⟨x1, x2, x3, x4, x5⟩ := R
    obtain ⟨xy1, xy2, xy3, xy4, xy5⟩ := R2
    obtain ⟨xn, xp, ⟨o1, o2, o3, o4, o5⟩, xq, ⟨oy1, oy2, oy3, oy4, oy5⟩⟩ := x0
    clear hge hxs
    simp only [encTym, encVam, encSm, encFm, encFn, encSig, encSc, encTy, encSt, stW, List.cons_append, List.nil_append, List.map_cons, List.map_nil] at t1 t2 hgu
    simp only at hst hxn
    simp -implicitDefEqProofs only [bV.d, oS.d, J0, J1, J2, J3, J4, J5, J6, J7, ↓reduceIte, reduceCtorEq, hc, hgu, hcap, htk2, hw, hacc, encsTy_length, encSubs_len, encFuns_len, encSigs_len, List.length_map, Int.natCast_nonneg, Int.toNat_natCast]
    refine callS [] (t1) rfl rfl rfl ?_
    rintro _ _ ⟨rfl, rfl⟩
    refine ⟨_, _, rfl, ?_⟩
    simp -implicitDefEqProofs only [bV.d, oS.d, J0, J1, J2, J3, J4, J5, J6, J7, ↓reduceIte, reduceCtorEq, hc, hgu, hcap, htk2, hw, hacc, encsTy_length, encSubs_len, encFuns_len, encSigs_len, List.length_map, Int.natCast_nonneg, Int.toNat_natCast]
    refine callS [] (t2) rfl rfl rfl ?_
    rintro _ _ ⟨rfl, rfl⟩
    refine ⟨_, _, rfl, ?_⟩
    simp -implicitDefEqProofs only [bV.d, oS.d, J0, J1, J2, J3, J4, J5, J6, J7, ↓reduceIte, reduceCtorEq, hc, hgu, hcap, htk2, hw, hacc, encsTy_length, encSubs_len, encFuns_len, encSigs_len, List.length_map, Int.natCast_nonneg, Int.toNat_natCast]
    have e0 : acc.map encFm ++ [[.str xn, .sl (nums xp), .sl (x1.map encTym), .sl (x2.map encVam), .sl (encSt.subs x3), .sl (encSt.funs x4), .sl (encSt.sigs x5), .sl (nums xq), .sl (xy1.map encTym), .sl (xy2.map encVam), .sl (encSt.subs xy3), .sl (encSt.funs xy4), .sl (encSt.sigs xy5)]] = (acc.take i ++ (⟨xn, xp, ⟨x1, x2, x3, x4, x5⟩, xq, ⟨xy1, xy2, xy3, xy4, xy5⟩⟩ : ByteArray × FnE) :: acc.drop i).map encFm := by rw [List.take_of_length_le (by omega), List.drop_of_length_le (by omega)]; simp [encTym, encVam, encSm, encFm, encFn, encSig, encSc, encTy, encSt]
    rw [e0]
    refine loopI (α := Nat) (fun k => [(5, .one (.d (.int .i64 k))), (4, .one (.d (.int .i64 i))), (3, .one (.own 0 (i + 1) (i + 1))), (0, .one (.d (.sl (encSt.funs l))))])
      (fun k => [.arr false 13 (i + 1) ((acc.take k ++ (⟨xn, xp, ⟨x1, x2, x3, x4, x5⟩, xq, ⟨xy1, xy2, xy3, xy4, xy5⟩⟩ : ByteArray × FnE) :: acc.drop k).map encFm)])
      (fun k => k ≤ i ∧ ∀ z ∈ acc.drop k, ltN xn ((fun m : ByteArray × FnE => m.1) z) = true) (fun k => k) i
      (keepI [0] _ (WkH.refl _) rfl rfl rfl ⟨⟨_, WkV.refl _, rfl⟩, ⟨_, WkV.refl _, rfl⟩, ⟨_, WkV.refl _, rfl⟩, ⟨_, WkV.refl _, rfl⟩, trivial⟩) ⟨Nat.le_refl _, fun z hz => by rw [List.drop_of_length_le (by omega)] at hz; cases hz⟩ ?_
    rintro k ⟨hk, hz⟩
    generalize hL : (acc.take k ++ (⟨xn, xp, ⟨x1, x2, x3, x4, x5⟩, xq, ⟨xy1, xy2, xy3, xy4, xy5⟩⟩ : ByteArray × FnE) :: acc.drop k).map encFm = L
    rcases k with _ | j
    · have h00 : ((0 : Int) < ((0 : Nat) : Int)) = False := by simp
      have hins : acc.take 0 ++ (⟨xn, xp, ⟨x1, x2, x3, x4, x5⟩, xq, ⟨xy1, xy2, xy3, xy4, xy5⟩⟩ : ByteArray × FnE) :: acc.drop 0 = sortL ltN (fun m : ByteArray × FnE => m.1) ((l.map gF).take (i + 1)) := by rw [hst]; exact ins_at (lt := ltN) (nm := (fun m : ByteArray × FnE => m.1)) (l := acc) (k := 0) hz (fun _ h => absurd h (by omega)) (by omega)
      simp -implicitDefEqProofs only [bV.d, oS.d, J0, J1, J2, J3, J4, J5, J6, J7, ↓reduceIte, reduceCtorEq, h00, hw]
      rw [← hL, hins]
      refine ⟨i + 1, by omega, by omega, ?_⟩
      exact (keepI [0] _ (WkH.refl _) rfl rfl rfl ⟨⟨_, WkV.refl _, rfl⟩, ⟨_, WkV.refl _, rfl⟩, ⟨_, WkV.refl _, rfl⟩, trivial⟩)
    · have h00 : ((0 : Int) < ((j + 1 : Nat) : Int)) = True := by simp only [eq_iff_iff, iff_true]; omega
      obtain ⟨y, hy⟩ := rowOf (l := acc) (i := j) (by omega)
      have hyb := hyn y (List.mem_of_getElem? hy)
      have w1 : IntKind.i64.wrap (((j + 1 : Nat) : Int) - 1) = (j : Int) := wrapS1 (a := j + 1) (c := j) rfl (by omega)
      have l1 : ((j + 1 : Nat) : Int) < ((i + 1 : Nat) : Int) := by omega
      have l2 : (j : Int) < ((i + 1 : Nat) : Int) := by omega
      have p1 := midG_get (n := (⟨xn, xp, ⟨x1, x2, x3, x4, x5⟩, xq, ⟨xy1, xy2, xy3, xy4, xy5⟩⟩ : ByteArray × FnE)) (l := acc) (k := j + 1) (by omega)
      have p2 := midG_pred (n := (⟨xn, xp, ⟨x1, x2, x3, x4, x5⟩, xq, ⟨xy1, xy2, xy3, xy4, xy5⟩⟩ : ByteArray × FnE)) (l := acc) (by omega) hy
      have p3 := midG_swap (n := (⟨xn, xp, ⟨x1, x2, x3, x4, x5⟩, xq, ⟨xy1, xy2, xy3, xy4, xy5⟩⟩ : ByteArray × FnE)) (l := acc) (by omega) hy
      obtain ⟨yn, yp, ⟨y1, y2, y3, y4, y5⟩, yq, ⟨yy1, yy2, yy3, yy4, yy5⟩⟩ := y
      have hg1 : ((acc.take (j + 1) ++ (⟨xn, xp, ⟨x1, x2, x3, x4, x5⟩, xq, ⟨xy1, xy2, xy3, xy4, xy5⟩⟩ : ByteArray × FnE) :: acc.drop (j + 1)).map encFm)[j + 1]? = some [.str xn, .sl (nums xp), .sl (x1.map encTym), .sl (x2.map encVam), .sl (encSt.subs x3), .sl (encSt.funs x4), .sl (encSt.sigs x5), .sl (nums xq), .sl (xy1.map encTym), .sl (xy2.map encVam), .sl (encSt.subs xy3), .sl (encSt.funs xy4), .sl (encSt.sigs xy5)] := by rw [List.getElem?_map, p1]; rfl
      have hg2 : ((acc.take (j + 1) ++ (⟨xn, xp, ⟨x1, x2, x3, x4, x5⟩, xq, ⟨xy1, xy2, xy3, xy4, xy5⟩⟩ : ByteArray × FnE) :: acc.drop (j + 1)).map encFm)[j]? = some [.str yn, .sl (nums yp), .sl (y1.map encTym), .sl (y2.map encVam), .sl (encSt.subs y3), .sl (encSt.funs y4), .sl (encSt.sigs y5), .sl (nums yq), .sl (yy1.map encTym), .sl (yy2.map encVam), .sl (encSt.subs yy3), .sl (encSt.funs yy4), .sl (encSt.sigs yy5)] := by rw [List.getElem?_map, p2]; rfl
      have hg3 : (((acc.take (j + 1) ++ (⟨xn, xp, ⟨x1, x2, x3, x4, x5⟩, xq, ⟨xy1, xy2, xy3, xy4, xy5⟩⟩ : ByteArray × FnE) :: acc.drop (j + 1)).map encFm).set (j + 1) [.str yn, .sl (nums yp), .sl (y1.map encTym), .sl (y2.map encVam), .sl (encSt.subs y3), .sl (encSt.funs y4), .sl (encSt.sigs y5), .sl (nums yq), .sl (yy1.map encTym), .sl (yy2.map encVam), .sl (encSt.subs yy3), .sl (encSt.funs yy4), .sl (encSt.sigs yy5)])[j]? = some [.str yn, .sl (nums yp), .sl (y1.map encTym), .sl (y2.map encVam), .sl (encSt.subs y3), .sl (encSt.funs y4), .sl (encSt.sigs y5), .sl (nums yq), .sl (yy1.map encTym), .sl (yy2.map encVam), .sl (encSt.subs yy3), .sl (encSt.funs yy4), .sl (encSt.sigs yy5)] := by rw [List.getElem?_set_ne (by omega)]; exact hg2
      have hsw : (((acc.take (j + 1) ++ (⟨xn, xp, ⟨x1, x2, x3, x4, x5⟩, xq, ⟨xy1, xy2, xy3, xy4, xy5⟩⟩ : ByteArray × FnE) :: acc.drop (j + 1)).map encFm).set (j + 1) [.str yn, .sl (nums yp), .sl (y1.map encTym), .sl (y2.map encVam), .sl (encSt.subs y3), .sl (encSt.funs y4), .sl (encSt.sigs y5), .sl (nums yq), .sl (yy1.map encTym), .sl (yy2.map encVam), .sl (encSt.subs yy3), .sl (encSt.funs yy4), .sl (encSt.sigs yy5)]).set j [.str xn, .sl (nums xp), .sl (x1.map encTym), .sl (x2.map encVam), .sl (encSt.subs x3), .sl (encSt.funs x4), .sl (encSt.sigs x5), .sl (nums xq), .sl (xy1.map encTym), .sl (xy2.map encVam), .sl (encSt.subs xy3), .sl (encSt.funs xy4), .sl (encSt.sigs xy5)] = (acc.take j ++ (⟨xn, xp, ⟨x1, x2, x3, x4, x5⟩, xq, ⟨xy1, xy2, xy3, xy4, xy5⟩⟩ : ByteArray × FnE) :: acc.drop j).map encFm := by rw [← p3, List.map_set, List.map_set]; rfl
      rw [hL] at hg1 hg2 hg3 hsw
      have hcm := vc_ncmp xn yn hxn hyb
      simp -implicitDefEqProofs only [bV.d, oS.d, J0, J1, J2, J3, J4, J5, J6, J7, ↓reduceIte, reduceCtorEq, h00, w1, l1, l2, hg1, hg2, Int.natCast_nonneg, Int.toNat_natCast]
      refine callS [] (hcm) rfl rfl rfl ?_
      rintro _ _ ⟨rfl, rfl⟩
      refine ⟨_, _, rfl, ?_⟩
      by_cases hlt : cmpL xn.data.toList yn.data.toList < 0
      · have e1 : (cmpL xn.data.toList yn.data.toList < 0) = True := by simp [hlt]
        simp -implicitDefEqProofs only [bV.d, oS.d, J0, J1, J2, J3, J4, J5, J6, J7, ↓reduceIte, reduceCtorEq, e1, hg3, h00, w1, l1, l2, hg1, hg2, Int.natCast_nonneg, Int.toNat_natCast]
        rw [hsw, List.map_append, List.map_cons]
        refine ⟨j, ⟨by omega, fun z hzz => ?_⟩, by omega, ?_⟩
        · rw [drop_cons hy] at hzz
          rcases List.mem_cons.1 hzz with rfl | h
          · exact decide_eq_true hlt
          · exact hz z h
        · exact (keepI [0] _ (WkH.refl _) rfl rfl rfl ⟨⟨_, WkV.refl _, rfl⟩, ⟨_, WkV.refl _, rfl⟩, ⟨_, WkV.refl _, rfl⟩, ⟨_, WkV.refl _, rfl⟩, trivial⟩)
      · have e1 : (cmpL xn.data.toList yn.data.toList < 0) = False := by simp [hlt]
        simp -implicitDefEqProofs only [bV.d, oS.d, J0, J1, J2, J3, J4, J5, J6, J7, ↓reduceIte, reduceCtorEq, e1, hw, h00, w1, l1, l2, hg1, hg2, Int.natCast_nonneg, Int.toNat_natCast]
        have hins : acc.take (j + 1) ++ (⟨xn, xp, ⟨x1, x2, x3, x4, x5⟩, xq, ⟨xy1, xy2, xy3, xy4, xy5⟩⟩ : ByteArray × FnE) :: acc.drop (j + 1) = sortL ltN (fun m : ByteArray × FnE => m.1) ((l.map gF).take (i + 1)) := by rw [hst]; exact ins_at (lt := ltN) (nm := (fun m : ByteArray × FnE => m.1)) hz (fun z _ hzz => by rw [show j + 1 - 1 = j from rfl, hy] at hzz; cases hzz; simp only [ltN, decide_eq_true_eq]; exact hlt) (by omega)
        rw [← hL, hins]
        refine ⟨i + 1, by omega, by omega, ?_⟩
        exact (keepI [0] _ (WkH.refl _) rfl rfl rfl ⟨⟨_, WkV.refl _, rfl⟩, ⟨_, WkV.refl _, rfl⟩, ⟨_, WkV.refl _, rfl⟩, trivial⟩)
  have hc : ((i : Int) < (l.length : Int)) = False := by simp; omega
  have hie : i = l.length := by omega
  subst hie
  have hfull : (l.map gF).take l.length = (l.map gF) := List.take_of_length_le (by rw [List.length_map]; exact Nat.le_refl _)
  rw [hfull] at htk2
  simp only [hfull]
  simp -implicitDefEqProofs only [bV.d, oS.d, J0, J1, J2, J3, J4, J5, J6, J7, ↓reduceIte, reduceCtorEq, hc, encFuns_len]
  apply vend_of []
  · rfl
  · simp [fin, nodup, handO, lendR, lendV, lendLs, lendL, idx, vone, renL, lendVs, renO, renL.renLs]; first | exact ⟨rfl, rfl⟩ | exact ⟨rfl, rfl, rfl⟩
  rw [encFuns_m]
  exact ⟨by rw [htk2], rfl⟩

set_option maxHeartbeats 2000000 in
theorem vc_sortedSigs (l : List SigE) (hl : l.length < 1000000000) (hnG : ∀ x ∈ l, x.1.size < 100000000000) (H5 : ∀ x ∈ l, SortOk x.2.2) : VC Tryz.prog 62 [.one (.d (.sl (encSt.sigs l)))] [] fun r h' => r = .one (.d (.sl (encSt.sigs (sortL ltN (fun m : SigE => m.1) (l.map gG))))) ∧ h' = [] := by
  refine VC_of_fn mixed fn62 (by simp) ?_
  show vwp Tryz.prog 0 vc62 _ [(0, .one (.d (.sl (encSt.sigs l))))] []
  unfold vc62
  rw [vwpI_eq]
  simp -implicitDefEqProofs only [bV.d, oS.d, J0, J1, J2, J3, J4, J5, J6, J7, ↓reduceIte, reduceCtorEq]
  refine loopI (α := Nat) (fun i => [(4, .one (.d (.int .i64 i))), (3, .one (.own 0 i i)), (0, .one (.d (.sl (encSt.sigs l))))])
    (fun i => [.arr false 7 i ((sortL ltN (fun m : SigE => m.1) ((l.map gG).take i)).map encSig)])
    (fun i => i ≤ l.length) (fun i => l.length - i) 0
    (keepG [(3, 7)] [] [0] _ rfl rfl (WkH.refl _) rfl rfl rfl ⟨⟨_, WkV.refl _, rfl⟩, ⟨_, WkV.refl _, rfl⟩, ⟨_, WkV.refl _, rfl⟩, trivial⟩) (Nat.zero_le _) ?_
  intro i hi
  have hw := wrapA1 (a := i) rfl (by omega)
  have hacc : (sortL ltN (fun m : SigE => m.1) ((l.map gG).take i)).length = i := by rw [sortL_length, List.length_take, List.length_map]; omega
  have htk2 : ((sortL ltN (fun m : SigE => m.1) ((l.map gG).take i)).map encSig).take i = (sortL ltN (fun m : SigE => m.1) ((l.map gG).take i)).map encSig := List.take_of_length_le (by rw [List.length_map]; omega)
  rcases Nat.lt_or_ge i l.length with h5 | h5
  case inl =>
    have hc : ((i : Int) < (l.length : Int)) = True := by simp; omega
    obtain ⟨x0, hx0⟩ := rowOf h5
    have hmem := List.mem_of_getElem? hx0
    have hcap : (i + 1) * 160 ≤ maxBytes ∧ i + 1 ≤ maxBytes := by simp [maxBytes]; omega
    have hgu : (encSt.sigs l)[i]? = some (encSig x0) := by rw [encSigs_m]; rw [List.getElem?_map, hx0]; rfl
    have hxs : (l.map gG)[i]? = some (gG x0) := by rw [List.getElem?_map, hx0]; rfl
    have hst := sortL_take (lt := ltN) (nm := (fun m : SigE => m.1)) hxs
    have hxn : ((fun m : SigE => m.1) (gG x0)).size < 100000000000 := hnG x0 hmem
    have hyn : ∀ y ∈ (sortL ltN (fun m : SigE => m.1) ((l.map gG).take i)), ((fun m : SigE => m.1) y).size < 100000000000 := fun y hy => by
      obtain ⟨z, hz, rfl⟩ := List.mem_map.1 (List.mem_of_mem_take (sortL_mem.1 hy))
      exact hnG z hz
    generalize hA : (sortL ltN (fun m : SigE => m.1) ((l.map gG).take i)) = acc at hacc htk2 hst hyn ⊢
    have t1 := H5 x0 hmem
    unfold SortOk at t1
    have hge : gG x0 = (x0.1, x0.2.1, sortSt ltN x0.2.2) := rfl
    rw [hge] at hst hxn
    generalize sortSt ltN x0.2.2 = R at t1 hst hxn
    obtain ⟨x1, x2, x3, x4, x5⟩ := R
    obtain ⟨xn, xp, ⟨o1, o2, o3, o4, o5⟩⟩ := x0
    clear hge hxs
    simp only [encTym, encVam, encSm, encFm, encFn, encSig, encSc, encTy, encSt, stW, List.cons_append, List.nil_append, List.map_cons, List.map_nil] at t1 hgu
    simp only at hst hxn
    simp -implicitDefEqProofs only [bV.d, oS.d, J0, J1, J2, J3, J4, J5, J6, J7, ↓reduceIte, reduceCtorEq, hc, hgu, hcap, htk2, hw, hacc, encsTy_length, encSubs_len, encFuns_len, encSigs_len, List.length_map, Int.natCast_nonneg, Int.toNat_natCast]
    refine callS [] (t1) rfl rfl rfl ?_
    rintro _ _ ⟨rfl, rfl⟩
    refine ⟨_, _, rfl, ?_⟩
    simp -implicitDefEqProofs only [bV.d, oS.d, J0, J1, J2, J3, J4, J5, J6, J7, ↓reduceIte, reduceCtorEq, hc, hgu, hcap, htk2, hw, hacc, encsTy_length, encSubs_len, encFuns_len, encSigs_len, List.length_map, Int.natCast_nonneg, Int.toNat_natCast]
    have e0 : acc.map encSig ++ [[.str xn, .sl (nums xp), .sl (x1.map encTym), .sl (x2.map encVam), .sl (encSt.subs x3), .sl (encSt.funs x4), .sl (encSt.sigs x5)]] = (acc.take i ++ (⟨xn, xp, ⟨x1, x2, x3, x4, x5⟩⟩ : SigE) :: acc.drop i).map encSig := by rw [List.take_of_length_le (by omega), List.drop_of_length_le (by omega)]; simp [encTym, encVam, encSm, encFm, encFn, encSig, encSc, encTy, encSt]
    rw [e0]
    refine loopI (α := Nat) (fun k => [(5, .one (.d (.int .i64 k))), (4, .one (.d (.int .i64 i))), (3, .one (.own 0 (i + 1) (i + 1))), (0, .one (.d (.sl (encSt.sigs l))))])
      (fun k => [.arr false 7 (i + 1) ((acc.take k ++ (⟨xn, xp, ⟨x1, x2, x3, x4, x5⟩⟩ : SigE) :: acc.drop k).map encSig)])
      (fun k => k ≤ i ∧ ∀ z ∈ acc.drop k, ltN xn ((fun m : SigE => m.1) z) = true) (fun k => k) i
      (keepI [0] _ (WkH.refl _) rfl rfl rfl ⟨⟨_, WkV.refl _, rfl⟩, ⟨_, WkV.refl _, rfl⟩, ⟨_, WkV.refl _, rfl⟩, ⟨_, WkV.refl _, rfl⟩, trivial⟩) ⟨Nat.le_refl _, fun z hz => by rw [List.drop_of_length_le (by omega)] at hz; cases hz⟩ ?_
    rintro k ⟨hk, hz⟩
    generalize hL : (acc.take k ++ (⟨xn, xp, ⟨x1, x2, x3, x4, x5⟩⟩ : SigE) :: acc.drop k).map encSig = L
    rcases k with _ | j
    · have h00 : ((0 : Int) < ((0 : Nat) : Int)) = False := by simp
      have hins : acc.take 0 ++ (⟨xn, xp, ⟨x1, x2, x3, x4, x5⟩⟩ : SigE) :: acc.drop 0 = sortL ltN (fun m : SigE => m.1) ((l.map gG).take (i + 1)) := by rw [hst]; exact ins_at (lt := ltN) (nm := (fun m : SigE => m.1)) (l := acc) (k := 0) hz (fun _ h => absurd h (by omega)) (by omega)
      simp -implicitDefEqProofs only [bV.d, oS.d, J0, J1, J2, J3, J4, J5, J6, J7, ↓reduceIte, reduceCtorEq, h00, hw]
      rw [← hL, hins]
      refine ⟨i + 1, by omega, by omega, ?_⟩
      exact (keepI [0] _ (WkH.refl _) rfl rfl rfl ⟨⟨_, WkV.refl _, rfl⟩, ⟨_, WkV.refl _, rfl⟩, ⟨_, WkV.refl _, rfl⟩, trivial⟩)
    · have h00 : ((0 : Int) < ((j + 1 : Nat) : Int)) = True := by simp only [eq_iff_iff, iff_true]; omega
      obtain ⟨y, hy⟩ := rowOf (l := acc) (i := j) (by omega)
      have hyb := hyn y (List.mem_of_getElem? hy)
      have w1 : IntKind.i64.wrap (((j + 1 : Nat) : Int) - 1) = (j : Int) := wrapS1 (a := j + 1) (c := j) rfl (by omega)
      have l1 : ((j + 1 : Nat) : Int) < ((i + 1 : Nat) : Int) := by omega
      have l2 : (j : Int) < ((i + 1 : Nat) : Int) := by omega
      have p1 := midG_get (n := (⟨xn, xp, ⟨x1, x2, x3, x4, x5⟩⟩ : SigE)) (l := acc) (k := j + 1) (by omega)
      have p2 := midG_pred (n := (⟨xn, xp, ⟨x1, x2, x3, x4, x5⟩⟩ : SigE)) (l := acc) (by omega) hy
      have p3 := midG_swap (n := (⟨xn, xp, ⟨x1, x2, x3, x4, x5⟩⟩ : SigE)) (l := acc) (by omega) hy
      obtain ⟨yn, yp, ⟨y1, y2, y3, y4, y5⟩⟩ := y
      have hg1 : ((acc.take (j + 1) ++ (⟨xn, xp, ⟨x1, x2, x3, x4, x5⟩⟩ : SigE) :: acc.drop (j + 1)).map encSig)[j + 1]? = some [.str xn, .sl (nums xp), .sl (x1.map encTym), .sl (x2.map encVam), .sl (encSt.subs x3), .sl (encSt.funs x4), .sl (encSt.sigs x5)] := by rw [List.getElem?_map, p1]; rfl
      have hg2 : ((acc.take (j + 1) ++ (⟨xn, xp, ⟨x1, x2, x3, x4, x5⟩⟩ : SigE) :: acc.drop (j + 1)).map encSig)[j]? = some [.str yn, .sl (nums yp), .sl (y1.map encTym), .sl (y2.map encVam), .sl (encSt.subs y3), .sl (encSt.funs y4), .sl (encSt.sigs y5)] := by rw [List.getElem?_map, p2]; rfl
      have hg3 : (((acc.take (j + 1) ++ (⟨xn, xp, ⟨x1, x2, x3, x4, x5⟩⟩ : SigE) :: acc.drop (j + 1)).map encSig).set (j + 1) [.str yn, .sl (nums yp), .sl (y1.map encTym), .sl (y2.map encVam), .sl (encSt.subs y3), .sl (encSt.funs y4), .sl (encSt.sigs y5)])[j]? = some [.str yn, .sl (nums yp), .sl (y1.map encTym), .sl (y2.map encVam), .sl (encSt.subs y3), .sl (encSt.funs y4), .sl (encSt.sigs y5)] := by rw [List.getElem?_set_ne (by omega)]; exact hg2
      have hsw : (((acc.take (j + 1) ++ (⟨xn, xp, ⟨x1, x2, x3, x4, x5⟩⟩ : SigE) :: acc.drop (j + 1)).map encSig).set (j + 1) [.str yn, .sl (nums yp), .sl (y1.map encTym), .sl (y2.map encVam), .sl (encSt.subs y3), .sl (encSt.funs y4), .sl (encSt.sigs y5)]).set j [.str xn, .sl (nums xp), .sl (x1.map encTym), .sl (x2.map encVam), .sl (encSt.subs x3), .sl (encSt.funs x4), .sl (encSt.sigs x5)] = (acc.take j ++ (⟨xn, xp, ⟨x1, x2, x3, x4, x5⟩⟩ : SigE) :: acc.drop j).map encSig := by rw [← p3, List.map_set, List.map_set]; rfl
      rw [hL] at hg1 hg2 hg3 hsw
      have hcm := vc_ncmp xn yn hxn hyb
      simp -implicitDefEqProofs only [bV.d, oS.d, J0, J1, J2, J3, J4, J5, J6, J7, ↓reduceIte, reduceCtorEq, h00, w1, l1, l2, hg1, hg2, Int.natCast_nonneg, Int.toNat_natCast]
      refine callS [] (hcm) rfl rfl rfl ?_
      rintro _ _ ⟨rfl, rfl⟩
      refine ⟨_, _, rfl, ?_⟩
      by_cases hlt : cmpL xn.data.toList yn.data.toList < 0
      · have e1 : (cmpL xn.data.toList yn.data.toList < 0) = True := by simp [hlt]
        simp -implicitDefEqProofs only [bV.d, oS.d, J0, J1, J2, J3, J4, J5, J6, J7, ↓reduceIte, reduceCtorEq, e1, hg3, h00, w1, l1, l2, hg1, hg2, Int.natCast_nonneg, Int.toNat_natCast]
        rw [hsw, List.map_append, List.map_cons]
        refine ⟨j, ⟨by omega, fun z hzz => ?_⟩, by omega, ?_⟩
        · rw [drop_cons hy] at hzz
          rcases List.mem_cons.1 hzz with rfl | h
          · exact decide_eq_true hlt
          · exact hz z h
        · exact (keepI [0] _ (WkH.refl _) rfl rfl rfl ⟨⟨_, WkV.refl _, rfl⟩, ⟨_, WkV.refl _, rfl⟩, ⟨_, WkV.refl _, rfl⟩, ⟨_, WkV.refl _, rfl⟩, trivial⟩)
      · have e1 : (cmpL xn.data.toList yn.data.toList < 0) = False := by simp [hlt]
        simp -implicitDefEqProofs only [bV.d, oS.d, J0, J1, J2, J3, J4, J5, J6, J7, ↓reduceIte, reduceCtorEq, e1, hw, h00, w1, l1, l2, hg1, hg2, Int.natCast_nonneg, Int.toNat_natCast]
        have hins : acc.take (j + 1) ++ (⟨xn, xp, ⟨x1, x2, x3, x4, x5⟩⟩ : SigE) :: acc.drop (j + 1) = sortL ltN (fun m : SigE => m.1) ((l.map gG).take (i + 1)) := by rw [hst]; exact ins_at (lt := ltN) (nm := (fun m : SigE => m.1)) hz (fun z _ hzz => by rw [show j + 1 - 1 = j from rfl, hy] at hzz; cases hzz; simp only [ltN, decide_eq_true_eq]; exact hlt) (by omega)
        rw [← hL, hins]
        refine ⟨i + 1, by omega, by omega, ?_⟩
        exact (keepI [0] _ (WkH.refl _) rfl rfl rfl ⟨⟨_, WkV.refl _, rfl⟩, ⟨_, WkV.refl _, rfl⟩, ⟨_, WkV.refl _, rfl⟩, trivial⟩)
  have hc : ((i : Int) < (l.length : Int)) = False := by simp; omega
  have hie : i = l.length := by omega
  subst hie
  have hfull : (l.map gG).take l.length = (l.map gG) := List.take_of_length_le (by rw [List.length_map]; exact Nat.le_refl _)
  rw [hfull] at htk2
  simp only [hfull]
  simp -implicitDefEqProofs only [bV.d, oS.d, J0, J1, J2, J3, J4, J5, J6, J7, ↓reduceIte, reduceCtorEq, hc, encSigs_len]
  apply vend_of []
  · rfl
  · simp [fin, nodup, handO, lendR, lendV, lendLs, lendL, idx, vone, renL, lendVs, renO, renL.renLs]; first | exact ⟨rfl, rfl⟩ | exact ⟨rfl, rfl, rfl⟩
  rw [encSigs_m]
  exact ⟨by rw [htk2], rfl⟩

set_option maxHeartbeats 4000000 in
theorem vc_sorted142 (s1 : List Tym) (s2 : List Vam) (s3 : List (ByteArray × Stx)) (s4 : List (ByteArray × FnE)) (s5 : List SigE) (h1 : s1.length < 1000000000) (h2 : s2.length < 1000000000) (h3 : s3.length < 1000000000) (h4 : s4.length < 1000000000) (h5' : s5.length < 1000000000)
    (hnT : ∀ x ∈ s1, x.name.size < 100000000000) (hnV : ∀ x ∈ s2, x.name.size < 100000000000) (hnS : ∀ x ∈ s3, x.1.size < 100000000000) (hnF : ∀ x ∈ s4, x.1.size < 100000000000) (hnG : ∀ x ∈ s5, x.1.size < 100000000000)
    (H3 : ∀ x ∈ s3, SortOk x.2) (H4 : ∀ x ∈ s4, SortOk x.2.2.1 ∧ SortOk x.2.2.2.2) (H5 : ∀ x ∈ s5, SortOk x.2.2) : SortOk (.mk s1 s2 s3 s4 s5) := by
  have c4 := vc_sortedFuns s4 h4 hnF H4
  have c5 := vc_sortedSigs s5 h5' hnG H5
  unfold SortOk
  simp only [stW, encSt, List.map_cons, List.map_nil]
  refine VC_of_fn mixed fn29 (by simp) ?_
  show vwp Tryz.prog 0 vc29 _ [(0, .agg [.d (.sl (s1.map encTym)), .d (.sl (s2.map encVam)), .d (.sl (encSt.subs s3)), .d (.sl (encSt.funs s4)), .d (.sl (encSt.sigs s5))])] []
  unfold vc29
  rw [vwpI_eq]
  simp -implicitDefEqProofs only [bV.d, oS.d, J0, J1, J2, J3, J4, J5, J6, J7, ↓reduceIte, reduceCtorEq]
  refine loopI (α := Nat) (fun i => [(4, .one (.d (.int .i64 i))), (1, .one (.ptr 0 0)), (3, .one (.ptr 2 0)), (2, .one (.ptr 1 0))])
    (fun i => [.box [.d (.sl (s1.map encTym)), .d (.sl (s2.map encVam)), .d (.sl (encSt.subs s3)), .d (.sl (encSt.funs s4)), .d (.sl (encSt.sigs s5))], .box [.nils, .nils, .nils, .nils, .nils], .box [.own 3 i i, .nils, .nils, .nils, .nils], .arr false 5 i ((sortL ltN (fun m : Tym => m.name) (s1.take i)).map encTym)])
    (fun i => i ≤ s1.length) (fun i => s1.length - i) 0
    (keepG [] [(2, 0, 5)] [0, 1, 2, 3] _ rfl rfl (WkH.refl _) rfl rfl rfl ⟨⟨_, WkV.refl _, rfl⟩, ⟨_, WkV.refl _, rfl⟩, ⟨_, WkV.refl _, rfl⟩, ⟨_, WkV.refl _, rfl⟩, trivial⟩) (Nat.zero_le _) ?_
  intro i hi
  have hw := wrapA1 (a := i) rfl (by omega)
  have hacc : (sortL ltN (fun m : Tym => m.name) (s1.take i)).length = i := by rw [sortL_length, List.length_take]; omega
  have htk2 : ((sortL ltN (fun m : Tym => m.name) (s1.take i)).map encTym).take i = (sortL ltN (fun m : Tym => m.name) (s1.take i)).map encTym := List.take_of_length_le (by rw [List.length_map]; omega)
  rcases Nat.lt_or_ge i s1.length with h5 | h5
  case inl =>
    have hc : ((i : Int) < (s1.length : Int)) = True := by simp; omega
    obtain ⟨x0, hx0⟩ := rowOf h5
    have hmem := List.mem_of_getElem? hx0
    have hcap : (i + 1) * 80 ≤ maxBytes ∧ i + 1 ≤ maxBytes := by simp [maxBytes]; omega
    have hgu : (s1.map encTym)[i]? = some (encTym x0) := by rw [List.getElem?_map, hx0]; rfl
    have hxs : s1[i]? = some (x0) := by exact hx0
    have hst := sortL_take (lt := ltN) (nm := (fun m : Tym => m.name)) hxs
    have hxn : ((fun m : Tym => m.name) (x0)).size < 100000000000 := hnT x0 hmem
    have hyn : ∀ y ∈ (sortL ltN (fun m : Tym => m.name) (s1.take i)), ((fun m : Tym => m.name) y).size < 100000000000 := fun y hy => by
      exact hnT y (List.mem_of_mem_take (sortL_mem.1 hy))
    generalize hA : (sortL ltN (fun m : Tym => m.name) (s1.take i)) = acc at hacc htk2 hst hyn ⊢
    obtain ⟨xn, ⟨xk, xi, xl⟩, xc⟩ := x0
    clear hxs
    simp only [encTym, encVam, encSm, encFm, encFn, encSig, encSc, encTy, encSt, stW, List.cons_append, List.nil_append, List.map_cons, List.map_nil] at hgu
    simp only at hst hxn
    simp -implicitDefEqProofs only [bV.d, oS.d, J0, J1, J2, J3, J4, J5, J6, J7, ↓reduceIte, reduceCtorEq, hc, hgu, hcap, htk2, hw, hacc, encsTy_length, encSubs_len, encFuns_len, encSigs_len, List.length_map, Int.natCast_nonneg, Int.toNat_natCast]
    have e0 : acc.map encTym ++ [[.str xn, .int .i64 xk, .int .i64 xi, .sl (encTy.encs xl), .sl (xc.map encCt)]] = (acc.take i ++ (⟨xn, ⟨xk, xi, xl⟩, xc⟩ : Tym) :: acc.drop i).map encTym := by rw [List.take_of_length_le (by omega), List.drop_of_length_le (by omega)]; simp [encTym, encVam, encSm, encFm, encFn, encSig, encSc, encTy, encSt]
    rw [e0]
    refine loopI (α := Nat) (fun k => [(5, .one (.d (.int .i64 k))), (4, .one (.d (.int .i64 i))), (1, .one (.ptr 0 0)), (3, .one (.ptr 2 0)), (2, .one (.ptr 1 0))])
      (fun k => [.box [.d (.sl (s1.map encTym)), .d (.sl (s2.map encVam)), .d (.sl (encSt.subs s3)), .d (.sl (encSt.funs s4)), .d (.sl (encSt.sigs s5))], .box [.nils, .nils, .nils, .nils, .nils], .box [.own 3 (i + 1) (i + 1), .nils, .nils, .nils, .nils], .arr false 5 (i + 1) ((acc.take k ++ (⟨xn, ⟨xk, xi, xl⟩, xc⟩ : Tym) :: acc.drop k).map encTym)])
      (fun k => k ≤ i ∧ ∀ z ∈ acc.drop k, ltN xn ((fun m : Tym => m.name) z) = true) (fun k => k) i
      (keepI [0, 1, 2, 3] _ (WkH.refl _) rfl rfl rfl ⟨⟨_, WkV.refl _, rfl⟩, ⟨_, WkV.refl _, rfl⟩, ⟨_, WkV.refl _, rfl⟩, ⟨_, WkV.refl _, rfl⟩, ⟨_, WkV.refl _, rfl⟩, trivial⟩) ⟨Nat.le_refl _, fun z hz => by rw [List.drop_of_length_le (by omega)] at hz; cases hz⟩ ?_
    rintro k ⟨hk, hz⟩
    generalize hL : (acc.take k ++ (⟨xn, ⟨xk, xi, xl⟩, xc⟩ : Tym) :: acc.drop k).map encTym = L
    rcases k with _ | j
    · have h00 : ((0 : Int) < ((0 : Nat) : Int)) = False := by simp
      have hins : acc.take 0 ++ (⟨xn, ⟨xk, xi, xl⟩, xc⟩ : Tym) :: acc.drop 0 = sortL ltN (fun m : Tym => m.name) (s1.take (i + 1)) := by rw [hst]; exact ins_at (lt := ltN) (nm := (fun m : Tym => m.name)) (l := acc) (k := 0) hz (fun _ h => absurd h (by omega)) (by omega)
      simp -implicitDefEqProofs only [bV.d, oS.d, J0, J1, J2, J3, J4, J5, J6, J7, ↓reduceIte, reduceCtorEq, h00, hw]
      rw [← hL, hins]
      refine ⟨i + 1, by omega, by omega, ?_⟩
      exact (keepI [0, 1, 2, 3] _ (WkH.refl _) rfl rfl rfl ⟨⟨_, WkV.refl _, rfl⟩, ⟨_, WkV.refl _, rfl⟩, ⟨_, WkV.refl _, rfl⟩, ⟨_, WkV.refl _, rfl⟩, trivial⟩)
    · have h00 : ((0 : Int) < ((j + 1 : Nat) : Int)) = True := by simp only [eq_iff_iff, iff_true]; omega
      obtain ⟨y, hy⟩ := rowOf (l := acc) (i := j) (by omega)
      have hyb := hyn y (List.mem_of_getElem? hy)
      have w1 : IntKind.i64.wrap (((j + 1 : Nat) : Int) - 1) = (j : Int) := wrapS1 (a := j + 1) (c := j) rfl (by omega)
      have l1 : ((j + 1 : Nat) : Int) < ((i + 1 : Nat) : Int) := by omega
      have l2 : (j : Int) < ((i + 1 : Nat) : Int) := by omega
      have p1 := midG_get (n := (⟨xn, ⟨xk, xi, xl⟩, xc⟩ : Tym)) (l := acc) (k := j + 1) (by omega)
      have p2 := midG_pred (n := (⟨xn, ⟨xk, xi, xl⟩, xc⟩ : Tym)) (l := acc) (by omega) hy
      have p3 := midG_swap (n := (⟨xn, ⟨xk, xi, xl⟩, xc⟩ : Tym)) (l := acc) (by omega) hy
      obtain ⟨yn, ⟨yk, yi, yl⟩, yc⟩ := y
      have hg1 : ((acc.take (j + 1) ++ (⟨xn, ⟨xk, xi, xl⟩, xc⟩ : Tym) :: acc.drop (j + 1)).map encTym)[j + 1]? = some [.str xn, .int .i64 xk, .int .i64 xi, .sl (encTy.encs xl), .sl (xc.map encCt)] := by rw [List.getElem?_map, p1]; rfl
      have hg2 : ((acc.take (j + 1) ++ (⟨xn, ⟨xk, xi, xl⟩, xc⟩ : Tym) :: acc.drop (j + 1)).map encTym)[j]? = some [.str yn, .int .i64 yk, .int .i64 yi, .sl (encTy.encs yl), .sl (yc.map encCt)] := by rw [List.getElem?_map, p2]; rfl
      have hg3 : (((acc.take (j + 1) ++ (⟨xn, ⟨xk, xi, xl⟩, xc⟩ : Tym) :: acc.drop (j + 1)).map encTym).set (j + 1) [.str yn, .int .i64 yk, .int .i64 yi, .sl (encTy.encs yl), .sl (yc.map encCt)])[j]? = some [.str yn, .int .i64 yk, .int .i64 yi, .sl (encTy.encs yl), .sl (yc.map encCt)] := by rw [List.getElem?_set_ne (by omega)]; exact hg2
      have hsw : (((acc.take (j + 1) ++ (⟨xn, ⟨xk, xi, xl⟩, xc⟩ : Tym) :: acc.drop (j + 1)).map encTym).set (j + 1) [.str yn, .int .i64 yk, .int .i64 yi, .sl (encTy.encs yl), .sl (yc.map encCt)]).set j [.str xn, .int .i64 xk, .int .i64 xi, .sl (encTy.encs xl), .sl (xc.map encCt)] = (acc.take j ++ (⟨xn, ⟨xk, xi, xl⟩, xc⟩ : Tym) :: acc.drop j).map encTym := by rw [← p3, List.map_set, List.map_set]; rfl
      rw [hL] at hg1 hg2 hg3 hsw
      have hcm := vc_ncmp xn yn hxn hyb
      simp -implicitDefEqProofs only [bV.d, oS.d, J0, J1, J2, J3, J4, J5, J6, J7, ↓reduceIte, reduceCtorEq, h00, w1, l1, l2, hg1, hg2, Int.natCast_nonneg, Int.toNat_natCast]
      refine callS [] (hcm) rfl rfl rfl ?_
      rintro _ _ ⟨rfl, rfl⟩
      refine ⟨_, _, rfl, ?_⟩
      by_cases hlt : cmpL xn.data.toList yn.data.toList < 0
      · have e1 : (cmpL xn.data.toList yn.data.toList < 0) = True := by simp [hlt]
        simp -implicitDefEqProofs only [bV.d, oS.d, J0, J1, J2, J3, J4, J5, J6, J7, ↓reduceIte, reduceCtorEq, e1, hg3, h00, w1, l1, l2, hg1, hg2, Int.natCast_nonneg, Int.toNat_natCast]
        rw [hsw, List.map_append, List.map_cons]
        refine ⟨j, ⟨by omega, fun z hzz => ?_⟩, by omega, ?_⟩
        · rw [drop_cons hy] at hzz
          rcases List.mem_cons.1 hzz with rfl | h
          · exact decide_eq_true hlt
          · exact hz z h
        · exact (keepI [0, 1, 2, 3] _ (WkH.refl _) rfl rfl rfl ⟨⟨_, WkV.refl _, rfl⟩, ⟨_, WkV.refl _, rfl⟩, ⟨_, WkV.refl _, rfl⟩, ⟨_, WkV.refl _, rfl⟩, ⟨_, WkV.refl _, rfl⟩, trivial⟩)
      · have e1 : (cmpL xn.data.toList yn.data.toList < 0) = False := by simp [hlt]
        simp -implicitDefEqProofs only [bV.d, oS.d, J0, J1, J2, J3, J4, J5, J6, J7, ↓reduceIte, reduceCtorEq, e1, hw, h00, w1, l1, l2, hg1, hg2, Int.natCast_nonneg, Int.toNat_natCast]
        have hins : acc.take (j + 1) ++ (⟨xn, ⟨xk, xi, xl⟩, xc⟩ : Tym) :: acc.drop (j + 1) = sortL ltN (fun m : Tym => m.name) (s1.take (i + 1)) := by rw [hst]; exact ins_at (lt := ltN) (nm := (fun m : Tym => m.name)) hz (fun z _ hzz => by rw [show j + 1 - 1 = j from rfl, hy] at hzz; cases hzz; simp only [ltN, decide_eq_true_eq]; exact hlt) (by omega)
        rw [← hL, hins]
        refine ⟨i + 1, by omega, by omega, ?_⟩
        exact (keepI [0, 1, 2, 3] _ (WkH.refl _) rfl rfl rfl ⟨⟨_, WkV.refl _, rfl⟩, ⟨_, WkV.refl _, rfl⟩, ⟨_, WkV.refl _, rfl⟩, ⟨_, WkV.refl _, rfl⟩, trivial⟩)
  have hc : ((i : Int) < (s1.length : Int)) = False := by simp; omega
  have hie : i = s1.length := by omega
  subst hie
  have hfull : s1.take s1.length = s1 := List.take_of_length_le (by exact Nat.le_refl _)
  rw [hfull] at htk2
  simp only [hfull]
  simp -implicitDefEqProofs only [bV.d, oS.d, J0, J1, J2, J3, J4, J5, J6, J7, ↓reduceIte, reduceCtorEq, hc, encSubs_len, List.length_map]
  have k1 := htk2
  clear hc h5 htk2 hacc hw hi hfull
  refine loopI (α := Nat) (fun i => [(7, .one (.d (.int .i64 i))), (1, .one (.ptr 0 0)), (3, .one (.ptr 2 0)), (2, .one (.ptr 1 0))])
    (fun i => [.box [.d (.sl (s1.map encTym)), .d (.sl (s2.map encVam)), .d (.sl (encSt.subs s3)), .d (.sl (encSt.funs s4)), .d (.sl (encSt.sigs s5))], .box [.nils, .nils, .nils, .nils, .nils], .box [.own 3 s1.length s1.length, .own 4 i i, .nils, .nils, .nils], .arr false 5 s1.length ((sortL ltN (fun m : Tym => m.name) s1).map encTym), .arr false 5 i ((sortL ltN (fun m : Vam => m.name) (s2.take i)).map encVam)])
    (fun i => i ≤ s2.length) (fun i => s2.length - i) 0
    (keepG [] [(2, 1, 5)] [0, 1, 2, 3, 4] _ rfl rfl (WkH.refl _) rfl rfl rfl ⟨⟨_, WkV.refl _, rfl⟩, ⟨_, WkV.refl _, rfl⟩, ⟨_, WkV.refl _, rfl⟩, ⟨_, WkV.refl _, rfl⟩, trivial⟩) (Nat.zero_le _) ?_
  intro i hi
  have hw := wrapA1 (a := i) rfl (by omega)
  have hacc : (sortL ltN (fun m : Vam => m.name) (s2.take i)).length = i := by rw [sortL_length, List.length_take]; omega
  have htk2 : ((sortL ltN (fun m : Vam => m.name) (s2.take i)).map encVam).take i = (sortL ltN (fun m : Vam => m.name) (s2.take i)).map encVam := List.take_of_length_le (by rw [List.length_map]; omega)
  rcases Nat.lt_or_ge i s2.length with h5 | h5
  case inl =>
    have hc : ((i : Int) < (s2.length : Int)) = True := by simp; omega
    obtain ⟨x0, hx0⟩ := rowOf h5
    have hmem := List.mem_of_getElem? hx0
    have hcap : (i + 1) * 64 ≤ maxBytes ∧ i + 1 ≤ maxBytes := by simp [maxBytes]; omega
    have hgu : (s2.map encVam)[i]? = some (encVam x0) := by rw [List.getElem?_map, hx0]; rfl
    have hxs : s2[i]? = some (x0) := by exact hx0
    have hst := sortL_take (lt := ltN) (nm := (fun m : Vam => m.name)) hxs
    have hxn : ((fun m : Vam => m.name) (x0)).size < 100000000000 := hnV x0 hmem
    have hyn : ∀ y ∈ (sortL ltN (fun m : Vam => m.name) (s2.take i)), ((fun m : Vam => m.name) y).size < 100000000000 := fun y hy => by
      exact hnV y (List.mem_of_mem_take (sortL_mem.1 hy))
    generalize hA : (sortL ltN (fun m : Vam => m.name) (s2.take i)) = acc at hacc htk2 hst hyn ⊢
    obtain ⟨xn, xg, ⟨xk, xi, xl⟩⟩ := x0
    clear hxs
    simp only [encTym, encVam, encSm, encFm, encFn, encSig, encSc, encTy, encSt, stW, List.cons_append, List.nil_append, List.map_cons, List.map_nil] at hgu
    simp only at hst hxn
    simp -implicitDefEqProofs only [bV.d, oS.d, J0, J1, J2, J3, J4, J5, J6, J7, ↓reduceIte, reduceCtorEq, hc, hgu, hcap, htk2, hw, hacc, encsTy_length, encSubs_len, encFuns_len, encSigs_len, List.length_map, Int.natCast_nonneg, Int.toNat_natCast]
    have e0 : acc.map encVam ++ [[.str xn, .int .i64 xg, .int .i64 xk, .int .i64 xi, .sl (encTy.encs xl)]] = (acc.take i ++ (⟨xn, xg, ⟨xk, xi, xl⟩⟩ : Vam) :: acc.drop i).map encVam := by rw [List.take_of_length_le (by omega), List.drop_of_length_le (by omega)]; simp [encTym, encVam, encSm, encFm, encFn, encSig, encSc, encTy, encSt]
    rw [e0]
    refine loopI (α := Nat) (fun k => [(8, .one (.d (.int .i64 k))), (7, .one (.d (.int .i64 i))), (1, .one (.ptr 0 0)), (3, .one (.ptr 2 0)), (2, .one (.ptr 1 0))])
      (fun k => [.box [.d (.sl (s1.map encTym)), .d (.sl (s2.map encVam)), .d (.sl (encSt.subs s3)), .d (.sl (encSt.funs s4)), .d (.sl (encSt.sigs s5))], .box [.nils, .nils, .nils, .nils, .nils], .box [.own 3 s1.length s1.length, .own 4 (i + 1) (i + 1), .nils, .nils, .nils], .arr false 5 s1.length ((sortL ltN (fun m : Tym => m.name) s1).map encTym), .arr false 5 (i + 1) ((acc.take k ++ (⟨xn, xg, ⟨xk, xi, xl⟩⟩ : Vam) :: acc.drop k).map encVam)])
      (fun k => k ≤ i ∧ ∀ z ∈ acc.drop k, ltN xn ((fun m : Vam => m.name) z) = true) (fun k => k) i
      (keepI [0, 1, 2, 3, 4] _ (WkH.refl _) rfl rfl rfl ⟨⟨_, WkV.refl _, rfl⟩, ⟨_, WkV.refl _, rfl⟩, ⟨_, WkV.refl _, rfl⟩, ⟨_, WkV.refl _, rfl⟩, ⟨_, WkV.refl _, rfl⟩, trivial⟩) ⟨Nat.le_refl _, fun z hz => by rw [List.drop_of_length_le (by omega)] at hz; cases hz⟩ ?_
    rintro k ⟨hk, hz⟩
    generalize hL : (acc.take k ++ (⟨xn, xg, ⟨xk, xi, xl⟩⟩ : Vam) :: acc.drop k).map encVam = L
    rcases k with _ | j
    · have h00 : ((0 : Int) < ((0 : Nat) : Int)) = False := by simp
      have hins : acc.take 0 ++ (⟨xn, xg, ⟨xk, xi, xl⟩⟩ : Vam) :: acc.drop 0 = sortL ltN (fun m : Vam => m.name) (s2.take (i + 1)) := by rw [hst]; exact ins_at (lt := ltN) (nm := (fun m : Vam => m.name)) (l := acc) (k := 0) hz (fun _ h => absurd h (by omega)) (by omega)
      simp -implicitDefEqProofs only [bV.d, oS.d, J0, J1, J2, J3, J4, J5, J6, J7, ↓reduceIte, reduceCtorEq, h00, hw]
      rw [← hL, hins]
      refine ⟨i + 1, by omega, by omega, ?_⟩
      exact (keepI [0, 1, 2, 3, 4] _ (WkH.refl _) rfl rfl rfl ⟨⟨_, WkV.refl _, rfl⟩, ⟨_, WkV.refl _, rfl⟩, ⟨_, WkV.refl _, rfl⟩, ⟨_, WkV.refl _, rfl⟩, trivial⟩)
    · have h00 : ((0 : Int) < ((j + 1 : Nat) : Int)) = True := by simp only [eq_iff_iff, iff_true]; omega
      obtain ⟨y, hy⟩ := rowOf (l := acc) (i := j) (by omega)
      have hyb := hyn y (List.mem_of_getElem? hy)
      have w1 : IntKind.i64.wrap (((j + 1 : Nat) : Int) - 1) = (j : Int) := wrapS1 (a := j + 1) (c := j) rfl (by omega)
      have l1 : ((j + 1 : Nat) : Int) < ((i + 1 : Nat) : Int) := by omega
      have l2 : (j : Int) < ((i + 1 : Nat) : Int) := by omega
      have p1 := midG_get (n := (⟨xn, xg, ⟨xk, xi, xl⟩⟩ : Vam)) (l := acc) (k := j + 1) (by omega)
      have p2 := midG_pred (n := (⟨xn, xg, ⟨xk, xi, xl⟩⟩ : Vam)) (l := acc) (by omega) hy
      have p3 := midG_swap (n := (⟨xn, xg, ⟨xk, xi, xl⟩⟩ : Vam)) (l := acc) (by omega) hy
      obtain ⟨yn, yg, ⟨yk, yi, yl⟩⟩ := y
      have hg1 : ((acc.take (j + 1) ++ (⟨xn, xg, ⟨xk, xi, xl⟩⟩ : Vam) :: acc.drop (j + 1)).map encVam)[j + 1]? = some [.str xn, .int .i64 xg, .int .i64 xk, .int .i64 xi, .sl (encTy.encs xl)] := by rw [List.getElem?_map, p1]; rfl
      have hg2 : ((acc.take (j + 1) ++ (⟨xn, xg, ⟨xk, xi, xl⟩⟩ : Vam) :: acc.drop (j + 1)).map encVam)[j]? = some [.str yn, .int .i64 yg, .int .i64 yk, .int .i64 yi, .sl (encTy.encs yl)] := by rw [List.getElem?_map, p2]; rfl
      have hg3 : (((acc.take (j + 1) ++ (⟨xn, xg, ⟨xk, xi, xl⟩⟩ : Vam) :: acc.drop (j + 1)).map encVam).set (j + 1) [.str yn, .int .i64 yg, .int .i64 yk, .int .i64 yi, .sl (encTy.encs yl)])[j]? = some [.str yn, .int .i64 yg, .int .i64 yk, .int .i64 yi, .sl (encTy.encs yl)] := by rw [List.getElem?_set_ne (by omega)]; exact hg2
      have hsw : (((acc.take (j + 1) ++ (⟨xn, xg, ⟨xk, xi, xl⟩⟩ : Vam) :: acc.drop (j + 1)).map encVam).set (j + 1) [.str yn, .int .i64 yg, .int .i64 yk, .int .i64 yi, .sl (encTy.encs yl)]).set j [.str xn, .int .i64 xg, .int .i64 xk, .int .i64 xi, .sl (encTy.encs xl)] = (acc.take j ++ (⟨xn, xg, ⟨xk, xi, xl⟩⟩ : Vam) :: acc.drop j).map encVam := by rw [← p3, List.map_set, List.map_set]; rfl
      rw [hL] at hg1 hg2 hg3 hsw
      have hcm := vc_ncmp xn yn hxn hyb
      simp -implicitDefEqProofs only [bV.d, oS.d, J0, J1, J2, J3, J4, J5, J6, J7, ↓reduceIte, reduceCtorEq, h00, w1, l1, l2, hg1, hg2, Int.natCast_nonneg, Int.toNat_natCast]
      refine callS [] (hcm) rfl rfl rfl ?_
      rintro _ _ ⟨rfl, rfl⟩
      refine ⟨_, _, rfl, ?_⟩
      by_cases hlt : cmpL xn.data.toList yn.data.toList < 0
      · have e1 : (cmpL xn.data.toList yn.data.toList < 0) = True := by simp [hlt]
        simp -implicitDefEqProofs only [bV.d, oS.d, J0, J1, J2, J3, J4, J5, J6, J7, ↓reduceIte, reduceCtorEq, e1, hg3, h00, w1, l1, l2, hg1, hg2, Int.natCast_nonneg, Int.toNat_natCast]
        rw [hsw, List.map_append, List.map_cons]
        refine ⟨j, ⟨by omega, fun z hzz => ?_⟩, by omega, ?_⟩
        · rw [drop_cons hy] at hzz
          rcases List.mem_cons.1 hzz with rfl | h
          · exact decide_eq_true hlt
          · exact hz z h
        · exact (keepI [0, 1, 2, 3, 4] _ (WkH.refl _) rfl rfl rfl ⟨⟨_, WkV.refl _, rfl⟩, ⟨_, WkV.refl _, rfl⟩, ⟨_, WkV.refl _, rfl⟩, ⟨_, WkV.refl _, rfl⟩, ⟨_, WkV.refl _, rfl⟩, trivial⟩)
      · have e1 : (cmpL xn.data.toList yn.data.toList < 0) = False := by simp [hlt]
        simp -implicitDefEqProofs only [bV.d, oS.d, J0, J1, J2, J3, J4, J5, J6, J7, ↓reduceIte, reduceCtorEq, e1, hw, h00, w1, l1, l2, hg1, hg2, Int.natCast_nonneg, Int.toNat_natCast]
        have hins : acc.take (j + 1) ++ (⟨xn, xg, ⟨xk, xi, xl⟩⟩ : Vam) :: acc.drop (j + 1) = sortL ltN (fun m : Vam => m.name) (s2.take (i + 1)) := by rw [hst]; exact ins_at (lt := ltN) (nm := (fun m : Vam => m.name)) hz (fun z _ hzz => by rw [show j + 1 - 1 = j from rfl, hy] at hzz; cases hzz; simp only [ltN, decide_eq_true_eq]; exact hlt) (by omega)
        rw [← hL, hins]
        refine ⟨i + 1, by omega, by omega, ?_⟩
        exact (keepI [0, 1, 2, 3, 4] _ (WkH.refl _) rfl rfl rfl ⟨⟨_, WkV.refl _, rfl⟩, ⟨_, WkV.refl _, rfl⟩, ⟨_, WkV.refl _, rfl⟩, ⟨_, WkV.refl _, rfl⟩, trivial⟩)
  have hc : ((i : Int) < (s2.length : Int)) = False := by simp; omega
  have hie : i = s2.length := by omega
  subst hie
  have hfull : s2.take s2.length = s2 := List.take_of_length_le (by exact Nat.le_refl _)
  rw [hfull] at htk2
  simp only [hfull]
  simp -implicitDefEqProofs only [bV.d, oS.d, J0, J1, J2, J3, J4, J5, J6, J7, ↓reduceIte, reduceCtorEq, hc, encSubs_len, List.length_map]
  have k2 := htk2
  clear hc h5 htk2 hacc hw hi hfull
  refine loopI (α := Nat) (fun i => [(10, .one (.d (.int .i64 i))), (1, .one (.ptr 0 0)), (3, .one (.ptr 2 0)), (2, .one (.ptr 1 0))])
    (fun i => [.box [.d (.sl (s1.map encTym)), .d (.sl (s2.map encVam)), .d (.sl (encSt.subs s3)), .d (.sl (encSt.funs s4)), .d (.sl (encSt.sigs s5))], .box [.nils, .nils, .nils, .nils, .nils], .box [.own 3 s1.length s1.length, .own 4 s2.length s2.length, .own 5 i i, .nils, .nils], .arr false 5 s1.length ((sortL ltN (fun m : Tym => m.name) s1).map encTym), .arr false 5 s2.length ((sortL ltN (fun m : Vam => m.name) s2).map encVam), .arr false 6 i ((sortL ltN (fun m : ByteArray × Stx => m.1) ((s3.map gS).take i)).map encSm)])
    (fun i => i ≤ s3.length) (fun i => s3.length - i) 0
    (keepG [] [(2, 2, 6)] [0, 1, 2, 3, 4, 5] _ rfl rfl (WkH.refl _) rfl rfl rfl ⟨⟨_, WkV.refl _, rfl⟩, ⟨_, WkV.refl _, rfl⟩, ⟨_, WkV.refl _, rfl⟩, ⟨_, WkV.refl _, rfl⟩, trivial⟩) (Nat.zero_le _) ?_
  intro i hi
  have hw := wrapA1 (a := i) rfl (by omega)
  have hacc : (sortL ltN (fun m : ByteArray × Stx => m.1) ((s3.map gS).take i)).length = i := by rw [sortL_length, List.length_take, List.length_map]; omega
  have htk2 : ((sortL ltN (fun m : ByteArray × Stx => m.1) ((s3.map gS).take i)).map encSm).take i = (sortL ltN (fun m : ByteArray × Stx => m.1) ((s3.map gS).take i)).map encSm := List.take_of_length_le (by rw [List.length_map]; omega)
  rcases Nat.lt_or_ge i s3.length with h5 | h5
  case inl =>
    have hc : ((i : Int) < (s3.length : Int)) = True := by simp; omega
    obtain ⟨x0, hx0⟩ := rowOf h5
    have hmem := List.mem_of_getElem? hx0
    have hcap : (i + 1) * 136 ≤ maxBytes ∧ i + 1 ≤ maxBytes := by simp [maxBytes]; omega
    have hgu : (encSt.subs s3)[i]? = some (encSm x0) := by rw [encSubs_s]; rw [List.getElem?_map, hx0]; rfl
    have hxs : (s3.map gS)[i]? = some (gS x0) := by rw [List.getElem?_map, hx0]; rfl
    have hst := sortL_take (lt := ltN) (nm := (fun m : ByteArray × Stx => m.1)) hxs
    have hxn : ((fun m : ByteArray × Stx => m.1) (gS x0)).size < 100000000000 := hnS x0 hmem
    have hyn : ∀ y ∈ (sortL ltN (fun m : ByteArray × Stx => m.1) ((s3.map gS).take i)), ((fun m : ByteArray × Stx => m.1) y).size < 100000000000 := fun y hy => by
      obtain ⟨z, hz, rfl⟩ := List.mem_map.1 (List.mem_of_mem_take (sortL_mem.1 hy))
      exact hnS z hz
    generalize hA : (sortL ltN (fun m : ByteArray × Stx => m.1) ((s3.map gS).take i)) = acc at hacc htk2 hst hyn ⊢
    have t1 := H3 x0 hmem
    unfold SortOk at t1
    have hge : gS x0 = (x0.1, sortSt ltN x0.2) := rfl
    rw [hge] at hst hxn
    generalize sortSt ltN x0.2 = R at t1 hst hxn
    obtain ⟨x1, x2, x3, x4, x5⟩ := R
    obtain ⟨xn, ⟨o1, o2, o3, o4, o5⟩⟩ := x0
    clear hge hxs
    simp only [encTym, encVam, encSm, encFm, encFn, encSig, encSc, encTy, encSt, stW, List.cons_append, List.nil_append, List.map_cons, List.map_nil] at t1 hgu
    simp only at hst hxn
    simp -implicitDefEqProofs only [bV.d, oS.d, J0, J1, J2, J3, J4, J5, J6, J7, ↓reduceIte, reduceCtorEq, hc, hgu, hcap, htk2, hw, hacc, encsTy_length, encSubs_len, encFuns_len, encSigs_len, List.length_map, Int.natCast_nonneg, Int.toNat_natCast]
    refine callS [] (t1) rfl rfl rfl ?_
    rintro _ _ ⟨rfl, rfl⟩
    refine ⟨_, _, rfl, ?_⟩
    simp -implicitDefEqProofs only [bV.d, oS.d, J0, J1, J2, J3, J4, J5, J6, J7, ↓reduceIte, reduceCtorEq, hc, hgu, hcap, htk2, hw, hacc, encsTy_length, encSubs_len, encFuns_len, encSigs_len, List.length_map, Int.natCast_nonneg, Int.toNat_natCast]
    have e0 : acc.map encSm ++ [[.str xn, .sl (x1.map encTym), .sl (x2.map encVam), .sl (encSt.subs x3), .sl (encSt.funs x4), .sl (encSt.sigs x5)]] = (acc.take i ++ (⟨xn, ⟨x1, x2, x3, x4, x5⟩⟩ : ByteArray × Stx) :: acc.drop i).map encSm := by rw [List.take_of_length_le (by omega), List.drop_of_length_le (by omega)]; simp [encTym, encVam, encSm, encFm, encFn, encSig, encSc, encTy, encSt]
    rw [e0]
    refine loopI (α := Nat) (fun k => [(11, .one (.d (.int .i64 k))), (10, .one (.d (.int .i64 i))), (1, .one (.ptr 0 0)), (3, .one (.ptr 2 0)), (2, .one (.ptr 1 0))])
      (fun k => [.box [.d (.sl (s1.map encTym)), .d (.sl (s2.map encVam)), .d (.sl (encSt.subs s3)), .d (.sl (encSt.funs s4)), .d (.sl (encSt.sigs s5))], .box [.nils, .nils, .nils, .nils, .nils], .box [.own 3 s1.length s1.length, .own 4 s2.length s2.length, .own 5 (i + 1) (i + 1), .nils, .nils], .arr false 5 s1.length ((sortL ltN (fun m : Tym => m.name) s1).map encTym), .arr false 5 s2.length ((sortL ltN (fun m : Vam => m.name) s2).map encVam), .arr false 6 (i + 1) ((acc.take k ++ (⟨xn, ⟨x1, x2, x3, x4, x5⟩⟩ : ByteArray × Stx) :: acc.drop k).map encSm)])
      (fun k => k ≤ i ∧ ∀ z ∈ acc.drop k, ltN xn ((fun m : ByteArray × Stx => m.1) z) = true) (fun k => k) i
      (keepI [0, 1, 2, 3, 4, 5] _ (WkH.refl _) rfl rfl rfl ⟨⟨_, WkV.refl _, rfl⟩, ⟨_, WkV.refl _, rfl⟩, ⟨_, WkV.refl _, rfl⟩, ⟨_, WkV.refl _, rfl⟩, ⟨_, WkV.refl _, rfl⟩, trivial⟩) ⟨Nat.le_refl _, fun z hz => by rw [List.drop_of_length_le (by omega)] at hz; cases hz⟩ ?_
    rintro k ⟨hk, hz⟩
    generalize hL : (acc.take k ++ (⟨xn, ⟨x1, x2, x3, x4, x5⟩⟩ : ByteArray × Stx) :: acc.drop k).map encSm = L
    rcases k with _ | j
    · have h00 : ((0 : Int) < ((0 : Nat) : Int)) = False := by simp
      have hins : acc.take 0 ++ (⟨xn, ⟨x1, x2, x3, x4, x5⟩⟩ : ByteArray × Stx) :: acc.drop 0 = sortL ltN (fun m : ByteArray × Stx => m.1) ((s3.map gS).take (i + 1)) := by rw [hst]; exact ins_at (lt := ltN) (nm := (fun m : ByteArray × Stx => m.1)) (l := acc) (k := 0) hz (fun _ h => absurd h (by omega)) (by omega)
      simp -implicitDefEqProofs only [bV.d, oS.d, J0, J1, J2, J3, J4, J5, J6, J7, ↓reduceIte, reduceCtorEq, h00, hw]
      rw [← hL, hins]
      refine ⟨i + 1, by omega, by omega, ?_⟩
      exact (keepI [0, 1, 2, 3, 4, 5] _ (WkH.refl _) rfl rfl rfl ⟨⟨_, WkV.refl _, rfl⟩, ⟨_, WkV.refl _, rfl⟩, ⟨_, WkV.refl _, rfl⟩, ⟨_, WkV.refl _, rfl⟩, trivial⟩)
    · have h00 : ((0 : Int) < ((j + 1 : Nat) : Int)) = True := by simp only [eq_iff_iff, iff_true]; omega
      obtain ⟨y, hy⟩ := rowOf (l := acc) (i := j) (by omega)
      have hyb := hyn y (List.mem_of_getElem? hy)
      have w1 : IntKind.i64.wrap (((j + 1 : Nat) : Int) - 1) = (j : Int) := wrapS1 (a := j + 1) (c := j) rfl (by omega)
      have l1 : ((j + 1 : Nat) : Int) < ((i + 1 : Nat) : Int) := by omega
      have l2 : (j : Int) < ((i + 1 : Nat) : Int) := by omega
      have p1 := midG_get (n := (⟨xn, ⟨x1, x2, x3, x4, x5⟩⟩ : ByteArray × Stx)) (l := acc) (k := j + 1) (by omega)
      have p2 := midG_pred (n := (⟨xn, ⟨x1, x2, x3, x4, x5⟩⟩ : ByteArray × Stx)) (l := acc) (by omega) hy
      have p3 := midG_swap (n := (⟨xn, ⟨x1, x2, x3, x4, x5⟩⟩ : ByteArray × Stx)) (l := acc) (by omega) hy
      obtain ⟨yn, ⟨y1, y2, y3, y4, y5⟩⟩ := y
      have hg1 : ((acc.take (j + 1) ++ (⟨xn, ⟨x1, x2, x3, x4, x5⟩⟩ : ByteArray × Stx) :: acc.drop (j + 1)).map encSm)[j + 1]? = some [.str xn, .sl (x1.map encTym), .sl (x2.map encVam), .sl (encSt.subs x3), .sl (encSt.funs x4), .sl (encSt.sigs x5)] := by rw [List.getElem?_map, p1]; rfl
      have hg2 : ((acc.take (j + 1) ++ (⟨xn, ⟨x1, x2, x3, x4, x5⟩⟩ : ByteArray × Stx) :: acc.drop (j + 1)).map encSm)[j]? = some [.str yn, .sl (y1.map encTym), .sl (y2.map encVam), .sl (encSt.subs y3), .sl (encSt.funs y4), .sl (encSt.sigs y5)] := by rw [List.getElem?_map, p2]; rfl
      have hg3 : (((acc.take (j + 1) ++ (⟨xn, ⟨x1, x2, x3, x4, x5⟩⟩ : ByteArray × Stx) :: acc.drop (j + 1)).map encSm).set (j + 1) [.str yn, .sl (y1.map encTym), .sl (y2.map encVam), .sl (encSt.subs y3), .sl (encSt.funs y4), .sl (encSt.sigs y5)])[j]? = some [.str yn, .sl (y1.map encTym), .sl (y2.map encVam), .sl (encSt.subs y3), .sl (encSt.funs y4), .sl (encSt.sigs y5)] := by rw [List.getElem?_set_ne (by omega)]; exact hg2
      have hsw : (((acc.take (j + 1) ++ (⟨xn, ⟨x1, x2, x3, x4, x5⟩⟩ : ByteArray × Stx) :: acc.drop (j + 1)).map encSm).set (j + 1) [.str yn, .sl (y1.map encTym), .sl (y2.map encVam), .sl (encSt.subs y3), .sl (encSt.funs y4), .sl (encSt.sigs y5)]).set j [.str xn, .sl (x1.map encTym), .sl (x2.map encVam), .sl (encSt.subs x3), .sl (encSt.funs x4), .sl (encSt.sigs x5)] = (acc.take j ++ (⟨xn, ⟨x1, x2, x3, x4, x5⟩⟩ : ByteArray × Stx) :: acc.drop j).map encSm := by rw [← p3, List.map_set, List.map_set]; rfl
      rw [hL] at hg1 hg2 hg3 hsw
      have hcm := vc_ncmp xn yn hxn hyb
      simp -implicitDefEqProofs only [bV.d, oS.d, J0, J1, J2, J3, J4, J5, J6, J7, ↓reduceIte, reduceCtorEq, h00, w1, l1, l2, hg1, hg2, Int.natCast_nonneg, Int.toNat_natCast]
      refine callS [] (hcm) rfl rfl rfl ?_
      rintro _ _ ⟨rfl, rfl⟩
      refine ⟨_, _, rfl, ?_⟩
      by_cases hlt : cmpL xn.data.toList yn.data.toList < 0
      · have e1 : (cmpL xn.data.toList yn.data.toList < 0) = True := by simp [hlt]
        simp -implicitDefEqProofs only [bV.d, oS.d, J0, J1, J2, J3, J4, J5, J6, J7, ↓reduceIte, reduceCtorEq, e1, hg3, h00, w1, l1, l2, hg1, hg2, Int.natCast_nonneg, Int.toNat_natCast]
        rw [hsw, List.map_append, List.map_cons]
        refine ⟨j, ⟨by omega, fun z hzz => ?_⟩, by omega, ?_⟩
        · rw [drop_cons hy] at hzz
          rcases List.mem_cons.1 hzz with rfl | h
          · exact decide_eq_true hlt
          · exact hz z h
        · exact (keepI [0, 1, 2, 3, 4, 5] _ (WkH.refl _) rfl rfl rfl ⟨⟨_, WkV.refl _, rfl⟩, ⟨_, WkV.refl _, rfl⟩, ⟨_, WkV.refl _, rfl⟩, ⟨_, WkV.refl _, rfl⟩, ⟨_, WkV.refl _, rfl⟩, trivial⟩)
      · have e1 : (cmpL xn.data.toList yn.data.toList < 0) = False := by simp [hlt]
        simp -implicitDefEqProofs only [bV.d, oS.d, J0, J1, J2, J3, J4, J5, J6, J7, ↓reduceIte, reduceCtorEq, e1, hw, h00, w1, l1, l2, hg1, hg2, Int.natCast_nonneg, Int.toNat_natCast]
        have hins : acc.take (j + 1) ++ (⟨xn, ⟨x1, x2, x3, x4, x5⟩⟩ : ByteArray × Stx) :: acc.drop (j + 1) = sortL ltN (fun m : ByteArray × Stx => m.1) ((s3.map gS).take (i + 1)) := by rw [hst]; exact ins_at (lt := ltN) (nm := (fun m : ByteArray × Stx => m.1)) hz (fun z _ hzz => by rw [show j + 1 - 1 = j from rfl, hy] at hzz; cases hzz; simp only [ltN, decide_eq_true_eq]; exact hlt) (by omega)
        rw [← hL, hins]
        refine ⟨i + 1, by omega, by omega, ?_⟩
        exact (keepI [0, 1, 2, 3, 4, 5] _ (WkH.refl _) rfl rfl rfl ⟨⟨_, WkV.refl _, rfl⟩, ⟨_, WkV.refl _, rfl⟩, ⟨_, WkV.refl _, rfl⟩, ⟨_, WkV.refl _, rfl⟩, trivial⟩)
  have hc : ((i : Int) < (s3.length : Int)) = False := by simp; omega
  have hie : i = s3.length := by omega
  subst hie
  have hfull : (s3.map gS).take s3.length = (s3.map gS) := List.take_of_length_le (by rw [List.length_map]; exact Nat.le_refl _)
  rw [hfull] at htk2
  simp only [hfull]
  simp -implicitDefEqProofs only [bV.d, oS.d, J0, J1, J2, J3, J4, J5, J6, J7, ↓reduceIte, reduceCtorEq, hc, encSubs_len, List.length_map]
  have k3 := htk2
  clear hc h5 htk2 hacc hw hi hfull
  refine callS [] (c4) rfl rfl rfl ?_
  rintro _ _ ⟨rfl, rfl⟩
  refine ⟨_, _, rfl, ?_⟩
  simp -implicitDefEqProofs only [bV.d, oS.d, J0, J1, J2, J3, J4, J5, J6, J7, ↓reduceIte, reduceCtorEq]
  refine callS [] (c5) rfl rfl rfl ?_
  rintro _ _ ⟨rfl, rfl⟩
  refine ⟨_, _, rfl, ?_⟩
  simp -implicitDefEqProofs only [bV.d, oS.d, J0, J1, J2, J3, J4, J5, J6, J7, ↓reduceIte, reduceCtorEq]
  apply vend_of []
  · simp only [vres, lk_cons, Nat.reduceBEq, cond_true, cond_false, ti122, ti131, ti154, ti23, ti24, ti25, ti26, ti27, ti29, ti9, vload, List.getElem?_cons_succ, List.getElem?_cons_zero, mkV, List.drop_zero, List.length_cons, List.length_nil, Nat.reduceAdd, Nat.le_refl, if_true, List.take_succ_cons, List.take_zero, List.map_cons, List.map_nil, Nat.reduceLeDiff]; rfl
  · first | rfl | (simp [fin, nodup, handO, lendR, lendV, lendLs, lendL, idx, vone, renL, lendVs, renO, renL.renLs]; first | exact ⟨rfl, rfl⟩ | exact ⟨rfl, rfl, rfl⟩)
  rw [k1, k2, k3]
  refine ⟨?_, rfl⟩
  show V.agg _ = V.agg ((encSt (sortSt ltN (.mk s1 s2 s3 s4 s5))).map .d)
  simp only [sortSt, encSt, sortS_map, sortF_map, sortG_map, encSubs_s, List.map_cons, List.map_nil]
  rfl

end Go.Vt.Tryz
set_option maxRecDepth 100000
set_option linter.unusedSimpArgs false
namespace Go.Vt.Tryz
open Go.Proofs Go.Vt.Al


theorem skip_le : ∀ (n : Nat) (t : List Int) (k : Int), t.length ≤ n → skipF t k ≤ k + t.length := by
  intro n
  induction n with
  | zero =>
    intro t k h
    have : t = [] := List.length_eq_zero_iff.1 (by omega)
    subst this
    rw [skipF_stop (by simp)]
    simp
  | succ n ih =>
    intro t k h
    by_cases hk : k ∈ t
    · rw [skipF, dif_pos hk]
      have h2 := List.length_erase_of_mem hk
      have h3 := List.length_pos_of_mem hk
      have := ih (t.erase k) (k + 1) (by omega)
      omega
    · rw [skipF_stop hk]
      omega

def Nb (C : Nat) (w w' : WS) (c : Nat) : Prop := w'.next ≤ w.next + ((c * C : Nat) : Int)
theorem Nb.refl (C : Nat) (w : WS) : Nb C w w 0 := by unfold Nb; simp
theorem Nb.trans {C : Nat} {a b c : WS} {m n : Nat} (h1 : Nb C a b m) (h2 : Nb C b c n) : Nb C a c (m + n) := by
  unfold Nb at *
  rw [Nat.add_mul]
  omega
theorem Nb.mono {C : Nat} {a b : WS} {m n : Nat} (h : Nb C a b m) (hm : m ≤ n) : Nb C a b n := by
  unfold Nb at *
  have := Nat.mul_le_mul_right C hm
  omega

section
variable {tk : List Int} {sb : Int → Int}

theorem nb_stamp {A : List Int} (n : Int) (w : WS) : Nb (tk.length + 1) w (stampF tk sb A n w).2 1 := by
  unfold Nb stampF
  have h := skip_le tk.length tk w.next (Nat.le_refl _)
  cases lastIdx A n with
  | some i =>
    simp only
    split
    · simp only; omega
    · simp only; omega
  | none => simp only; omega

theorem nb_map {α β : Type} {f : α → WS → β × WS} {c : α → Nat} {C : Nat} : ∀ (l : List α), (∀ a ∈ l, ∀ w, Nb C w (f a w).2 (c a)) → ∀ w, Nb C w (mapW f l w).2 (sumN c l)
  | [], _, w => Nb.refl C w
  | a :: l, h, w => (h a (by simp) w).trans (nb_map l (fun b hb => h b (by simp [hb])) _)

theorem nb_ty {A : List Int} : ∀ (t : Ty) (w : WS), Nb (tk.length + 1) w (tyF tk sb A t w).2 (tyn t) := by
  intro t
  induction t using Ty.ind with
  | h k n l ih =>
  intro w
  simp only [tyF, tyn, go_map, tyn_go]
  refine Nb.trans (b := if k = kindStamp then (stampF tk sb A n w).2 else w) ?_ (nb_map l ih _)
  split
  · exact nb_stamp n w
  · exact (Nb.refl _ w).mono (Nat.zero_le _)
theorem nb_ct {A : List Int} (c : Ct) (w : WS) : Nb (tk.length + 1) w (ctF tk sb A c w).2 (ctn c) := by
  simp only [ctF, go_map, ctn_e]
  exact (nb_map c.args (fun t _ w => nb_ty t w) w).mono (by omega)
theorem nb_tym {A : List Int} (m : Tym) (w : WS) : Nb (tk.length + 1) w (tymF tk sb A m w).2 (tymn m) := by
  have h := (nb_ty (tk := tk) (sb := sb) (A := A) m.t w).trans (nb_map (f := ctF tk sb A) (c := ctn) m.cts (fun c _ w => nb_ct c w) (tyF tk sb A m.t w).2)
  exact h.mono (by rw [tymn_e]; omega)
theorem nb_vam {A : List Int} (m : Vam) (w : WS) : Nb (tk.length + 1) w (vamF tk sb A m w).2 (vamn m) := (nb_ty (tk := tk) (sb := sb) (A := A) m.s.t w).mono (by rw [vamn_e]; omega)
theorem nb_str : ∀ (s : Stx) (A : List Int) (w : WS), Nb (tk.length + 1) w (strF tk sb A s w).2 (stn s) := by
  intro s
  induction s using Stx.ind with
  | h ts vs ss fs gs i1 i2 i3 =>
  intro A w
  rw [str_mapW]
  simp only [stn, goS_sum, goF_sum, goG_sum]
  have b1 := nb_map (f := tymF tk sb A) (c := tymn) ts (fun m _ w => nb_tym m w) w
  have b2 := nb_map (f := vamF tk sb A) (c := vamn) vs (fun m _ w => nb_vam m w) (mapW (tymF tk sb A) ts w).2
  generalize (mapW (vamF tk sb A) vs (mapW (tymF tk sb A) ts w).2).2 = w2 at b2 ⊢
  have b3 := nb_map (f := subE tk sb A) (c := subz) (C := tk.length + 1) ss (fun x hx w => (i1 x hx A w).mono (by rw [subz_e]; omega)) w2
  generalize (mapW (subE tk sb A) ss w2).2 = w3 at b3 ⊢
  have b4 := nb_map (f := funE tk sb A) (c := funz) (C := tk.length + 1) fs (fun x hx w => by
    have k1 := (i2 x hx).1 (A ++ x.2.1) (enterF x.2.1.length w)
    have k2 := (i2 x hx).2 (A ++ x.2.1 ++ x.2.2.2.1) (enterF x.2.2.2.1.length (strF tk sb (A ++ x.2.1) x.2.2.1 (enterF x.2.1.length w)).2)
    have k3 : Nb (tk.length + 1) w (funE tk sb A x w).2 _ := k1.trans k2
    exact k3.mono (by rw [funz_e]; omega)) w3
  generalize (mapW (funE tk sb A) fs w3).2 = w4 at b4 ⊢
  have b5 := nb_map (f := sigE tk sb A) (c := sigz) (C := tk.length + 1) gs (fun x hx w => by
    have k1 := i3 x hx (A ++ x.2.1) (enterF x.2.1.length w)
    have k3 : Nb (tk.length + 1) w (sigE tk sb A x w).2 _ := k1
    exact k3.mono (by rw [sigz_e]; omega)) w4
  exact ((((b1.trans b2).trans b3).trans b4).trans b5).mono (by omega)
end


theorem sum_ins {α : Type} {lt : ByteArray → ByteArray → Bool} {nm : α → ByteArray} {f : α → Nat} {x : α} : ∀ l : List α, sumN f (insR lt nm x l) = f x + sumN f l
  | [] => rfl
  | y :: r => by unfold insR; split <;> simp only [sumN, sum_ins r] <;> omega
theorem sum_app {α : Type} {f : α → Nat} : ∀ (l r : List α), sumN f (l ++ r) = sumN f l + sumN f r
  | [], r => by simp [sumN]
  | a :: l, r => by simp only [List.cons_append, sumN, sum_app l r]; omega
theorem sum_rev {α : Type} {f : α → Nat} : ∀ l : List α, sumN f l.reverse = sumN f l
  | [] => rfl
  | a :: l => by simp only [List.reverse_cons, sum_app, sum_rev l, sumN]; omega
theorem sum_sort {α : Type} {lt : ByteArray → ByteArray → Bool} {nm : α → ByteArray} {f : α → Nat} (l : List α) : sumN f (sortL lt nm l) = sumN f l := by
  have : ∀ (l acc : List α), sumN f (l.foldl (fun acc x => insR lt nm x acc) acc) = sumN f acc + sumN f l := by
    intro l
    induction l with
    | nil => intro acc; simp [sumN]
    | cons x l ih => intro acc; simp only [List.foldl_cons, ih, sum_ins, sumN]; omega
  unfold sortL
  rw [sum_rev, this]
  simp [sumN]
theorem sum_map {α β : Type} {f : β → Nat} {g : α → β} : ∀ l : List α, sumN f (l.map g) = sumN (fun a => f (g a)) l
  | [] => rfl
  | a :: l => by simp only [List.map_cons, sumN, sum_map l]
theorem sum_congr {α : Type} {f g : α → Nat} : ∀ {l : List α}, (∀ a ∈ l, f a = g a) → sumN f l = sumN g l
  | [], _ => rfl
  | a :: l, h => by
    simp only [sumN]
    rw [h a (by simp), sum_congr (f := f) (g := g) (l := l) fun b hb => h b (List.mem_cons_of_mem _ hb)]
theorem sum_le {α β : Type} {f : α → Nat} {g : β → Nat} {F : α → WS → β × WS} {k : Nat} : ∀ {l : List α}, (∀ a ∈ l, ∀ w, w.nums.length = k → g (F a w).1 ≤ f a ∧ (F a w).2.nums.length = k) → ∀ w, w.nums.length = k → sumN g (mapW F l w).1 ≤ sumN f l
  | [], _, _, _ => Nat.le_refl _
  | a :: l, h, w, hw => by
    have h1 := h a (by simp) w hw
    have h2 := sum_le (g := g) (f := f) (F := F) (k := k) (l := l) (fun b hb => h b (by simp [hb])) (F a w).2 h1.2
    simp only [mapW, sumN]
    omega

theorem stn_sort (lt : ByteArray → ByteArray → Bool) : ∀ s : Stx, stn (sortSt lt s) = stn s := by
  intro s
  induction s using Stx.ind with
  | h ts vs ss fs gs i1 i2 i3 =>
  simp only [sortSt, stn, goS_sum, goF_sum, goG_sum, sum_sort, sortS_map, sortF_map, sortG_map, sum_map]
  have e1 : sumN (fun a : ByteArray × Stx => subz (a.1, sortSt lt a.2)) ss = sumN subz ss := sum_congr fun a ha => by simp only [subz, i1 a ha]
  have e2 : sumN (fun a : ByteArray × FnE => funz (a.1, a.2.1, sortSt lt a.2.2.1, a.2.2.2.1, sortSt lt a.2.2.2.2)) fs = sumN funz fs := sum_congr fun a ha => by simp only [funz, (i2 a ha).1, (i2 a ha).2]
  have e3 : sumN (fun a : SigE => sigz (a.1, a.2.1, sortSt lt a.2.2)) gs = sumN sigz gs := sum_congr fun a ha => by simp only [sigz, i3 a ha]
  rw [e1, e2, e3]

section
variable {tk : List Int} {sb : Int → Int}

theorem tyn_ty {A : List Int} : ∀ (t : Ty) (w : WS), tyn (tyF tk sb A t w).1 = tyn t := by
  intro t
  induction t using Ty.ind with
  | h k n l ih =>
  intro w
  have h : ∀ (l : List Ty), (∀ t ∈ l, ∀ w, tyn (tyF tk sb A t w).1 = tyn t) → ∀ w, tyn.go (tyF.go tk sb A l w).1 = tyn.go l := by
    intro l
    induction l with
    | nil => intro _ w; rfl
    | cons t r ih2 => intro h w; simp only [tyF.go, tyn.go, h t (by simp) w, ih2 fun t ht => h t (by simp [ht])]
  simp only [tyF, tyn, h l ih]
theorem ctn_ct {A : List Int} (c : Ct) (w : WS) : ctn (ctF tk sb A c w).1 = ctn c := by
  have h : ∀ (l : List Ty) (w : WS), tyn.go (tyF.go tk sb A l w).1 = tyn.go l := by
    intro l
    induction l with
    | nil => intro w; rfl
    | cons t r ih2 => intro w; simp only [tyF.go, tyn.go, tyn_ty t w, ih2]
  simp only [ctF, ctn, h]
theorem tymn_tym {A : List Int} (m : Tym) (w : WS) : tymn (tymF tk sb A m w).1 = tymn m := by
  have h : ∀ (l : List Ct) (w : WS), sumN ctn (mapW (ctF tk sb A) l w).1 = sumN ctn l := by
    intro l
    induction l with
    | nil => intro w; rfl
    | cons t r ih2 => intro w; simp only [mapW, sumN, ctn_ct t w, ih2]
  simp only [tymF, tymn, tyn_ty, h]
theorem vamn_vam {A : List Int} (m : Vam) (w : WS) : vamn (vamF tk sb A m w).1 = vamn m := by simp only [vamF, vamn, tyn_ty]

theorem stn_str : ∀ (s : Stx) (A : List Int) (w : WS), w.nums.length = A.length → stn (strF tk sb A s w).1 ≤ stn s := by
  intro s
  induction s using Stx.ind with
  | h ts vs ss fs gs i1 i2 i3 =>
  intro A w hw
  rw [str_mapW]
  simp only [stn, goS_sum, goF_sum, goG_sum]
  have b1 := bh_map (f := tymF tk sb A) (c := tymn) ts (fun m _ w => bh_tym m w) w
  have b2 := bh_map (f := vamF tk sb A) (c := vamn) vs (fun m _ w => bh_vam m w) (mapW (tymF tk sb A) ts w).2
  have c1 := sum_le (f := tymn) (g := tymn) (F := tymF tk sb A) (k := A.length) (l := ts) (fun m _ w hw => ⟨Nat.le_of_eq (tymn_tym m w), (bh_tym m w).1.trans hw⟩) w hw
  have hw1 := b1.1.trans hw
  have c2 := sum_le (f := vamn) (g := vamn) (F := vamF tk sb A) (k := A.length) (l := vs) (fun m _ w hw => ⟨Nat.le_of_eq (vamn_vam m w), (bh_vam m w).1.trans hw⟩) _ hw1
  have hw2 := b2.1.trans hw1
  generalize (mapW (vamF tk sb A) vs (mapW (tymF tk sb A) ts w).2).2 = w2 at hw2 ⊢
  have c3 := sum_le (f := subz) (g := subz) (F := subE tk sb A) (k := A.length) (l := ss) (fun x hx w hw => ⟨by have := i1 x hx A w hw; simp only [subE, subz]; omega, (bh_str x.2 A w hw).1.trans hw⟩) w2 hw2
  have b3 := bh_map2 (f := subE tk sb A) (c := subz) (k := A.length) ss (fun x _ w hw => (bh_str x.2 A w hw).mono (by rw [subz_e]; omega)) w2 hw2
  have hw3 := b3.1.trans hw2
  generalize (mapW (subE tk sb A) ss w2).2 = w3 at hw3 ⊢
  have c4 := sum_le (f := funz) (g := funz) (F := funE tk sb A) (k := A.length) (l := fs) (fun x hx w hw => by
    have h1 := (i2 x hx).1 (A ++ x.2.1) (enterF x.2.1.length w) (enter_len hw)
    have k1 := bh_str (tk := tk) (sb := sb) x.2.2.1 (A ++ x.2.1) (enterF x.2.1.length w) (enter_len hw)
    have l1 := k1.1.trans (enter_len (l := x.2.1) hw)
    have h2 := (i2 x hx).2 (A ++ x.2.1 ++ x.2.2.2.1) (enterF x.2.2.2.1.length (strF tk sb (A ++ x.2.1) x.2.2.1 (enterF x.2.1.length w)).2) (enter_len l1)
    have k2 := bh_str (tk := tk) (sb := sb) x.2.2.2.2 (A ++ x.2.1 ++ x.2.2.2.1) (enterF x.2.2.2.1.length (strF tk sb (A ++ x.2.1) x.2.2.1 (enterF x.2.1.length w)).2) (enter_len l1)
    have l2 := k2.1.trans (enter_len (l := x.2.2.2.1) l1)
    refine ⟨?_, (bh_fn x.2 w hw).1.trans hw⟩
    simp only [funE, fnF, absF, funz, leaveF]
    have u1 := used_length ((((strF tk sb (A ++ x.2.1 ++ x.2.2.2.1) x.2.2.2.2 (enterF x.2.2.2.1.length (strF tk sb (A ++ x.2.1) x.2.2.1 (enterF x.2.1.length w)).2)).2.nums.take (A ++ x.2.1).length)).drop A.length)
    have u2 := used_length ((strF tk sb (A ++ x.2.1 ++ x.2.2.2.1) x.2.2.2.2 (enterF x.2.2.2.1.length (strF tk sb (A ++ x.2.1) x.2.2.1 (enterF x.2.1.length w)).2)).2.nums.drop (A ++ x.2.1).length)
    simp only [List.length_drop, List.length_take, List.length_append] at u1 u2 l2 ⊢
    omega) w3 hw3
  have b4 := bh_map2 (f := funE tk sb A) (c := funz) (k := A.length) fs (fun x _ w hw => (bh_fn x.2 w hw).mono (by rw [funz_e]; omega)) w3 hw3
  have hw4 := b4.1.trans hw3
  generalize (mapW (funE tk sb A) fs w3).2 = w4 at hw4 ⊢
  have c5 := sum_le (f := sigz) (g := sigz) (F := sigE tk sb A) (k := A.length) (l := gs) (fun x hx w hw => by
    have h1 := i3 x hx (A ++ x.2.1) (enterF x.2.1.length w) (enter_len hw)
    have k1 := bh_str (tk := tk) (sb := sb) x.2.2 (A ++ x.2.1) (enterF x.2.1.length w) (enter_len hw)
    have l1 := k1.1.trans (enter_len (l := x.2.1) hw)
    refine ⟨?_, (bh_abs x.2 w hw).1.trans hw⟩
    simp only [sigE, absF, sigz]
    have u1 := used_length ((strF tk sb (A ++ x.2.1) x.2.2 (enterF x.2.1.length w)).2.nums.drop A.length)
    simp only [List.length_drop, List.length_append] at u1 l1 ⊢
    omega) w4 hw4
  omega
end

end Go.Vt.Tryz
set_option maxRecDepth 100000
set_option linter.unusedSimpArgs false
namespace Go.Vt.Tryz
open Go.Vt renaming vslice → J0
open Nat renaming reduceBEq → J1, reduceEqDiff → J2, reduceLT → J3, reduceLeDiff → J4, reduceAdd → J5, reduceMul → J6, reduceSub → J7
open Go.Proofs Go.Vt.Al

def nmOk : Stx → Prop
  | .mk ts vs ss fs gs => (∀ m ∈ ts, m.name.size < 100000000000) ∧ (∀ m ∈ vs, m.name.size < 100000000000) ∧ goS ss ∧ goF fs ∧ goG gs
  where
  goS : List (ByteArray × Stx) → Prop
    | [] => True
    | (s, x) :: l => s.size < 100000000000 ∧ nmOk x ∧ goS l
  goF : List (ByteArray × List Int × Stx × List Int × Stx) → Prop
    | [] => True
    | (s, _, x, _, y) :: l => s.size < 100000000000 ∧ nmOk x ∧ nmOk y ∧ goF l
  goG : List (ByteArray × List Int × Stx) → Prop
    | [] => True
    | (s, _, y) :: l => s.size < 100000000000 ∧ nmOk y ∧ goG l

theorem nmS : ∀ {l : List (ByteArray × Stx)}, nmOk.goS l → ∀ x ∈ l, x.1.size < 100000000000 ∧ nmOk x.2
  | (s, x) :: l, h, y, hy => by
    rcases List.mem_cons.1 hy with rfl | hy
    · exact ⟨h.1, h.2.1⟩
    · exact nmS h.2.2 y hy
theorem nmF : ∀ {l : List (ByteArray × FnE)}, nmOk.goF l → ∀ x ∈ l, x.1.size < 100000000000 ∧ nmOk x.2.2.1 ∧ nmOk x.2.2.2.2
  | (s, p, x, q, y) :: l, h, z, hz => by
    rcases List.mem_cons.1 hz with rfl | hz
    · exact ⟨h.1, h.2.1, h.2.2.1⟩
    · exact nmF h.2.2.2 z hz
theorem nmG : ∀ {l : List SigE}, nmOk.goG l → ∀ x ∈ l, x.1.size < 100000000000 ∧ nmOk x.2.2
  | (s, q, y) :: l, h, z, hz => by
    rcases List.mem_cons.1 hz with rfl | hz
    · exact ⟨h.1, h.2.1⟩
    · exact nmG h.2.2 z hz

theorem vc_rsorted : ∀ (s : Stx), stn s < 1000000000 → nmOk s → SortOk s := by
  intro s
  induction s using Stx.ind with
  | h ts vs ss fs gs i1 i2 i3 =>
  intro hs hn
  simp only [stn] at hs
  obtain ⟨n1, n2, n3, n4, n5⟩ := hn
  have l1 := sumN_length (f := tymn) (fun t => by unfold tymn; omega) ts
  have l2 := sumN_length (f := vamn) (fun t => by unfold vamn; omega) vs
  have l3 := goS_length ss
  have l4 := goF_length fs
  have l5 := goG_length gs
  refine vc_sorted142 ts vs ss fs gs (by omega) (by omega) (by omega) (by omega) (by omega) n1 n2 (fun x hx => (nmS n3 x hx).1) (fun x hx => (nmF n4 x hx).1) (fun x hx => (nmG n5 x hx).1)
    (fun x hx => i1 x hx ?_ (nmS n3 x hx).2) (fun x hx => ⟨(i2 x hx).1 ?_ (nmF n4 x hx).2.1, (i2 x hx).2 ?_ (nmF n4 x hx).2.2⟩) (fun x hx => i3 x hx ?_ (nmG n5 x hx).2)
  · have := stn_mem hx; omega
  · have := stn_memF hx; omega
  · have := stn_memF hx; omega
  · have := stn_memG hx; omega

theorem subF_nil : subF [] [] = id := by funext n; rfl

theorem abs0 {tk : List Int} {sb : Int → Int} (a : List Int × Stx) (hs : stn a.2 < 10000000) (ht : tk.length < 10000000) :
    (absF tk sb [] a w0).2.next < 1000000000000000 ∧ (absF tk sb [] a w0).2.free.length ≤ stn a.2 := by
  have h1 := nb_str (tk := tk) (sb := sb) a.2 ([] ++ a.1) (enterF a.1.length w0)
  have h2 := bh_abs (tk := tk) (sb := sb) (A := []) a w0 rfl
  refine ⟨?_, by have := h2.2.2; simpa [w0] using this⟩
  have h3 : (absF tk sb [] a w0).2.next ≤ 0 + ((stn a.2 * (tk.length + 1) : Nat) : Int) := h1
  have h4 : stn a.2 * (tk.length + 1) ≤ 10000000 * 10000000 := Nat.mul_le_mul (by omega) (by omega)
  omega

theorem vc_rfree (l : List Int) (s : Stx) (hl : l.length < 10000000) (hs : stn s < 10000000) : VC Tryz.prog 9 [abW l s] [] fun r h' => r = .one (.d (.sl (nums (freeF (l, s))))) ∧ h' = [] := by
  have hb := abs0 (tk := []) (sb := id) (l, s) hs (by simp)
  have c := vc_wabs [] [] [] (vc_wstr [] [] [] (by simp) (by simp) (by simp) s (by omega)) l [] w0 0 [] rfl (by simp; omega) (by simp [w0]; omega) (Int.le_refl _) (by rw [subF_nil]; exact hb.1)
  rw [subF_nil] at c
  unfold freeF
  generalize absF [] id [] (l, s) w0 = R at c
  obtain ⟨⟨r0, ⟨r1, r2, r3, r4, r5⟩⟩, w1⟩ := R
  obtain ⟨s1, s2, s3, s4, s5⟩ := s
  simp only [wb, wa] at c
  simp only [abW, encSt, List.map_cons, List.map_nil] at c ⊢
  refine VC_of_fn mixed fn9 (by simp) ?_
  show vwp Tryz.prog 0 vc9 _ [(0, .agg [.d (.sl (nums l)), .d (.sl (s1.map encTym)), .d (.sl (s2.map encVam)), .d (.sl (encSt.subs s3)), .d (.sl (encSt.funs s4)), .d (.sl (encSt.sigs s5))])] []
  unfold vc9
  rw [vwpI_eq]
  simp -implicitDefEqProofs only [bV.d, oS.d, J0, J1, J2, J3, J4, J5, J6, J7, ↓reduceIte, reduceCtorEq]
  refine callB [(1, 0, 2)] _ [.box [.d (.sl (nums l)), .d (.sl (s1.map encTym)), .d (.sl (s2.map encVam)), .d (.sl (encSt.subs s3)), .d (.sl (encSt.funs s4)), .d (.sl (encSt.sigs s5))], .box [.own 2 0 0, .d (.sl []), .d (.sl []), .d (.int .i64 0), .d (.sl []), .d (.sl [])], .arr false 2 0 []] [1, 2] rfl (WkV.allRefl _)
    ⟨WkO.refl _, ⟨.inl rfl, .inl rfl, .inr (.inl ⟨rfl, rfl⟩), .inr (.inl ⟨rfl, rfl⟩), .inl rfl, .inr (.inl ⟨rfl, rfl⟩), .inr (.inl ⟨rfl, rfl⟩), trivial⟩, WkO.refl _, trivial⟩ c rfl rfl rfl ?_
  rintro _ _ ⟨rfl, v1, X1, rfl⟩
  refine ⟨_, _, rfl, ?_⟩
  simp -implicitDefEqProofs only [bV.d, oS.d, J0, J1, J2, J3, J4, J5, J6, J7, ↓reduceIte, reduceCtorEq]
  apply vend_of []; rfl; rfl
  exact ⟨rfl, rfl⟩

theorem vc_rcanon (l : List Int) (s : Stx) (hl : l.length < 10000000) (hs : stn s < 10000000) (hn : nmOk s) : VC Tryz.prog 14 [abW l s] [] fun r h' => r = abW (canonF ltN (l, s)).1 (canonF ltN (l, s)).2 ∧ h' = [] := by
  have c1 := vc_rfree l s hl hs
  have c2 := vc_rsorted s (by omega) hn
  have hf := (abs0 (tk := []) (sb := id) (l, s) hs (by simp)).2
  have hfl : (freeF (l, s)).length ≤ stn s := hf
  have hss := stn_sort ltN s
  have hb := abs0 (tk := freeF (l, s)) (sb := id) (l, sortSt ltN s) (by simp only; omega) (by omega)
  have c3 := vc_wabs [] [] (freeF (l, s)) (vc_wstr [] [] (freeF (l, s)) (by simp) (by simp) (by omega) (sortSt ltN s) (by omega)) l [] w0 0 [] rfl (by simp; omega) (by simp [w0]; omega) (Int.le_refl _) (by rw [subF_nil]; exact hb.1)
  rw [subF_nil] at c3
  unfold SortOk at c2
  unfold canonF
  simp only
  generalize freeF (l, s) = fr at c1 c3
  generalize sortSt ltN s = t at c2 c3
  generalize absF fr id [] (l, t) w0 = R at c3
  obtain ⟨⟨r0, ⟨r1, r2, r3, r4, r5⟩⟩, w1⟩ := R
  obtain ⟨s1, s2, s3, s4, s5⟩ := s
  obtain ⟨t1, t2, t3, t4, t5⟩ := t
  simp only [wb, wa] at c3
  simp only [abW, stW, encSt, List.map_cons, List.map_nil] at c1 c2 c3 ⊢
  refine VC_of_fn mixed fn14 (by simp) ?_
  show vwp Tryz.prog 0 vc14 _ [(0, .agg [.d (.sl (nums l)), .d (.sl (s1.map encTym)), .d (.sl (s2.map encVam)), .d (.sl (encSt.subs s3)), .d (.sl (encSt.funs s4)), .d (.sl (encSt.sigs s5))])] []
  unfold vc14
  rw [vwpI_eq]
  simp -implicitDefEqProofs only [bV.d, oS.d, J0, J1, J2, J3, J4, J5, J6, J7, ↓reduceIte, reduceCtorEq]
  refine callS [] (c1) rfl rfl rfl ?_
  rintro _ _ ⟨rfl, rfl⟩
  refine ⟨_, _, rfl, ?_⟩
  simp -implicitDefEqProofs only [bV.d, oS.d, J0, J1, J2, J3, J4, J5, J6, J7, ↓reduceIte, reduceCtorEq]
  refine callS [] (c2) rfl rfl rfl ?_
  rintro _ _ ⟨rfl, rfl⟩
  refine ⟨_, _, rfl, ?_⟩
  simp -implicitDefEqProofs only [bV.d, oS.d, J0, J1, J2, J3, J4, J5, J6, J7, ↓reduceIte, reduceCtorEq]
  refine callB [(2, 0, 2)] _ [.box [.d (.sl (nums l)), .d (.sl (s1.map encTym)), .d (.sl (s2.map encVam)), .d (.sl (encSt.subs s3)), .d (.sl (encSt.funs s4)), .d (.sl (encSt.sigs s5))], .box [.nils, .nils, .nils, .nils, .nils, .nils], .box [.own 3 0 0, .d (.sl []), .d (.sl []), .d (.int .i64 0), .d (.sl (nums fr)), .d (.sl [])], .arr false 2 0 []] [2, 3] rfl (WkV.allRefl _)
    ⟨WkO.refl _, WkO.refl _, ⟨.inl rfl, .inl rfl, .inr (.inl ⟨rfl, rfl⟩), .inr (.inl ⟨rfl, rfl⟩), .inl rfl, .inl rfl, .inr (.inl ⟨rfl, rfl⟩), trivial⟩, WkO.refl _, trivial⟩ c3 rfl rfl rfl ?_
  rintro _ _ ⟨rfl, v1, X1, rfl⟩
  refine ⟨_, _, rfl, ?_⟩
  simp -implicitDefEqProofs only [bV.d, oS.d, J0, J1, J2, J3, J4, J5, J6, J7, ↓reduceIte, reduceCtorEq]
  apply vend_of []
  · simp only [vres, lk_cons, Nat.reduceBEq, cond_true, cond_false, ti22, ti29, ti31, vload, List.getElem?_cons_succ, List.getElem?_cons_zero, mkV, List.drop_zero, List.length_cons, List.length_nil, Nat.reduceAdd, Nat.le_refl, if_true, List.take_succ_cons, List.take_zero, List.map_cons, List.map_nil, Nat.reduceLeDiff]; rfl
  · first | rfl | (simp [fin, nodup, handO, lendR, lendV, lendLs, lendL, idx, vone, renL, lendVs, renO, renL.renLs]; first | exact ⟨rfl, rfl⟩ | exact ⟨rfl, rfl, rfl⟩)
  exact ⟨rfl, rfl⟩

end Go.Vt.Tryz
set_option maxRecDepth 100000
set_option linter.unusedSimpArgs false
namespace Go.Vt.Tryz
open Go.Vt renaming vslice → J0
open Nat renaming reduceBEq → J1, reduceEqDiff → J2, reduceLT → J3, reduceLeDiff → J4, reduceAdd → J5, reduceMul → J6, reduceSub → J7
open Go.Proofs Go.Vt.Al

theorem used_len2 {tk : List Int} {sb : Int → Int} (a : List Int × Stx) (w : WS) (hw : w.nums = []) : (absF tk sb [] a w).1.1.length ≤ a.1.length := by
  have h := (bh_str (tk := tk) (sb := sb) a.2 ([] ++ a.1) (enterF a.1.length w) (by simp [enterF, hw])).1
  simp only [absF]
  refine Nat.le_trans (used_length _) ?_
  rw [List.length_drop, h]
  simp [enterF, hw]

theorem vc_rsame (l l' : List Int) (s s' : Stx) (hl : l.length < 10000000) (hs : stn s < 10000000) (hn : nmOk s) (hl' : l'.length < 10000000) (hs' : stn s' < 10000000) (hn' : nmOk s') (he : canonF ltN (l, s) = canonF ltN (l', s')) :
    VC Tryz.prog 8 [abW l s, abW l' s'] [] fun r h' => r = .one (.d (.bool true)) ∧ h' = [] := by
  have c1 := vc_rcanon l s hl hs hn
  have c2 := vc_rcanon l' s' hl' hs' hn'
  rw [← he] at c2
  have b1 := used_len2 (tk := freeF (l, s)) (sb := id) (l, sortSt ltN s) w0 rfl
  have b2 := stn_str (tk := freeF (l, s)) (sb := id) (sortSt ltN s) ([] ++ l) (enterF l.length w0) (by simp [enterF, w0])
  rw [stn_sort] at b2
  have b3 : (canonF ltN (l, s)).1.length ≤ l.length := b1
  have b4 : stn (canonF ltN (l, s)).2 ≤ stn s := b2
  generalize canonF ltN (l, s) = R at c1 c2 b3 b4
  obtain ⟨q, t⟩ := R
  simp only at c1 c2 b3 b4
  have c3 := vc_sameAb q t (by omega) (vc_sameStr t (by omega))
  obtain ⟨s1, s2, s3, s4, s5⟩ := s
  obtain ⟨t1, t2, t3, t4, t5⟩ := t
  obtain ⟨u1, u2, u3, u4, u5⟩ := s'
  simp only [abW, abV, encSt, List.map_cons, List.map_nil] at c1 c2 c3 ⊢
  refine VC_of_fn mixed fn8 (by simp) ?_
  show vwp Tryz.prog 0 vc8 _ [(0, .agg [.d (.sl (nums l)), .d (.sl (s1.map encTym)), .d (.sl (s2.map encVam)), .d (.sl (encSt.subs s3)), .d (.sl (encSt.funs s4)), .d (.sl (encSt.sigs s5))]), (1, .agg [.d (.sl (nums l')), .d (.sl (u1.map encTym)), .d (.sl (u2.map encVam)), .d (.sl (encSt.subs u3)), .d (.sl (encSt.funs u4)), .d (.sl (encSt.sigs u5))])] []
  unfold vc8
  rw [vwpI_eq]
  simp -implicitDefEqProofs only [bV.d, oS.d, J0, J1, J2, J3, J4, J5, J6, J7, ↓reduceIte, reduceCtorEq]
  refine callS [] (c1) rfl rfl rfl ?_
  rintro _ _ ⟨rfl, rfl⟩
  refine ⟨_, _, rfl, ?_⟩
  simp -implicitDefEqProofs only [bV.d, oS.d, J0, J1, J2, J3, J4, J5, J6, J7, ↓reduceIte, reduceCtorEq]
  refine callS [] (c2) rfl rfl rfl ?_
  rintro _ _ ⟨rfl, rfl⟩
  refine ⟨_, _, rfl, ?_⟩
  simp -implicitDefEqProofs only [bV.d, oS.d, J0, J1, J2, J3, J4, J5, J6, J7, ↓reduceIte, reduceCtorEq]
  refine callS [] (c3) rfl rfl rfl ?_
  rintro _ _ ⟨rfl, rfl⟩
  refine ⟨_, _, rfl, ?_⟩
  simp -implicitDefEqProofs only [bV.d, oS.d, J0, J1, J2, J3, J4, J5, J6, J7, ↓reduceIte, reduceCtorEq]
  apply vend_of []; rfl; rfl
  exact ⟨rfl, rfl⟩

end Go.Vt.Tryz
