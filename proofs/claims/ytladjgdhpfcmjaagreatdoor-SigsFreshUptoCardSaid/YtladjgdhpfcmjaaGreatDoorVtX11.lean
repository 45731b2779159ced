/- The program's renamer: structures. -/
import Derived.Test.YtladjgdhpfcmjaaGreatDoorVtX7
set_option maxRecDepth 100000
set_option linter.unusedSimpArgs false
namespace Go.Vt.Tryz
open Go.Vt renaming vslice → J0
open Nat renaming reduceBEq → J1, reduceEqDiff → J2, reduceLT → J3, reduceLeDiff → J4, reduceAdd → J5, reduceMul → J6, reduceSub → J7
open Go.Proofs Go.Vt.Al

theorem renS_app {A B : List Int} {s : ByteArray} {x x' : Stx} (hx : renSt A B x x') : ∀ {l r : List (ByteArray × Stx)}, renSt.goS A B l r → renSt.goS A B (l ++ [(s, x)]) (r ++ [(s, x')])
  | [], r, h => by
    rw [renSt.goS] at h
    subst h
    show renSt.goS A B [(s, x)] [(s, x')]
    rw [renSt.goS]
    exact ⟨x', [], rfl, hx, by rw [renSt.goS]⟩
  | (s0, x0) :: l, r, h => by
    rw [renSt.goS] at h
    obtain ⟨y, r', rfl, h1, h2⟩ := h
    show renSt.goS A B ((s0, x0) :: (l ++ [(s, x)])) ((s0, y) :: (r' ++ [(s, x')]))
    rw [renSt.goS]
    exact ⟨y, _, rfl, h1, renS_app hx h2⟩
theorem renF_app {A B : List Int} {s : ByteArray} {p p' q q' : List Int} {x x' y y' : Stx} (h1 : bindOk A B p p' (fun n => fvSt x n ∨ (n ∉ q ∧ fvSt y n))) (h2 : renSt (A ++ p) (B ++ p') x x') (h3 : bindOk (A ++ p) (B ++ p') q q' (fvSt y)) (h4 : renSt (A ++ p ++ q) (B ++ p' ++ q') y y') :
    ∀ {l r : List (ByteArray × List Int × Stx × List Int × Stx)}, renSt.goF A B l r → renSt.goF A B (l ++ [(s, p, x, q, y)]) (r ++ [(s, p', x', q', y')])
  | [], r, h => by
    rw [renSt.goF] at h
    subst h
    show renSt.goF A B [(s, p, x, q, y)] [(s, p', x', q', y')]
    rw [renSt.goF]
    exact ⟨p', x', q', y', [], rfl, h1, h2, h3, h4, by rw [renSt.goF]⟩
  | (s0, p0, x0, q0, y0) :: l, r, h => by
    rw [renSt.goF] at h
    obtain ⟨p1, x1, q1, y1, r', rfl, g1, g2, g3, g4, g5⟩ := h
    show renSt.goF A B ((s0, p0, x0, q0, y0) :: (l ++ [(s, p, x, q, y)])) ((s0, p1, x1, q1, y1) :: (r' ++ [(s, p', x', q', y')]))
    rw [renSt.goF]
    exact ⟨p1, x1, q1, y1, _, rfl, g1, g2, g3, g4, renF_app h1 h2 h3 h4 g5⟩
theorem renG_app {A B : List Int} {s : ByteArray} {q q' : List Int} {y y' : Stx} (h3 : bindOk A B q q' (fvSt y)) (h4 : renSt (A ++ q) (B ++ q') y y') :
    ∀ {l r : List (ByteArray × List Int × Stx)}, renSt.goG A B l r → renSt.goG A B (l ++ [(s, q, y)]) (r ++ [(s, q', y')])
  | [], r, h => by
    rw [renSt.goG] at h
    subst h
    show renSt.goG A B [(s, q, y)] [(s, q', y')]
    rw [renSt.goG]
    exact ⟨q', y', [], rfl, h3, h4, by rw [renSt.goG]⟩
  | (s0, q0, y0) :: l, r, h => by
    rw [renSt.goG] at h
    obtain ⟨q1, y1, r', rfl, g3, g4, g5⟩ := h
    show renSt.goG A B ((s0, q0, y0) :: (l ++ [(s, q, y)])) ((s0, q1, y1) :: (r' ++ [(s, q', y')]))
    rw [renSt.goG]
    exact ⟨q1, y1, _, rfl, g3, g4, renG_app h3 h4 g5⟩

theorem opd_zS {T : Sl} : opd T (.const (.agg #[.string (ByteArray.mk #[]), .slice none 0 0, .slice none 0 0, .slice none 0 0, .slice none 0 0, .slice none 0 0])) = some (.agg [.d (.str ⟨#[]⟩), .nils, .nils, .nils, .nils, .nils]) := rfl
theorem opd_zF {T : Sl} : opd T (.const (.agg #[.string (ByteArray.mk #[]), .slice none 0 0, .slice none 0 0, .slice none 0 0, .slice none 0 0, .slice none 0 0, .slice none 0 0, .slice none 0 0, .slice none 0 0, .slice none 0 0, .slice none 0 0, .slice none 0 0, .slice none 0 0])) = some (.agg [.d (.str ⟨#[]⟩), .nils, .nils, .nils, .nils, .nils, .nils, .nils, .nils, .nils, .nils, .nils, .nils]) := rfl
theorem opd_zG {T : Sl} : opd T (.const (.agg #[.string (ByteArray.mk #[]), .slice none 0 0, .slice none 0 0, .slice none 0 0, .slice none 0 0, .slice none 0 0, .slice none 0 0])) = some (.agg [.d (.str ⟨#[]⟩), .nils, .nils, .nils, .nils, .nils, .nils]) := rfl

theorem vc_mem162 (x1 : List Tym) (x2 : List Vam) (x3 : List (ByteArray × Stx)) (x4 : List (ByteArray × List Int × Stx × List Int × Stx)) (x5 : List (ByteArray × List Int × Stx)) :
    VC Tryz.prog 48 [.agg [.d (.sl (x1.map encTym)), .d (.sl (x2.map encVam)), .d (.sl (encSt.subs x3)), .d (.sl (encSt.funs x4)), .d (.sl (encSt.sigs x5))]] [] fun r h' => r = .one (.fn 126 [.ptr 0 0]) ∧ h' = [.box [.d (.sl (x1.map encTym)), .d (.sl (x2.map encVam)), .d (.sl (encSt.subs x3)), .d (.sl (encSt.funs x4)), .d (.sl (encSt.sigs x5))]] := by
  refine VC_of_fn mixed fn48 (by simp) ?_
  show vwp Tryz.prog 0 vc48 _ [(0, .agg [.d (.sl (x1.map encTym)), .d (.sl (x2.map encVam)), .d (.sl (encSt.subs x3)), .d (.sl (encSt.funs x4)), .d (.sl (encSt.sigs x5))])] []
  unfold vc48
  rw [vwpI_eq]
  simp -implicitDefEqProofs only [bV.d, oS.d, J0, J1, J2, J3, J4, J5, J6, J7, ↓reduceIte, reduceCtorEq]
  apply vend_of [0]; rfl; rfl
  exact ⟨rfl, rfl⟩

set_option maxHeartbeats 4000000 in
theorem rs_all : ∀ (x : Stx) (A B : List Int), stn x < 10000000 → A.length = B.length → A.length + stn x < 1000000000 → RS x A B := by
  intro x
  induction x using Stx.ind with
  | h x1 x2 x3 x4 x5 i3 i4 i5 =>
  intro A B hs hAB hA vf vt XF XT
  have hsz := subs_small (x := .mk x1 x2 x3 x4 x5) (Nat.le_of_lt hs)
  simp only [Stx.subs, Stx.vals, Stx.types, Stx.funs, Stx.sigs] at hsz
  obtain ⟨z3, z2, z1, z4, z5⟩ := hsz
  simp only [stn, goS_sum, goF_sum, goG_sum] at hs hA
  have l3 := encSubs_len x3
  have l4 := encFuns_len x4
  have l5 := encSigs_len x5
  have hA2 : A.length < 1000000000 := by omega
  suffices hsuf : VC Tryz.prog 56 [.one (.ptr 0 0), stW (.mk x1 x2 x3 x4 x5)] (rH vf vt A B XF XT) fun r h' => ∃ y3 y4 y5, r = stW (.mk (x1.map (renTym A B)) (x2.map (renVam A B)) y3 y4 y5) ∧ renSt.goS A B x3 y3 ∧ renSt.goF A B x4 y4 ∧ renSt.goG A B x5 y5 ∧ ∃ vf vt XF XT, h' = rH vf vt A B XF XT by
    refine hsuf.mono ?_
    rintro r h' ⟨y3, y4, y5, e1, e2, e3, e4, e5⟩
    refine ⟨_, e1, ?_, e5⟩
    rw [renSt]
    exact ⟨rfl, rfl, e2, e3, e4⟩
  simp only [stW, encSt, List.map_cons, List.map_nil, rH]
  refine VC_of_fn mixed fn56 (by simp) ?_
  show vwp Tryz.prog 4 vc56 _ [(0, .one (.ptr 0 0)), (1, .agg [.d (.sl (x1.map encTym)), .d (.sl (x2.map encVam)), .d (.sl (encSt.subs x3)), .d (.sl (encSt.funs x4)), .d (.sl (encSt.sigs x5))])] [.box [.own 1 vf A.length, .own 2 vt B.length, .fn 22 [.ptr 3 0]], .arr false 1 vf (nums A ++ XF), .arr false 1 vt (nums B ++ XT), .box [.ptr 0 0]]
  unfold vc56
  rw [vwpI_eq]
  simp -implicitDefEqProofs only [bV.d, oS.d, J0, J1, J2, J3, J4, J5, J6, J7, ↓reduceIte, reduceCtorEq, List.length_map, l3, l4, l5]
  have ht := fun u (hu : tyn u < 100000000) => vc_xtyp vf vt A B XF XT hA2 hAB (tyn u) u (Nat.le_refl _) hu
  have hta := fun l (hl : sumN tyn l < 100000000) => vc_xall vf vt A B XF XT hA2 hAB l hl
  simp only [rH] at ht hta
  refine loopI (α := Nat) (fun x => [(22, .one (.d (.int .i64 x))), (21, .one (.d (.int .i64 x1.length))), (20, .one (.d (.sl (x1.map encTym)))), (2, .one (.ptr 4 0)), (3, .one (.ptr 5 0)), (4, .one (.ptr 6 0)), (5, .one (.ptr 7 0))]) (fun x => [.box [.own 1 vf A.length, .own 2 vt B.length, .fn 22 [.ptr 3 0]], .arr false 1 vf (nums A ++ XF), .arr false 1 vt (nums B ++ XT), .box [.ptr 0 0], .box [.ptr 0 0], .box [.d (.sl (x1.map encTym)), .d (.sl (x2.map encVam)), .d (.sl (encSt.subs x3)), .d (.sl (encSt.funs x4)), .d (.sl (encSt.sigs x5))], .box [.nils, .nils, .nils, .nils, .nils], .box [.own 8 x x, .nils, .nils, .nils, .nils], .arr false 5 x (((x1.map (renTym A B)).take x).map encTym)])
    (fun x => x ≤ x1.length) (fun x => x1.length - x) 0
    (keepG [] [(7, 0, 5)] [0, 1, 2, 3, 4, 5, 6, 7, 8] _ rfl rfl (WkH.refl _) rfl rfl rfl ⟨⟨_, WkV.refl _, rfl⟩, ⟨_, WkV.refl _, rfl⟩, ⟨_, WkV.refl _, rfl⟩, ⟨_, WkV.refl _, rfl⟩, ⟨_, WkV.refl _, rfl⟩, ⟨_, WkV.refl _, rfl⟩, ⟨_, WkV.refl _, rfl⟩, trivial⟩) (Nat.zero_le _) ?_
  intro i hi
  have hw := wrapA1 (a := i) rfl (by omega)
  rcases Nat.lt_or_ge i x1.length with h5 | h5
  · have hlt : ((i : Int) < (x1.length : Int)) = True := by simp; omega
    obtain ⟨u, hu⟩ := rowOf h5
    have hmu := sumN_mem (f := tymn) (List.mem_of_getElem? hu)
    have hcu : tymn u = 1 + tyn u.t + sumN ctn u.cts := rfl
    have t1 := ht u.t (by omega)
    have hcl := sumN_length (f := ctn) (fun t => by unfold ctn; omega) u.cts
    have hg : (x1.map encTym)[i]? = some (encTym u) := by rw [List.getElem?_map, hu]; rfl
    have hrow : (((x1.map (renTym A B)).take i).map encTym) ++ [encTym (renTym A B u)] = (((x1.map (renTym A B)).take (i + 1)).map encTym) := by rw [List.take_add_one, List.getElem?_map, hu]; simp
    have htk : ((((x1.map (renTym A B)).take i).map encTym)).take i = (((x1.map (renTym A B)).take i).map encTym) := List.take_of_length_le (by simp; omega)
    have hcap : (i + 1) * 80 ≤ maxBytes ∧ i + 1 ≤ maxBytes := by simp [maxBytes]; omega
    simp only [renTym] at hrow
    generalize renTy A B u.t = R at t1 hrow
    obtain ⟨rk, rn, rl⟩ := R
    clear hu
    obtain ⟨un, ⟨uk, ui, ul⟩, uc⟩ := u
    simp only at hrow hcu hcl
    have hcs : ∀ c ∈ uc, sumN tyn c.args < 100000000 := fun c hc => by have := sumN_mem (f := ctn) hc; rw [ctn_e] at this; omega
    simp only [tyV, encTy, encTym, List.map_cons, List.map_nil, List.cons_append, List.nil_append] at t1 hg hrow
    simp -implicitDefEqProofs only [bV.d, oS.d, J0, J1, J2, J3, J4, J5, J6, J7, ↓reduceIte, reduceCtorEq, hlt, hg, Int.natCast_nonneg, Int.toNat_natCast]
    refine ⟨?_, ?_⟩
    all_goals
      refine callS [0, 1, 2, 3] (t1) rfl rfl rfl ?_
      rintro _ _ ⟨rfl, rfl⟩
      refine ⟨_, _, rfl, ?_⟩
      simp -implicitDefEqProofs only [bV.d, oS.d, J0, J1, J2, J3, J4, J5, J6, J7, ↓reduceIte, reduceCtorEq, hlt, hg, Int.natCast_nonneg, Int.toNat_natCast, List.length_map]
      refine loopI (α := Nat) (fun k => [(36, .one (.d (.int .i64 k))), (35, .one (.d (.int .i64 uc.length))), (34, .one (.d (.sl (uc.map encCt)))), (8, .one (.ptr 10 0)), (22, .one (.d (.int .i64 i))), (21, .one (.d (.int .i64 x1.length))), (20, .one (.d (.sl (x1.map encTym)))), (2, .one (.ptr 4 0)), (3, .one (.ptr 5 0)), (4, .one (.ptr 6 0)), (5, .one (.ptr 7 0))])
        (fun k => [.box [.own 1 vf A.length, .own 2 vt B.length, .fn 22 [.ptr 3 0]], .arr false 1 vf (nums A ++ XF), .arr false 1 vt (nums B ++ XT), .box [.ptr 0 0], .box [.ptr 0 0], .box [.d (.sl (x1.map encTym)), .d (.sl (x2.map encVam)), .d (.sl (encSt.subs x3)), .d (.sl (encSt.funs x4)), .d (.sl (encSt.sigs x5))], .box [.nils, .nils, .nils, .nils, .nils], .box [.own 8 i i, .nils, .nils, .nils, .nils], .arr false 5 i (((x1.map (renTym A B)).take i).map encTym), .box [.d (.str un), .d (.int .i64 uk), .d (.int .i64 ui), .d (.sl (encTy.encs ul)), .d (.sl (uc.map encCt))], .box [.d (.str un), .d (.int .i64 rk), .d (.int .i64 rn), .d (.sl (encTy.encs rl)), .own 11 k k], .arr false 2 k (((uc.map (renCt A B)).take k).map encCt)])
        (fun k => k ≤ uc.length) (fun k => uc.length - k) 0
        (keepG [] [(10, 4, 2)] [0, 1, 2, 3, 4, 5, 6, 7, 8, 9, 10, 11] _ rfl rfl (WkH.refl _) rfl rfl rfl ⟨⟨_, WkV.refl _, rfl⟩, ⟨_, WkV.refl _, rfl⟩, ⟨_, WkV.refl _, rfl⟩, ⟨_, WkV.refl _, rfl⟩, ⟨_, WkV.refl _, rfl⟩, ⟨_, WkV.refl _, rfl⟩, ⟨_, WkV.refl _, rfl⟩, ⟨_, WkV.refl _, rfl⟩, ⟨_, WkV.refl _, rfl⟩, ⟨_, WkV.refl _, rfl⟩, ⟨_, WkV.refl _, rfl⟩, trivial⟩) (Nat.zero_le _) ?_
      intro k hk
      have hwk := wrapA1 (a := k) rfl (by omega)
      have htkk : (((uc.map (renCt A B)).take k).map encCt).take k = ((uc.map (renCt A B)).take k).map encCt := List.take_of_length_le (by simp; omega)
      rcases Nat.lt_or_ge k uc.length with h6 | h6
      · have hltk : ((k : Int) < (uc.length : Int)) = True := by simp; omega
        obtain ⟨c, hc⟩ := rowOf h6
        have t2 := hta c.args (hcs c (List.mem_of_getElem? hc))
        have hgc : (uc.map encCt)[k]? = some (encCt c) := by rw [List.getElem?_map, hc]; rfl
        have hrowk : ((uc.map (renCt A B)).take k).map encCt ++ [encCt (renCt A B c)] = ((uc.map (renCt A B)).take (k + 1)).map encCt := by rw [List.take_add_one, List.getElem?_map, hc]; simp
        have hcapk : (k + 1) * 40 ≤ maxBytes ∧ k + 1 ≤ maxBytes := by simp [maxBytes]; omega
        obtain ⟨cn, cl⟩ := c
        simp only [encCt, renCt] at hgc hrowk t2
        simp -implicitDefEqProofs only [bV.d, oS.d, J0, J1, J2, J3, J4, J5, J6, J7, ↓reduceIte, reduceCtorEq, hltk, hgc, Int.natCast_nonneg, Int.toNat_natCast]
        refine callS [0, 1, 2, 3] (t2) rfl rfl rfl ?_
        rintro _ _ ⟨rfl, rfl⟩
        refine ⟨_, _, rfl, ?_⟩
        simp -implicitDefEqProofs only [bV.d, oS.d, J0, J1, J2, J3, J4, J5, J6, J7, ↓reduceIte, reduceCtorEq, hcapk, htkk, hwk]
        rw [hrowk]
        refine ⟨k + 1, by omega, by omega, ?_⟩
        exact (keepI [0, 1, 2, 3, 4, 5, 6, 7, 8, 9, 10, 11] _ (WkH.refl _) rfl rfl rfl ⟨⟨_, WkV.refl _, rfl⟩, ⟨_, WkV.refl _, rfl⟩, ⟨_, WkV.refl _, rfl⟩, ⟨_, WkV.refl _, rfl⟩, ⟨_, WkV.refl _, rfl⟩, ⟨_, WkV.refl _, rfl⟩, ⟨_, WkV.refl _, rfl⟩, ⟨_, WkV.refl _, rfl⟩, ⟨_, WkV.refl _, rfl⟩, ⟨_, WkV.refl _, rfl⟩, ⟨_, WkV.refl _, rfl⟩, trivial⟩)
      · have hltk : ((k : Int) < (uc.length : Int)) = False := by simp; omega
        have hke : k = uc.length := by omega
        subst hke
        have hfin : ((uc.map (renCt A B)).take uc.length) = uc.map (renCt A B) := List.take_of_length_le (by simp)
        rw [hfin] at htkk ⊢
        simp -implicitDefEqProofs only [bV.d, oS.d, J0, J1, J2, J3, J4, J5, J6, J7, ↓reduceIte, reduceCtorEq, hltk, hcap, htk, htkk, hw]
        rw [hrow]
        refine ⟨i + 1, by omega, by omega, ?_⟩
        exact (keepI [0, 1, 2, 3, 4, 5, 6, 7, 8] _ (WkH.refl _) rfl rfl rfl ⟨⟨_, WkV.refl _, rfl⟩, ⟨_, WkV.refl _, rfl⟩, ⟨_, WkV.refl _, rfl⟩, ⟨_, WkV.refl _, rfl⟩, ⟨_, WkV.refl _, rfl⟩, ⟨_, WkV.refl _, rfl⟩, ⟨_, WkV.refl _, rfl⟩, trivial⟩)
  have hlt : ((i : Int) < (x1.length : Int)) = False := by simp; omega
  have hie : i = x1.length := by omega
  subst hie
  have hfin : ((x1.map (renTym A B)).take x1.length) = x1.map (renTym A B) := List.take_of_length_le (by simp)
  rw [hfin]
  clear hw h5 hi hfin hta
  simp -implicitDefEqProofs only [bV.d, oS.d, J0, J1, J2, J3, J4, J5, J6, J7, ↓reduceIte, reduceCtorEq, hlt, List.length_map]
  clear hlt
  
  refine loopI (α := Nat) (fun x => [(63, .one (.d (.int .i64 x))), (62, .one (.d (.int .i64 x2.length))), (61, .one (.d (.sl (x2.map encVam)))), (2, .one (.ptr 4 0)), (3, .one (.ptr 5 0)), (4, .one (.ptr 6 0)), (5, .one (.ptr 7 0))]) (fun x => [.box [.own 1 vf A.length, .own 2 vt B.length, .fn 22 [.ptr 3 0]], .arr false 1 vf (nums A ++ XF), .arr false 1 vt (nums B ++ XT), .box [.ptr 0 0], .box [.ptr 0 0], .box [.d (.sl (x1.map encTym)), .d (.sl (x2.map encVam)), .d (.sl (encSt.subs x3)), .d (.sl (encSt.funs x4)), .d (.sl (encSt.sigs x5))], .box [.nils, .nils, .nils, .nils, .nils], .box [.own 8 x1.length x1.length, .own 9 x x, .nils, .nils, .nils], .arr false 5 x1.length ((x1.map (renTym A B)).map encTym), .arr false 5 x (((x2.map (renVam A B)).take x).map encVam)])
    (fun x => x ≤ x2.length) (fun x => x2.length - x) 0
    (keepG [] [(7, 1, 5)] [0, 1, 2, 3, 4, 5, 6, 7, 8, 9] _ rfl rfl (WkH.refl _) rfl rfl rfl ⟨⟨_, WkV.refl _, rfl⟩, ⟨_, WkV.refl _, rfl⟩, ⟨_, WkV.refl _, rfl⟩, ⟨_, WkV.refl _, rfl⟩, ⟨_, WkV.refl _, rfl⟩, ⟨_, WkV.refl _, rfl⟩, ⟨_, WkV.refl _, rfl⟩, trivial⟩) (Nat.zero_le _) ?_
  intro i hi
  have hw := wrapA1 (a := i) rfl (by omega)
  rcases Nat.lt_or_ge i x2.length with h5 | h5
  · have hlt : ((i : Int) < (x2.length : Int)) = True := by simp; omega
    obtain ⟨u, hu⟩ := rowOf h5
    have hmu := sumN_mem (f := vamn) (List.mem_of_getElem? hu)
    have hcu : vamn u = 1 + tyn u.s.t := rfl
    have t1 := ht u.s.t (by omega)
    have hg : (x2.map encVam)[i]? = some (encVam u) := by rw [List.getElem?_map, hu]; rfl
    have hrow : (((x2.map (renVam A B)).take i).map encVam) ++ [encVam (renVam A B u)] = (((x2.map (renVam A B)).take (i + 1)).map encVam) := by rw [List.take_add_one, List.getElem?_map, hu]; simp
    have htk : ((((x2.map (renVam A B)).take i).map encVam)).take i = (((x2.map (renVam A B)).take i).map encVam) := List.take_of_length_le (by simp; omega)
    have hcap : (i + 1) * 64 ≤ maxBytes ∧ i + 1 ≤ maxBytes := by simp [maxBytes]; omega
    simp only [renVam] at hrow
    generalize renTy A B u.s.t = R at t1 hrow
    obtain ⟨rk, rn, rl⟩ := R
    clear hu
    obtain ⟨un, ug, ⟨uk, ui, ul⟩⟩ := u
    simp only at hrow
    simp only [tyV, encTy, encVam, encSc, List.map_cons, List.map_nil, List.cons_append, List.nil_append] at t1 hg hrow
    simp -implicitDefEqProofs only [bV.d, oS.d, J0, J1, J2, J3, J4, J5, J6, J7, ↓reduceIte, reduceCtorEq, hlt, hg, Int.natCast_nonneg, Int.toNat_natCast]
    refine callS [0, 1, 2, 3] (t1) rfl rfl rfl ?_
    rintro _ _ ⟨rfl, rfl⟩
    refine ⟨_, _, rfl, ?_⟩
    simp -implicitDefEqProofs only [bV.d, oS.d, J0, J1, J2, J3, J4, J5, J6, J7, ↓reduceIte, reduceCtorEq, hcap, htk, hw]
    rw [hrow]
    refine ⟨i + 1, by omega, by omega, ?_⟩
    exact (keepI [0, 1, 2, 3, 4, 5, 6, 7, 8, 9] _ (WkH.refl _) rfl rfl rfl ⟨⟨_, WkV.refl _, rfl⟩, ⟨_, WkV.refl _, rfl⟩, ⟨_, WkV.refl _, rfl⟩, ⟨_, WkV.refl _, rfl⟩, ⟨_, WkV.refl _, rfl⟩, ⟨_, WkV.refl _, rfl⟩, ⟨_, WkV.refl _, rfl⟩, trivial⟩)
  have hlt : ((i : Int) < (x2.length : Int)) = False := by simp; omega
  have hie : i = x2.length := by omega
  subst hie
  have hfin : ((x2.map (renVam A B)).take x2.length) = x2.map (renVam A B) := List.take_of_length_le (by simp)
  rw [hfin]
  clear hw h5 hi hfin ht
  simp -implicitDefEqProofs only [bV.d, oS.d, J0, J1, J2, J3, J4, J5, J6, J7, ↓reduceIte, reduceCtorEq, hlt]
  clear hlt
  refine callB [(7, 2, 6)] _ [.box [.own 1 vf A.length, .own 2 vt B.length, .fn 22 [.ptr 3 0]], .arr false 1 vf (nums A ++ XF), .arr false 1 vt (nums B ++ XT), .box [.ptr 0 0], .box [.ptr 0 0], .box [.d (.sl (x1.map encTym)), .d (.sl (x2.map encVam)), .d (.sl (encSt.subs x3)), .d (.sl (encSt.funs x4)), .d (.sl (encSt.sigs x5))], .box [.nils, .nils, .nils, .nils, .nils], .box [.own 8 x1.length x1.length, .own 9 x2.length x2.length, .own 10 0 0, .nils, .nils], .arr false 5 x1.length ((x1.map (renTym A B)).map encTym), .arr false 5 x2.length ((x2.map (renVam A B)).map encVam), .arr false 6 0 (encSt.subs [])] [] rfl (WkV.allRefl _) (WkH.refl _) (vc_mem162 x1 x2 x3 x4 x5) rfl rfl rfl ?_
  rintro _ _ ⟨rfl, rfl⟩
  refine ⟨_, _, rfl, ?_⟩
  simp -implicitDefEqProofs only [bV.d, oS.d, J0, J1, J2, J3, J4, J5, J6, J7, ↓reduceIte, reduceCtorEq]
  show vwp _ _ _ _ _ _
  refine ⟨126, [.ptr 11 0], 20, _, rfl, rfl, it126, by decide, ?_⟩
  refine members_wp (α := (Nat × List (List D)) × (Nat × List (List D)) × List (ByteArray × Stx)) (N := 12) (by omega) (fun s => [.box [.own 1 s.1.1 A.length, .own 2 s.2.1.1 B.length, .fn 22 [.ptr 3 0]], .arr false 1 s.1.1 (nums A ++ s.1.2), .arr false 1 s.2.1.1 (nums B ++ s.2.1.2), .box [.ptr 0 0], .box [.ptr 0 0], .box [.d (.sl (x1.map encTym)), .d (.sl (x2.map encVam)), .d (.sl (encSt.subs x3)), .d (.sl (encSt.funs x4)), .d (.sl (encSt.sigs x5))], .box [.nils, .nils, .nils, .nils, .nils], .box [.own 8 x1.length x1.length, .own 9 x2.length x2.length, .own 10 s.2.2.length s.2.2.length, .nils, .nils], .arr false 5 x1.length ((x1.map (renTym A B)).map encTym), .arr false 5 x2.length ((x2.map (renVam A B)).map encVam), .arr false 6 s.2.2.length (encSt.subs s.2.2), .box [.d (.sl (x1.map encTym)), .d (.sl (x2.map encVam)), .d (.sl (encSt.subs x3)), .d (.sl (encSt.funs x4)), .d (.sl (encSt.sigs x5))]])
    (fun i s => s.2.2.length = i ∧ renSt.goS A B (x3.take i) s.2.2) (id := 11) (fun _ => rfl) (show 11 < 12 by decide) (Nat.le_refl 12) (fun _ => rfl) (fun _ => rfl) ?_ ?_ ((vf, XF), (vt, XT), []) ⟨rfl, by rw [List.take_zero, renSt.goS]⟩
  · rintro i x ⟨⟨v1, X1⟩, ⟨w1, Y1⟩, dn⟩ hx ⟨g1, g2⟩ K' hK
    refine ⟨rfl, ?_⟩
    rw [vwpI_eq]
    dsimp only at g1 g2 ⊢
    have hmem := List.mem_of_getElem? hx
    have hmu := sumN_mem (f := subz) hmem
    have hcu := subz_e x
    have hil := (List.getElem?_eq_some_iff.1 hx).1
    have t1 := i3 x hmem A B (by omega) hAB (by omega) v1 w1 X1 Y1
    have hg2 : ∀ y', renSt A B x.2 y' → renSt.goS A B (x3.take (i + 1)) (dn ++ [(x.1, y')]) := fun y' hy => by
      rw [List.take_add_one, hx]
      exact renS_app hy g2
    have hcap : (dn.length + 1) * 136 ≤ maxBytes ∧ dn.length + 1 ≤ maxBytes := by simp [maxBytes]; omega
    clear hx hmem hmu hcu
    obtain ⟨xn, ⟨u1, u2, u3, u4, u5⟩⟩ := x
    simp only [stW, encSm, encSt, List.map_cons, List.map_nil, rH] at t1 ⊢
    simp -implicitDefEqProofs only [bV.d, oS.d, J0, J1, J2, J3, J4, J5, J6, J7, ↓reduceIte, reduceCtorEq, zipT]
    rw [vt_normal, vwpI_eq]
    have htk : (encSt.subs dn).take dn.length = encSt.subs dn := List.take_of_length_le (by rw [encSubs_len]; exact Nat.le_refl _)
    have hget : ∀ z, (encSt.subs dn ++ [z])[dn.length]? = some z := fun z => by rw [List.getElem?_append_right (by rw [encSubs_len]; exact Nat.le_refl _), encSubs_len]; simp
    have hset : ∀ z z', (encSt.subs dn ++ [z]).set dn.length z' = encSt.subs dn ++ [z'] := fun z z' => by rw [List.set_append_right _ _ (by rw [encSubs_len]; exact Nat.le_refl _), encSubs_len]; simp
    have hlt : (dn.length : Int) < ((dn.length + 1 : Nat) : Int) := by omega
    simp -implicitDefEqProofs only [bV.d, oS.d, J0, J1, J2, J3, J4, J5, J6, J7, ↓reduceIte, reduceCtorEq, hcap, opd_zS]
    refine ⟨?_, ?_⟩
    all_goals
      refine callS [0, 1, 2, 3] t1 rfl rfl rfl ?_
      rintro _ _ ⟨⟨m1, m2, m3, m4, m5⟩, rfl, h2, v2, w2, X2, Y2, rfl⟩
      refine ⟨_, _, rfl, ?_⟩
      simp only [encSt, List.map_cons, List.map_nil]
      have hrow : encSt.subs dn ++ [[.str xn, .sl (m1.map encTym), .sl (m2.map encVam), .sl (encSt.subs m3), .sl (encSt.funs m4), .sl (encSt.sigs m5)]] = encSt.subs (dn ++ [(xn, .mk m1 m2 m3 m4 m5)]) := by simp [encSubs_s, encSm, encSt]
      have hln : dn.length + 1 = (dn ++ [(xn, Stx.mk m1 m2 m3 m4 m5)]).length := by simp
      simp -implicitDefEqProofs only [bV.d, oS.d, J0, J1, J2, J3, J4, J5, J6, J7, ↓reduceIte, reduceCtorEq, hcap, htk, opd_zS, hlt, hget, hset, Int.natCast_nonneg, Int.toNat_natCast]
      rw [hrow, hln]
      exact hK ((v2, X2), (w2, Y2), dn ++ [(xn, .mk m1 m2 m3 m4 m5)]) [_, _, _] ⟨by simp [g1], hg2 _ h2⟩
  · rintro ⟨⟨v1, X1⟩, ⟨w1, Y1⟩, d3⟩ ⟨g1, g2⟩
    dsimp only at g1 g2 ⊢
    rw [List.take_length] at g2
    have hl3 := encSubs_len d3
    simp -implicitDefEqProofs only [bV.d, oS.d, J0, J1, J2, J3, J4, J5, J6, J7, ↓reduceIte, reduceCtorEq, l4, l5]
  
    refine loopI (α := (Nat × List (List D)) × (Nat × List (List D)) × List (ByteArray × List Int × Stx × List Int × Stx)) (fun s => [(104, .one (.d (.int .i64 s.2.2.length))), (103, .one (.d (.int .i64 x4.length))), (102, .one (.d (.sl (encSt.funs x4)))), (2, .one (.ptr 4 0)), (3, .one (.ptr 5 0)), (4, .one (.ptr 6 0)), (5, .one (.ptr 7 0))]) (fun s => [.box [.own 1 s.1.1 A.length, .own 2 s.2.1.1 B.length, .fn 22 [.ptr 3 0]], .arr false 1 s.1.1 (nums A ++ s.1.2), .arr false 1 s.2.1.1 (nums B ++ s.2.1.2), .box [.ptr 0 0], .box [.ptr 0 0], .box [.d (.sl (x1.map encTym)), .d (.sl (x2.map encVam)), .d (.sl (encSt.subs x3)), .d (.sl (encSt.funs x4)), .d (.sl (encSt.sigs x5))], .box [.nils, .nils, .nils, .nils, .nils], .box [.own 8 x1.length x1.length, .own 9 x2.length x2.length, .own 10 d3.length d3.length, .own 12 s.2.2.length s.2.2.length, .nils], .arr false 5 x1.length ((x1.map (renTym A B)).map encTym), .arr false 5 x2.length ((x2.map (renVam A B)).map encVam), .arr false 6 d3.length (encSt.subs d3), .box [.d (.sl (x1.map encTym)), .d (.sl (x2.map encVam)), .d (.sl (encSt.subs x3)), .d (.sl (encSt.funs x4)), .d (.sl (encSt.sigs x5))], .arr false 13 s.2.2.length (encSt.funs s.2.2)])
      (fun s => s.2.2.length ≤ x4.length ∧ renSt.goF A B (x4.take s.2.2.length) s.2.2) (fun s => x4.length - s.2.2.length) ((v1, X1), (w1, Y1), [])
      (keepG [] [(7, 3, 13)] [0, 1, 2, 3, 4, 5, 6, 7, 8, 9, 10, 11, 12] _ rfl rfl (WkH.refl _) rfl rfl rfl ⟨⟨_, WkV.refl _, rfl⟩, ⟨_, WkV.refl _, rfl⟩, ⟨_, WkV.refl _, rfl⟩, ⟨_, WkV.refl _, rfl⟩, ⟨_, WkV.refl _, rfl⟩, ⟨_, WkV.refl _, rfl⟩, ⟨_, WkV.refl _, rfl⟩, trivial⟩) ⟨Nat.zero_le _, by show renSt.goF A B (x4.take 0) []; rw [List.take_zero, renSt.goF]⟩ ?_
    rintro ⟨⟨v1, X1⟩, ⟨w1, Y1⟩, d4⟩ ⟨hi, k2⟩
    dsimp only at hi k2 ⊢
    have hw := wrapA1 (a := d4.length) rfl (by omega)
    rcases Nat.lt_or_ge d4.length x4.length with h5 | h5
    · have hlt : ((d4.length : Int) < (x4.length : Int)) = True := by simp; omega
      obtain ⟨u, hu⟩ := rowOf h5
      have hmem := List.mem_of_getElem? hu
      have hmu := sumN_mem (f := funz) hmem
      have hcu := funz_e u
      have hg : (encSt.funs x4)[d4.length]? = some (encFm u) := by rw [encFuns_m, List.getElem?_map, hu]; rfl
      have t1 := vc_xfun (x := u.2.2.1) (y := u.2.2.2.2) (p := u.2.1) (q := u.2.2.2.1) (A := A) (B := B) (fun out ho => (i4 u hmem).1 _ _ (by omega) (by simp only [List.length_append]; omega) (by simp only [List.length_append]; omega)) (fun o1 o2 h1 h2 => (i4 u hmem).2 _ _ (by omega) (by simp only [List.length_append]; omega) (by simp only [List.length_append]; omega)) hAB (by omega) (by omega) (by omega) (by omega) v1 w1 X1 Y1
      have hg2 : ∀ p' x' q' y', bindOk A B u.2.1 p' (fun n => fvSt u.2.2.1 n ∨ (n ∉ u.2.2.2.1 ∧ fvSt u.2.2.2.2 n)) → renSt (A ++ u.2.1) (B ++ p') u.2.2.1 x' → bindOk (A ++ u.2.1) (B ++ p') u.2.2.2.1 q' (fvSt u.2.2.2.2) → renSt (A ++ u.2.1 ++ u.2.2.2.1) (B ++ p' ++ q') u.2.2.2.2 y' → renSt.goF A B (x4.take (d4.length + 1)) (d4 ++ [(u.1, p', x', q', y')]) := fun p' x' q' y' b1 b2 b3 b4 => by
        rw [List.take_add_one, hu]
        exact renF_app b1 b2 b3 b4 k2
      clear hu hmem
      obtain ⟨un, up, ⟨u1, u2, u3, u4, u5⟩, uq, ⟨y1, y2, y3, y4, y5⟩⟩ := u
      simp only at hg2
      simp only [encFm, encFn, encSt, List.map_cons, List.map_nil, List.cons_append, List.nil_append, rH] at t1 hg
      have hcap : (d4.length + 1) * 304 ≤ maxBytes ∧ d4.length + 1 ≤ maxBytes := by simp [maxBytes]; omega
      have htk : (encSt.funs d4).take d4.length = encSt.funs d4 := List.take_of_length_le (by rw [encFuns_len]; exact Nat.le_refl _)
      have hget : ∀ z, (encSt.funs d4 ++ [z])[d4.length]? = some z := fun z => by rw [List.getElem?_append_right (by rw [encFuns_len]; exact Nat.le_refl _), encFuns_len]; simp
      have hset : ∀ z z', (encSt.funs d4 ++ [z]).set d4.length z' = encSt.funs d4 ++ [z'] := fun z z' => by rw [List.set_append_right _ _ (by rw [encFuns_len]; exact Nat.le_refl _), encFuns_len]; simp
      have hlt2 : (d4.length : Int) < ((d4.length + 1 : Nat) : Int) := by omega
      simp -implicitDefEqProofs only [bV.d, oS.d, J0, J1, J2, J3, J4, J5, J6, J7, ↓reduceIte, reduceCtorEq, hlt, hg, hcap, opd_zF, Int.natCast_nonneg, Int.toNat_natCast]
      refine ⟨?_, ?_⟩
      all_goals
        refine callS [0, 1, 2, 3] t1 rfl rfl rfl ?_
        rintro _ _ ⟨p', ⟨m1, m2, m3, m4, m5⟩, q', ⟨n1, n2, n3, n4, n5⟩, rfl, b1, b2, b3, b4, v2, w2, X2, Y2, rfl⟩
        refine ⟨_, _, rfl, ?_⟩
        simp only [encSt, List.map_cons, List.map_nil, List.cons_append, List.nil_append]
        have hrow : encSt.funs d4 ++ [[.str un, .sl (nums p'), .sl (m1.map encTym), .sl (m2.map encVam), .sl (encSt.subs m3), .sl (encSt.funs m4), .sl (encSt.sigs m5), .sl (nums q'), .sl (n1.map encTym), .sl (n2.map encVam), .sl (encSt.subs n3), .sl (encSt.funs n4), .sl (encSt.sigs n5)]] = encSt.funs (d4 ++ [(un, p', (Stx.mk m1 m2 m3 m4 m5), q', (Stx.mk n1 n2 n3 n4 n5))]) := by simp [encFuns_m, encFm, encFn, encSt]
        have hln : d4.length + 1 = (d4 ++ [(un, p', (Stx.mk m1 m2 m3 m4 m5), q', (Stx.mk n1 n2 n3 n4 n5))]).length := by simp
        have hg3 := hg2 _ _ _ _ b1 b2 b3 b4
        rw [hln] at hg3
        simp -implicitDefEqProofs only [bV.d, oS.d, J0, J1, J2, J3, J4, J5, J6, J7, ↓reduceIte, reduceCtorEq, hcap, htk, opd_zF, hlt2, hget, hset, hw, Int.natCast_nonneg, Int.toNat_natCast]
        rw [hrow, hln]
        refine ⟨((v2, X2), (w2, Y2), (d4 ++ [(un, p', (Stx.mk m1 m2 m3 m4 m5), q', (Stx.mk n1 n2 n3 n4 n5))])), ⟨by rw [← hln]; exact h5, hg3⟩, by show x4.length - (d4 ++ [(un, p', (Stx.mk m1 m2 m3 m4 m5), q', (Stx.mk n1 n2 n3 n4 n5))]).length < x4.length - d4.length; rw [← hln]; omega, ?_⟩
        exact (keepI [0, 1, 2, 3, 4, 5, 6, 7, 8, 9, 10, 11, 12] _ (WkH.refl _) rfl rfl rfl ⟨⟨_, WkV.refl _, rfl⟩, ⟨_, WkV.refl _, rfl⟩, ⟨_, WkV.refl _, rfl⟩, ⟨_, WkV.refl _, rfl⟩, ⟨_, WkV.refl _, rfl⟩, ⟨_, WkV.refl _, rfl⟩, ⟨_, WkV.refl _, rfl⟩, trivial⟩)
    have hlt : ((d4.length : Int) < (x4.length : Int)) = False := by simp; omega
    have hie : d4.length = x4.length := by omega
    rw [hie, List.take_length] at k2
    clear hw h5 hi
    have e4 := k2
    have hie4 := hie
    clear k2 hie
    simp -implicitDefEqProofs only [bV.d, oS.d, J0, J1, J2, J3, J4, J5, J6, J7, ↓reduceIte, reduceCtorEq, hlt, l4, l5]
    clear hlt
    refine loopI (α := (Nat × List (List D)) × (Nat × List (List D)) × List (ByteArray × List Int × Stx)) (fun s => [(126, .one (.d (.int .i64 s.2.2.length))), (125, .one (.d (.int .i64 x5.length))), (124, .one (.d (.sl (encSt.sigs x5)))), (2, .one (.ptr 4 0)), (3, .one (.ptr 5 0)), (4, .one (.ptr 6 0)), (5, .one (.ptr 7 0))]) (fun s => [.box [.own 1 s.1.1 A.length, .own 2 s.2.1.1 B.length, .fn 22 [.ptr 3 0]], .arr false 1 s.1.1 (nums A ++ s.1.2), .arr false 1 s.2.1.1 (nums B ++ s.2.1.2), .box [.ptr 0 0], .box [.ptr 0 0], .box [.d (.sl (x1.map encTym)), .d (.sl (x2.map encVam)), .d (.sl (encSt.subs x3)), .d (.sl (encSt.funs x4)), .d (.sl (encSt.sigs x5))], .box [.nils, .nils, .nils, .nils, .nils], .box [.own 8 x1.length x1.length, .own 9 x2.length x2.length, .own 10 d3.length d3.length, .own 12 d4.length d4.length, .own 13 s.2.2.length s.2.2.length], .arr false 5 x1.length ((x1.map (renTym A B)).map encTym), .arr false 5 x2.length ((x2.map (renVam A B)).map encVam), .arr false 6 d3.length (encSt.subs d3), .box [.d (.sl (x1.map encTym)), .d (.sl (x2.map encVam)), .d (.sl (encSt.subs x3)), .d (.sl (encSt.funs x4)), .d (.sl (encSt.sigs x5))], .arr false 13 d4.length (encSt.funs d4), .arr false 7 s.2.2.length (encSt.sigs s.2.2)])
      (fun s => s.2.2.length ≤ x5.length ∧ renSt.goG A B (x5.take s.2.2.length) s.2.2) (fun s => x5.length - s.2.2.length) ((v1, X1), (w1, Y1), [])
      (keepG [] [(7, 4, 7)] [0, 1, 2, 3, 4, 5, 6, 7, 8, 9, 10, 11, 12, 13] _ rfl rfl (WkH.refl _) rfl rfl rfl ⟨⟨_, WkV.refl _, rfl⟩, ⟨_, WkV.refl _, rfl⟩, ⟨_, WkV.refl _, rfl⟩, ⟨_, WkV.refl _, rfl⟩, ⟨_, WkV.refl _, rfl⟩, ⟨_, WkV.refl _, rfl⟩, ⟨_, WkV.refl _, rfl⟩, trivial⟩) ⟨Nat.zero_le _, by show renSt.goG A B (x5.take 0) []; rw [List.take_zero, renSt.goG]⟩ ?_
    rintro ⟨⟨v1, X1⟩, ⟨w1, Y1⟩, d5⟩ ⟨hi, k2⟩
    dsimp only at hi k2 ⊢
    have hw := wrapA1 (a := d5.length) rfl (by omega)
    rcases Nat.lt_or_ge d5.length x5.length with h5 | h5
    · have hlt : ((d5.length : Int) < (x5.length : Int)) = True := by simp; omega
      obtain ⟨u, hu⟩ := rowOf h5
      have hmem := List.mem_of_getElem? hu
      have hmu := sumN_mem (f := sigz) hmem
      have hcu := sigz_e u
      have hg : (encSt.sigs x5)[d5.length]? = some (encSig u) := by rw [encSigs_m, List.getElem?_map, hu]; rfl
      have t1 := vc_xabs (y := u.2.2) (q := u.2.1) (A := A) (B := B) (fun out ho => i5 u hmem _ _ (by omega) (by simp only [List.length_append]; omega) (by simp only [List.length_append]; omega)) hAB (by omega) (by omega) (by omega) v1 w1 X1 Y1
      have hg2 : ∀ q' y', bindOk A B u.2.1 q' (fvSt u.2.2) → renSt (A ++ u.2.1) (B ++ q') u.2.2 y' → renSt.goG A B (x5.take (d5.length + 1)) (d5 ++ [(u.1, q', y')]) := fun q' y' b1 b2 => by
        rw [List.take_add_one, hu]
        exact renG_app b1 b2 k2
      clear hu hmem
      obtain ⟨un, uq, ⟨u1, u2, u3, u4, u5⟩⟩ := u
      simp only at hg2
      simp only [abW, encSig, encSt, List.map_cons, List.map_nil, List.cons_append, List.nil_append, rH] at t1 hg
      have hcap : (d5.length + 1) * 160 ≤ maxBytes ∧ d5.length + 1 ≤ maxBytes := by simp [maxBytes]; omega
      have htk : (encSt.sigs d5).take d5.length = encSt.sigs d5 := List.take_of_length_le (by rw [encSigs_len]; exact Nat.le_refl _)
      have hget : ∀ z, (encSt.sigs d5 ++ [z])[d5.length]? = some z := fun z => by rw [List.getElem?_append_right (by rw [encSigs_len]; exact Nat.le_refl _), encSigs_len]; simp
      have hset : ∀ z z', (encSt.sigs d5 ++ [z]).set d5.length z' = encSt.sigs d5 ++ [z'] := fun z z' => by rw [List.set_append_right _ _ (by rw [encSigs_len]; exact Nat.le_refl _), encSigs_len]; simp
      have hlt2 : (d5.length : Int) < ((d5.length + 1 : Nat) : Int) := by omega
      simp -implicitDefEqProofs only [bV.d, oS.d, J0, J1, J2, J3, J4, J5, J6, J7, ↓reduceIte, reduceCtorEq, hlt, hg, hcap, opd_zG, Int.natCast_nonneg, Int.toNat_natCast]
      refine ⟨?_, ?_⟩
      all_goals
        refine callS [0, 1, 2, 3] t1 rfl rfl rfl ?_
        rintro _ _ ⟨q', ⟨m1, m2, m3, m4, m5⟩, rfl, b1, b2, v2, w2, X2, Y2, rfl⟩
        refine ⟨_, _, rfl, ?_⟩
        simp only [encSt, List.map_cons, List.map_nil, List.cons_append, List.nil_append]
        have hrow : encSt.sigs d5 ++ [[.str un, .sl (nums q'), .sl (m1.map encTym), .sl (m2.map encVam), .sl (encSt.subs m3), .sl (encSt.funs m4), .sl (encSt.sigs m5)]] = encSt.sigs (d5 ++ [(un, q', (Stx.mk m1 m2 m3 m4 m5))]) := by simp [encSigs_m, encSig, encSt]
        have hln : d5.length + 1 = (d5 ++ [(un, q', (Stx.mk m1 m2 m3 m4 m5))]).length := by simp
        have hg3 := hg2 _ _ b1 b2
        rw [hln] at hg3
        simp -implicitDefEqProofs only [bV.d, oS.d, J0, J1, J2, J3, J4, J5, J6, J7, ↓reduceIte, reduceCtorEq, hcap, htk, opd_zG, hlt2, hget, hset, hw, Int.natCast_nonneg, Int.toNat_natCast]
        rw [hrow, hln]
        refine ⟨((v2, X2), (w2, Y2), (d5 ++ [(un, q', (Stx.mk m1 m2 m3 m4 m5))])), ⟨by rw [← hln]; exact h5, hg3⟩, by show x5.length - (d5 ++ [(un, q', (Stx.mk m1 m2 m3 m4 m5))]).length < x5.length - d5.length; rw [← hln]; omega, ?_⟩
        exact (keepI [0, 1, 2, 3, 4, 5, 6, 7, 8, 9, 10, 11, 12, 13] _ (WkH.refl _) rfl rfl rfl ⟨⟨_, WkV.refl _, rfl⟩, ⟨_, WkV.refl _, rfl⟩, ⟨_, WkV.refl _, rfl⟩, ⟨_, WkV.refl _, rfl⟩, ⟨_, WkV.refl _, rfl⟩, ⟨_, WkV.refl _, rfl⟩, ⟨_, WkV.refl _, rfl⟩, trivial⟩)
    have hlt : ((d5.length : Int) < (x5.length : Int)) = False := by simp; omega
    have hie : d5.length = x5.length := by omega
    rw [hie, List.take_length] at k2
    clear hw h5 hi
    have e5 := k2
    have hie5 := hie
    clear k2 hie
    simp -implicitDefEqProofs only [bV.d, oS.d, J0, J1, J2, J3, J4, J5, J6, J7, ↓reduceIte, reduceCtorEq, hlt, l4, l5]
    clear hlt
    have q1 : (x1.map (encTym ∘ renTym A B)).take x1.length = (x1.map (renTym A B)).map encTym := by rw [List.map_map]; exact List.take_of_length_le (by simp)
    have q2 : (x2.map (encVam ∘ renVam A B)).take x2.length = (x2.map (renVam A B)).map encVam := by rw [List.map_map]; exact List.take_of_length_le (by simp)
    have q3 : (encSt.subs d3).take d3.length = encSt.subs d3 := List.take_of_length_le (by rw [encSubs_len]; exact Nat.le_refl _)
    have q4 : (encSt.funs d4).take d4.length = encSt.funs d4 := List.take_of_length_le (by rw [encFuns_len]; exact Nat.le_refl _)
    have q5 : (encSt.sigs d5).take d5.length = encSt.sigs d5 := List.take_of_length_le (by rw [encSigs_len]; exact Nat.le_refl _)
    apply vend_of [0, 1, 2, 3]
    · simp only [vres, lk_cons, Nat.reduceBEq, cond_true, cond_false, ti100, ti102, ti120, ti122, ti126, ti131, ti136, ti138, ti139, ti154, ti23, ti24, ti25, ti26, ti27, ti29, ti3, ti31, ti79, ti9, vload, List.getElem?_cons_succ, List.getElem?_cons_zero, mkV, List.drop_zero, List.length_cons, List.length_nil, Nat.reduceAdd, Nat.le_refl, if_true, List.take_succ_cons, List.take_zero, List.map_cons, List.map_nil, Nat.reduceLeDiff]; rfl
    · first | rfl | (simp [fin, nodup, handO, lendR, lendV, lendLs, lendL, idx, vone, renL, lendVs, renO, renL.renLs]; first | exact ⟨rfl, rfl⟩ | exact ⟨rfl, rfl, rfl⟩)
    refine ⟨d3, d4, d5, ?_, g2, e4, e5, v1, w1, X1, Y1, rfl⟩
    rw [q1, q2, q3, q4, q5]

end Go.Vt.Tryz
set_option maxRecDepth 100000
set_option linter.unusedSimpArgs false
namespace Go.Vt.Tryz
open Go.Vt renaming vslice → J0
open Nat renaming reduceBEq → J1, reduceEqDiff → J2, reduceLT → J3, reduceLeDiff → J4, reduceAdd → J5, reduceMul → J6, reduceSub → J7
open Go.Proofs Go.Vt.Al

theorem rev_row {l : List Int} {i : Nat} (h : i < l.length) : ∃ x, l[l.length - 1 - i]? = some x ∧ l.reverse[i]? = some x := by
  rw [List.getElem?_reverse h]
  exact ⟨_, List.getElem?_eq_getElem (by omega), List.getElem?_eq_getElem (by omega)⟩

theorem nums_snoc {l : List Int} {i : Nat} {x : Int} (h : l[i]? = some x) : nums (l.take i) ++ [[.int .i64 x]] = nums (l.take (i + 1)) := by
  rw [List.take_add_one, h]
  simp [nums]

set_option maxHeartbeats 1000000 in
theorem vc_rename (y : Stx) (q fr to : List Int) (hl : fr.length = to.length) (hA : fr.length + q.length < 100000000) (hq : q.length < 10000000) (hy : stn y < 10000000) :
    VC Tryz.prog 12 [abW q y, .one (.d (.sl (nums fr))), .one (.d (.sl (nums to)))] [] fun r h' => (∃ q' y', r = abW q' y' ∧ bindOk fr.reverse to.reverse q q' (fvSt y) ∧ renSt (fr.reverse ++ q) (to.reverse ++ q') y y') ∧ h' = [] := by
  have hx := vc_xabs (y := y) (q := q) (A := fr.reverse) (B := to.reverse) (fun out ho => rs_all y _ _ (by omega) (by simp; omega) (by simp; omega)) (by simp; omega) (by simp; omega) hq hy fr.length to.length [] []
  have hRe : ∃ R : List Int → Stx → Prop, R = fun q' y' => bindOk fr.reverse to.reverse q q' (fvSt y) ∧ renSt (fr.reverse ++ q) (to.reverse ++ q') y y' := ⟨_, rfl⟩
  obtain ⟨R, hR⟩ := hRe
  have hx2 : VC Tryz.prog 26 [.one (.ptr 0 0), abW q y] (rH fr.length to.length fr.reverse to.reverse [] []) fun r h' => ∃ q' y', r = abW q' y' ∧ R q' y' ∧ ∃ vf vt XF XT, h' = rH vf vt fr.reverse to.reverse XF XT := by
    rw [hR]
    refine hx.mono ?_
    rintro r h' ⟨q', y', a, b, c, d⟩
    exact ⟨q', y', a, ⟨b, c⟩, d⟩
  suffices hs : VC Tryz.prog 12 [abW q y, .one (.d (.sl (nums fr))), .one (.d (.sl (nums to)))] [] fun r h' => (∃ q' y', r = abW q' y' ∧ R q' y') ∧ h' = [] by
    rw [hR] at hs
    exact hs
  clear hx hR
  obtain ⟨y1, y2, y3, y4, y5⟩ := y
  simp only [abW, encSt, List.map_cons, List.map_nil, rH, List.append_nil, List.length_reverse] at hx2 ⊢
  refine VC_of_fn mixed fn12 (by simp) ?_
  show vwp Tryz.prog 0 vc12 _ [(0, .agg [.d (.sl (nums q)), .d (.sl (y1.map encTym)), .d (.sl (y2.map encVam)), .d (.sl (encSt.subs y3)), .d (.sl (encSt.funs y4)), .d (.sl (encSt.sigs y5))]), (1, .one (.d (.sl (nums fr)))), (2, .one (.d (.sl (nums to))))] []
  unfold vc12
  rw [vwpI_eq]
  have hl' : to.length = fr.length := hl.symm
  have hnn : ((fr.length : Int) < (fr.length : Int)) = False := by simp
  simp -implicitDefEqProofs only [bV.d, oS.d, J0, J1, J2, J3, J4, J5, J6, J7, ↓reduceIte, reduceCtorEq, nums_length, hl', hnn]
  refine loopI (α := Nat) (fun x => [(18, .one (.d (.int .i64 x))), (17, .one (.d (.int .i64 fr.length))), (7, .one (.d (.int .i64 fr.length))), (1, .one (.d (.sl (nums fr)))), (2, .one (.d (.sl (nums to)))), (3, .one (.ptr 0 0)), (6, .one (.ptr 1 0)), (8, .one (.ptr 3 0))]) (fun x => [.box [.d (.sl (nums q)), .d (.sl (y1.map encTym)), .d (.sl (y2.map encVam)), .d (.sl (encSt.subs y3)), .d (.sl (encSt.funs y4)), .d (.sl (encSt.sigs y5))], .box [.nils, .nils, .nils, .nils, .nils, .nils], .box [.own 4 x x, .own 5 x x, .nilf], .box [.ptr 2 0], .arr false 1 x (nums (fr.reverse.take x)), .arr false 1 x (nums (to.reverse.take x))])
    (fun x => x ≤ fr.length) (fun x => fr.length - x) 0
    (keepG [] [(2, 0, 1), (2, 1, 1)] [0, 1, 2, 3, 4, 5] _ rfl rfl (WkH.refl _) rfl rfl rfl ⟨⟨_, WkV.refl _, rfl⟩, ⟨_, WkV.refl _, rfl⟩, ⟨_, WkV.refl _, rfl⟩, ⟨_, WkV.refl _, rfl⟩, ⟨_, WkV.refl _, rfl⟩, ⟨_, WkV.refl _, rfl⟩, ⟨_, WkV.refl _, rfl⟩, ⟨_, WkV.refl _, rfl⟩, trivial⟩) (Nat.zero_le _) ?_
  intro i hi
  have hw := wrapA1 (a := i) rfl (by omega)
  rcases Nat.lt_or_ge i fr.length with h5 | h5
  · have hlt : ((i : Int) < (fr.length : Int)) = True := by simp; omega
    obtain ⟨u, hu1, hu2⟩ := rev_row h5
    obtain ⟨v, hv1, hv2⟩ := rev_row (l := to) (i := i) (by omega)
    rw [hl'] at hv1
    have hs1 : IntKind.i64.wrap ((fr.length : Int) - 1) = ((fr.length - 1 : Nat) : Int) := by rw [wrap_p (by omega) (by omega)]; omega
    have hs2 : IntKind.i64.wrap (((fr.length - 1 : Nat) : Int) - (i : Int)) = ((fr.length - 1 - i : Nat) : Int) := by rw [wrap_p (by omega) (by omega)]; omega
    have hg1 := nums_get hu1
    have hg2 := nums_get hv1
    have hcap : (i + 1) * 8 ≤ maxBytes ∧ i + 1 ≤ maxBytes := by simp [maxBytes]; omega
    have htk1 : (nums (fr.reverse.take i)).take i = nums (fr.reverse.take i) := List.take_of_length_le (by rw [nums_length, List.length_take]; omega)
    have htk2 : (nums (to.reverse.take i)).take i = nums (to.reverse.take i) := List.take_of_length_le (by rw [nums_length, List.length_take]; omega)
    simp -implicitDefEqProofs only [bV.d, oS.d, J0, J1, J2, J3, J4, J5, J6, J7, ↓reduceIte, reduceCtorEq, hlt, hs1, hs2, hg1, hg2, hcap, htk1, htk2, hw, Int.natCast_nonneg, Int.toNat_natCast]
    repeat' apply And.intro
    all_goals
      rw [nums_snoc hu2, nums_snoc hv2]
      refine ⟨i + 1, by omega, by omega, ?_⟩
      exact (keepI [0, 1, 2, 3, 4, 5] _ (WkH.refl _) rfl rfl rfl ⟨⟨_, WkV.refl _, rfl⟩, ⟨_, WkV.refl _, rfl⟩, ⟨_, WkV.refl _, rfl⟩, ⟨_, WkV.refl _, rfl⟩, ⟨_, WkV.refl _, rfl⟩, ⟨_, WkV.refl _, rfl⟩, ⟨_, WkV.refl _, rfl⟩, ⟨_, WkV.refl _, rfl⟩, trivial⟩)
  · have hlt : ((i : Int) < (fr.length : Int)) = False := by simp; omega
    have hie : i = fr.length := by omega
    subst hie
    have t1 : fr.reverse.take fr.length = fr.reverse := List.take_of_length_le (by simp)
    have t2 : to.reverse.take fr.length = to.reverse := List.take_of_length_le (by simp; omega)
    rw [t1, t2]
    rw [hl'] at hx2
    clear hw h5 hi
    simp -implicitDefEqProofs only [bV.d, oS.d, J0, J1, J2, J3, J4, J5, J6, J7, ↓reduceIte, reduceCtorEq, hlt]
    refine callS [2, 4, 5, 3] hx2 rfl rfl rfl ?_
    rintro _ _ ⟨q', ⟨m1, m2, m3, m4, m5⟩, rfl, h2, vf, vt, XF, XT, rfl⟩
    refine ⟨_, _, rfl, ?_⟩
    simp only [encSt, List.map_cons, List.map_nil]
    simp -implicitDefEqProofs only [bV.d, oS.d, J0, J1, J2, J3, J4, J5, J6, J7, ↓reduceIte, reduceCtorEq]
    apply vend_of []
    · simp only [vres, lk_cons, Nat.reduceBEq, cond_true, cond_false, ti22, ti3, ti31, ti79, ti80, vload, List.getElem?_cons_succ, List.getElem?_cons_zero, mkV, List.drop_zero, List.length_cons, List.length_nil, Nat.reduceAdd, Nat.le_refl, if_true, List.take_succ_cons, List.take_zero, List.map_cons, List.map_nil, Nat.reduceLeDiff]; rfl
    · first | rfl | (simp [fin, nodup, handO, lendR, lendV, lendLs, lendL, idx, vone, renL, lendVs, renO, renL.renLs]; first | exact ⟨rfl, rfl⟩ | exact ⟨rfl, rfl, rfl⟩)
    exact ⟨⟨q', .mk m1 m2 m3 m4 m5, rfl, h2⟩, rfl⟩

end Go.Vt.Tryz
