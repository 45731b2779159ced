/- The signatures' seat: new numbers for a signature's stamps; the law. -/
import Derived.Test.YtladjgdhpfcmjaaGreatDoorVtX11
import Derived.Test.YtladjgdhpfcmjaaGreatDoorVtA7
import Derived.Test.YtladjgdhpfcmjaaGreatDoorVtSigE
set_option maxRecDepth 100000
set_option linter.unusedSimpArgs false
namespace Go.Vt.Tryz
open Go.Vt renaming vslice → J0
open Nat renaming reduceBEq → J1, reduceEqDiff → J2, reduceLT → J3, reduceLeDiff → J4, reduceAdd → J5, reduceMul → J6, reduceSub → J7
open Go.Proofs Go.Vt.Al

def newl (s : Int) (n : Nat) : List Int := (List.range n).map fun k : Nat => s + (k : Int)
theorem newl_length {s : Int} {n : Nat} : (newl s n).length = n := by simp [newl]
theorem newl_succ {s : Int} {n : Nat} : newl s (n + 1) = newl s n ++ [s + (n : Int)] := by simp [newl, List.range_succ]
theorem newl_get {s : Int} {n i : Nat} (h : i < n) : (newl s n)[i]? = some (s + (i : Int)) := by
  unfold newl
  rw [List.getElem?_map, List.getElem?_range h]
  rfl
theorem newl_once {s : Int} {n : Nat} : Once (newl s n) := by
  intro i j x hi hj
  have li := (List.getElem?_eq_some_iff.1 hi).1
  have lj := (List.getElem?_eq_some_iff.1 hj).1
  rw [newl_length] at li lj
  rw [newl_get li] at hi
  rw [newl_get lj] at hj
  have h1 := Option.some.inj hi
  have h2 := Option.some.inj hj
  omega
theorem newl_ge {s : Int} {n : Nat} {x : Int} (h : x ∈ newl s n) : s ≤ x := by
  obtain ⟨i, hi⟩ := List.getElem?_of_mem h
  have li := (List.getElem?_eq_some_iff.1 hi).1
  rw [newl_length] at li
  rw [newl_get li] at hi
  have := Option.some.inj hi
  omega

theorem once_snoc {l : List Int} {u : Int} (h : Once l) (hu : u ∉ l) : Once (l ++ [u]) := by
  have last : ∀ i x, (l ++ [u])[i]? = some x → (l[i]? = some x ∧ i < l.length) ∨ (i = l.length ∧ x = u) := by
    intro i x hi
    rcases Nat.lt_or_ge i l.length with h1 | h1
    · rw [List.getElem?_append_left h1] at hi
      exact .inl ⟨hi, h1⟩
    · have h2 := (List.getElem?_eq_some_iff.1 hi).1
      simp only [List.length_append, List.length_cons, List.length_nil] at h2
      have e : i = l.length := by omega
      subst e
      rw [List.getElem?_append_right (by omega)] at hi
      simp at hi
      exact .inr ⟨rfl, hi.symm⟩
  intro i j x hi hj
  rcases last i x hi with ⟨a, a2⟩ | ⟨a, b⟩ <;> rcases last j x hj with ⟨c, c2⟩ | ⟨c, d⟩
  · exact h i j x a c
  · subst d; exact absurd (List.mem_of_getElem? a) hu
  · subst b; exact absurd (List.mem_of_getElem? c) hu
  · omega

theorem vc_low (l : List Int) (n : Int) (hl : l.length < 1000000000) : VC Tryz.prog 4 [.one (.d (.sl (nums l))), .one (.d (.int .i64 n))] [] fun r h' => r = .one (.d (.bool (decide (∀ k ∈ l, 0 ≤ k ∧ k < n)))) ∧ h' = [] := by
  refine VC_of_fn mixed fn4 (by simp) ?_
  show vwp Tryz.prog 0 vc4 _ [(0, .one (.d (.sl (nums l)))), (1, .one (.d (.int .i64 n)))] []
  unfold vc4
  rw [vwpI_eq]
  simp -implicitDefEqProofs only [bV.d, oS.d, J0, J1, J2, J3, J4, J5, J6, J7, ↓reduceIte, reduceCtorEq, nums_length]
  refine loopI (α := Nat) (fun i => [(5, .one (.d (.int .i64 i))), (0, .one (.d (.sl (nums l)))), (1, .one (.d (.int .i64 n)))]) (fun _ => [])
    (fun i => i ≤ l.length ∧ ∀ k ∈ l.take i, 0 ≤ k ∧ k < n) (fun i => l.length - i) 0
    (keepI [] _ (WkH.refl _) rfl rfl rfl ⟨⟨_, WkV.refl _, rfl⟩, ⟨_, WkV.refl _, rfl⟩, ⟨_, WkV.refl _, rfl⟩, trivial⟩) ⟨Nat.zero_le _, by simp⟩ ?_
  rintro i ⟨hi, hn⟩
  have hw := wrapA1 (a := i) rfl (by omega)
  rcases Nat.lt_or_ge i l.length with h | h
  · have hc : ((i : Int) < (l.length : Int)) = True := by simp; omega
    obtain ⟨u, hu⟩ := rowOf h
    have hg := nums_get hu
    have hm : u ∈ l := List.mem_of_getElem? hu
    by_cases h0 : u < 0
    · have he : (u < 0) = True := by simp [h0]
      simp -implicitDefEqProofs only [bV.d, oS.d, J0, J1, J2, J3, J4, J5, J6, J7, ↓reduceIte, reduceCtorEq, hc, hg, he, Int.natCast_nonneg, Int.toNat_natCast, nums_length]
      apply vend_of []; rfl; rfl
      have : ¬ ∀ k ∈ l, 0 ≤ k ∧ k < n := fun h => by have := (h u hm).1; omega
      exact ⟨by simp only [this, decide_false], rfl⟩
    · have he : (u < 0) = False := by simp only [h0]
      by_cases h1 : n ≤ u
      · have he2 : (n ≤ u) = True := by simp [h1]
        simp -implicitDefEqProofs only [bV.d, oS.d, J0, J1, J2, J3, J4, J5, J6, J7, ↓reduceIte, reduceCtorEq, hc, hg, he, he2, Int.natCast_nonneg, Int.toNat_natCast, nums_length]
        apply vend_of []; rfl; rfl
        have : ¬ ∀ k ∈ l, 0 ≤ k ∧ k < n := fun h => by have := (h u hm).2; omega
        exact ⟨by simp only [this, decide_false], rfl⟩
      · have he2 : (n ≤ u) = False := by simp only [h1]
        simp -implicitDefEqProofs only [bV.d, oS.d, J0, J1, J2, J3, J4, J5, J6, J7, ↓reduceIte, reduceCtorEq, hc, hg, he, he2, hw, Int.natCast_nonneg, Int.toNat_natCast, nums_length]
        refine ⟨i + 1, ⟨by omega, ?_⟩, by omega, ?_⟩
        · rw [List.take_add_one, hu]
          intro k hk
          simp only [Option.toList_some, List.mem_append, List.mem_singleton] at hk
          rcases hk with hk | rfl
          · exact hn k hk
          · omega
        · exact (keepI [] _ (WkH.refl _) rfl rfl rfl ⟨⟨_, WkV.refl _, rfl⟩, ⟨_, WkV.refl _, rfl⟩, ⟨_, WkV.refl _, rfl⟩, trivial⟩)
  · have hc : ((i : Int) < (l.length : Int)) = False := by simp; omega
    simp -implicitDefEqProofs only [bV.d, oS.d, J0, J1, J2, J3, J4, J5, J6, J7, ↓reduceIte, reduceCtorEq, hc, nums_length]
    apply vend_of []; rfl; rfl
    rw [List.take_of_length_le h] at hn
    exact ⟨by rw [decide_eq_true hn], rfl⟩

theorem vc_freeStr (s : Stx) (hs : stn s < 10000000) : VC Tryz.prog 5 [stW s] [] fun r h' => r = .one (.d (.sl (nums (freeF ([], s))))) ∧ h' = [] := by
  have h := vc_rfree [] s (by simp) hs
  generalize freeF ([], s) = FR at h
  obtain ⟨s1, s2, s3, s4, s5⟩ := s
  simp only [stW, abW, encSt, List.map_cons, List.map_nil] at h ⊢
  refine VC_of_fn mixed fn5 (by simp) ?_
  show vwp Tryz.prog 0 vc5 _ [(0, .agg [.d (.sl (s1.map encTym)), .d (.sl (s2.map encVam)), .d (.sl (encSt.subs s3)), .d (.sl (encSt.funs s4)), .d (.sl (encSt.sigs s5))])] []
  unfold vc5
  rw [vwpI_eq]
  simp -implicitDefEqProofs only [bV.d, oS.d, J0, J1, J2, J3, J4, J5, J6, J7, ↓reduceIte, reduceCtorEq]
  refine callB [] [.agg [.d (.sl (nums [])), .d (.sl (s1.map encTym)), .d (.sl (s2.map encVam)), .d (.sl (encSt.subs s3)), .d (.sl (encSt.funs s4)), .d (.sl (encSt.sigs s5))]] _ [] rfl ⟨⟨.inr (.inl ⟨rfl, rfl⟩), .inl rfl, .inl rfl, .inl rfl, .inl rfl, .inl rfl, trivial⟩, trivial⟩ (WkH.refl _) h rfl rfl rfl ?_
  rintro _ _ ⟨rfl, rfl⟩
  refine ⟨_, _, rfl, ?_⟩
  simp -implicitDefEqProofs only [bV.d, oS.d, J0, J1, J2, J3, J4, J5, J6, J7, ↓reduceIte, reduceCtorEq]
  apply vend_of []; rfl; rfl
  exact ⟨rfl, rfl⟩

set_option maxHeartbeats 1000000 in
theorem vc_Fresh (q : List Int) (y : Stx) (s : Int) (hs0 : 0 ≤ s) (hs : s ≤ 536870912) (hq : q.length < 10000000) (hy : stn y < 10000000) :
    VC Tryz.prog 7 [abW q y, .one (.d (.int .i64 s))] [] fun r h' => (∃ y', r = .tup [abW (newl s q.length) y', .one (.d (.int .i64 (s + (q.length : Int))))] ∧ renSt q.reverse (newl s q.length).reverse y y') ∧ h' = [] := by
  have hx := vc_rename y [] q (newl s q.length) (by simp [newl_length]) (by simp; omega) (by simp) hy
  have hRe : ∃ R : Stx → Prop, R = fun y' => renSt q.reverse (newl s q.length).reverse y y' := ⟨_, rfl⟩
  obtain ⟨R, hR⟩ := hRe
  have hx2 : VC Tryz.prog 12 [abW [] y, .one (.d (.sl (nums q))), .one (.d (.sl (nums (newl s q.length))))] [] fun r h' => (∃ y', r = abW [] y' ∧ R y') ∧ h' = [] := by
    rw [hR]
    refine hx.mono ?_
    rintro r h' ⟨⟨q', y', a, b, c⟩, d⟩
    have : q' = [] := List.length_eq_zero_iff.1 b.1
    subst this
    rw [List.append_nil, List.append_nil] at c
    exact ⟨⟨y', a, c⟩, d⟩
  suffices hsuf : VC Tryz.prog 7 [abW q y, .one (.d (.int .i64 s))] [] fun r h' => (∃ y', r = .tup [abW (newl s q.length) y', .one (.d (.int .i64 (s + (q.length : Int))))] ∧ R y') ∧ h' = [] by
    rw [hR] at hsuf
    exact hsuf
  clear hx hR
  obtain ⟨y1, y2, y3, y4, y5⟩ := y
  simp only [abW, encSt, List.map_cons, List.map_nil] at hx2 ⊢
  refine VC_of_fn mixed fn7 (by simp) ?_
  show vwp Tryz.prog 0 vc7 _ [(0, .agg [.d (.sl (nums q)), .d (.sl (y1.map encTym)), .d (.sl (y2.map encVam)), .d (.sl (encSt.subs y3)), .d (.sl (encSt.funs y4)), .d (.sl (encSt.sigs y5))]), (1, .one (.d (.int .i64 s)))] []
  unfold vc7
  rw [vwpI_eq]
  simp -implicitDefEqProofs only [bV.d, oS.d, J0, J1, J2, J3, J4, J5, J6, J7, ↓reduceIte, reduceCtorEq, nums_length]
  refine loopI (α := Nat × Int) (fun x => [(10, .one (.d (.int .i64 x.1))), (9, .one (.d (.int .i64 q.length))), (6, .one (.own 2 x.1 x.1)), (1, .one (.d (.int .i64 x.2))), (2, .one (.ptr 0 0)), (4, .one (.ptr 1 0))])
    (fun x => [.box [.d (.sl (nums q)), .d (.sl (y1.map encTym)), .d (.sl (y2.map encVam)), .d (.sl (encSt.subs y3)), .d (.sl (encSt.funs y4)), .d (.sl (encSt.sigs y5))], .box [.nils, .nils, .nils, .nils, .nils, .nils], .arr false 1 x.1 (nums (newl s x.1))])
    (fun x => x.1 ≤ q.length ∧ x.2 = s + (x.1 : Int)) (fun x => q.length - x.1) (0, s)
    (keepG [(6, 1)] [] [0, 1, 2] _ rfl rfl (WkH.refl _) rfl rfl rfl ⟨⟨_, WkV.refl _, rfl⟩, ⟨_, WkV.refl _, rfl⟩, ⟨_, WkV.refl _, rfl⟩, ⟨_, WkV.refl _, rfl⟩, ⟨_, WkV.refl _, rfl⟩, ⟨_, WkV.refl _, rfl⟩, trivial⟩) ⟨Nat.zero_le _, by simp⟩ ?_
  rintro ⟨i, n⟩ ⟨hi, hn⟩
  dsimp only at hi hn ⊢
  have hw := wrapA1 (a := i) rfl (by omega)
  have hw2 : IntKind.i64.wrap (n + 1) = n + 1 := by rw [wrap_p (by omega) (by omega)]
  have htk : (nums (newl s i)).take i = nums (newl s i) := List.take_of_length_le (by rw [nums_length, newl_length]; exact Nat.le_refl _)
  rcases Nat.lt_or_ge i q.length with h5 | h5
  · have hc : ((i : Int) < (q.length : Int)) = True := by simp; omega
    have hcap : (i + 1) * 8 ≤ maxBytes ∧ i + 1 ≤ maxBytes := by simp [maxBytes]; omega
    have e2 : nums (newl s i) ++ [[.int .i64 n]] = nums (newl s (i + 1)) := by rw [newl_succ, ← hn]; simp [nums]
    simp -implicitDefEqProofs only [bV.d, oS.d, J0, J1, J2, J3, J4, J5, J6, J7, ↓reduceIte, reduceCtorEq, hc, hcap, htk, hw, hw2]
    rw [e2]
    refine ⟨(i + 1, n + 1), ⟨by show i + 1 ≤ q.length; omega, by show n + 1 = s + ((i + 1 : Nat) : Int); omega⟩, by show q.length - (i + 1) < q.length - i; omega, ?_⟩
    exact (keepI [0, 1, 2] _ (WkH.refl _) rfl rfl rfl ⟨⟨_, WkV.refl _, rfl⟩, ⟨_, WkV.refl _, rfl⟩, ⟨_, WkV.refl _, rfl⟩, ⟨_, WkV.refl _, rfl⟩, ⟨_, WkV.refl _, rfl⟩, ⟨_, WkV.refl _, rfl⟩, trivial⟩)
  · have hc : ((i : Int) < (q.length : Int)) = False := by simp; omega
    have hie : i = q.length := by omega
    subst hie
    subst hn
    clear hw hw2
    simp -implicitDefEqProofs only [bV.d, oS.d, J0, J1, J2, J3, J4, J5, J6, J7, ↓reduceIte, reduceCtorEq, hc]
    refine callB [] [.agg [.d (.sl (nums [])), .d (.sl (y1.map encTym)), .d (.sl (y2.map encVam)), .d (.sl (encSt.subs y3)), .d (.sl (encSt.funs y4)), .d (.sl (encSt.sigs y5))], .one (.d (.sl (nums q))), .one (.own 2 q.length q.length)] _ [] rfl ?_ (WkH.refl _) hx2 rfl ?_ rfl ?_
    case' refine_1 => exact ⟨⟨.inr (.inl ⟨rfl, rfl⟩), .inl rfl, .inl rfl, .inl rfl, .inl rfl, .inl rfl, trivial⟩, WkV.refl _, WkV.refl _, trivial⟩
    case' refine_2 => simp [lendVs, lendV, lendLs, lendL, idx, renL, htk]
    rintro _ _ ⟨⟨⟨m1, m2, m3, m4, m5⟩, rfl, hr⟩, rfl⟩
    refine ⟨_, _, rfl, ?_⟩
    simp only [encSt, List.map_cons, List.map_nil]
    simp -implicitDefEqProofs only [bV.d, oS.d, J0, J1, J2, J3, J4, J5, J6, J7, ↓reduceIte, reduceCtorEq]
    apply vend_of []
    · simp only [vres, lk_cons, Nat.reduceBEq, cond_true, cond_false, ti31, vload, List.getElem?_cons_succ, List.getElem?_cons_zero, mkV, List.drop_zero, List.length_cons, List.length_nil, Nat.reduceAdd, Nat.le_refl, if_true, List.take_succ_cons, List.take_zero, List.map_cons, List.map_nil, Nat.reduceLeDiff]; rfl
    · simp [fin, nodup, handO, lendR, lendV, lendLs, lendL, idx, vone, renL, lendVs, renO, renL.renLs, htk]
      exact ⟨rfl, rfl⟩
    · exact ⟨⟨.mk m1 m2 m3 m4 m5, rfl, hr⟩, rfl⟩

end Go.Vt.Tryz
set_option maxRecDepth 100000
set_option linter.unusedSimpArgs false
namespace Go.Vt.Tryz
open Go.Vt renaming vslice → J0
open Nat renaming reduceBEq → J1, reduceEqDiff → J2, reduceLT → J3, reduceLeDiff → J4, reduceAdd → J5, reduceMul → J6, reduceSub → J7
open Go.Proofs Go.Vt.Al

theorem fresh_same {l : List Int} {s y' : Stx} {next : Int} (hl : l.length < 5000000) (hs : stn s < 5000000) (hn : nmOk s) (ho : Once l) (hF : ∀ k ∈ freeF ([], s), 0 ≤ k ∧ k < next) (hr : renSt l.reverse (newl next l.length).reverse s y') :
    VC Tryz.prog 8 [abW l s, abW (newl next l.length) y'] [] fun r h' => r = .one (.d (.bool true)) ∧ h' = [] := by
  have ha : alAbs (l, s) (newl next l.length, y') := al_fresh ho newl_once newl_length.symm (fun n hn hc => by
    have h1 := (hF n (free_of hn)).2
    have h2 := newl_ge hc
    omega) hr
  exact vc_rsame l _ s y' (by omega) (by omega) hn (by rw [newl_length]; omega) (by rw [al_stn s y' _ _ ha.2]; omega) (al_nm s y' _ _ ha.2 hn) (al_canon ha)

set_option maxHeartbeats 4000000 in
theorem vc_SigsFresh (l : List Int) (s : Stx) (next : Int) (hl : l.length < 5000000) (hs : stn s < 5000000) (hn : nmOk s) :
    VC Tryz.prog 3 [abW l s, .one (.d (.int .i64 next))] [] fun r h' => r = .one (.d (.bool true)) ∧ h' = [] := by
  have hfree := vc_freeStr s (by omega)
  have hfl : (freeF ([], s)).length < 1000000000 := by
    have h1 := (abs0 (tk := []) (sb := id) ([], s) (by simp only; omega) (by simp)).2
    have h2 : (freeF ([], s)).length ≤ stn s := h1
    omega
  have hlow1 := vc_low (freeF ([], s)) next hfl
  have hlow2 := vc_low l next (by omega)
  have hFr := fun h0 h1 => vc_Fresh l s next h0 h1 (by omega) (by omega)
  have hsame := fun y' => fresh_same (y' := y') (next := next) hl hs hn
  have hRe : ∃ R : Stx → Prop, R = fun y' => renSt l.reverse (newl next l.length).reverse s y' := ⟨_, rfl⟩
  obtain ⟨R, hR⟩ := hRe
  have hFr : 0 ≤ next → next ≤ 536870912 → VC Tryz.prog 7 [abW l s, .one (.d (.int .i64 next))] [] fun r h' => (∃ y', r = .tup [abW (newl next l.length) y', .one (.d (.int .i64 (next + (l.length : Int))))] ∧ R y') ∧ h' = [] := by rw [hR]; exact hFr
  have hsame : Once l → (∀ k ∈ freeF ([], s), 0 ≤ k ∧ k < next) → ∀ y', R y' → VC Tryz.prog 8 [abW l s, abW (newl next l.length) y'] [] fun r h' => r = .one (.d (.bool true)) ∧ h' = [] := fun a b y' c => hsame y' a b (by rw [hR] at c; exact c)
  clear hR
  generalize freeF ([], s) = FR at hfree hlow1 hsame
  obtain ⟨s1, s2, s3, s4, s5⟩ := s
  clear hs hn hfl
  simp only [abW, stW, encSt, List.map_cons, List.map_nil] at hfree hFr hsame ⊢
  refine VC_of_fn mixed fn3 (by simp) ?_
  show vwp Tryz.prog 0 vc3 _ [(0, .agg [.d (.sl (nums l)), .d (.sl (s1.map encTym)), .d (.sl (s2.map encVam)), .d (.sl (encSt.subs s3)), .d (.sl (encSt.funs s4)), .d (.sl (encSt.sigs s5))]), (1, .one (.d (.int .i64 next)))] []
  unfold vc3
  rw [vwpI_eq]
  by_cases a1 : next < 0
  · have a1t : (next < 0) = True := by simp only [a1]
    simp -implicitDefEqProofs only [bV.d, oS.d, J0, J1, J2, J3, J4, J5, J6, J7, ↓reduceIte, reduceCtorEq, a1t, decide_true]
    refine callS [] (vc_alive) rfl rfl rfl ?_
    rintro _ _ ⟨rfl, rfl⟩
    refine ⟨_, _, rfl, ?_⟩
    simp -implicitDefEqProofs only [bV.d, oS.d, J0, J1, J2, J3, J4, J5, J6, J7, ↓reduceIte, reduceCtorEq]
    apply vend_of []; rfl; rfl
    exact ⟨rfl, rfl⟩
  have a1f : (next < 0) = False := by simp only [a1]
  by_cases a2 : 536870912 < next
  · have a2t : ((536870912 : Int) < next) = True := by simp only [a2]
    simp -implicitDefEqProofs only [bV.d, oS.d, J0, J1, J2, J3, J4, J5, J6, J7, ↓reduceIte, reduceCtorEq, a1f, a2t, decide_true]
    refine callS [] (vc_alive) rfl rfl rfl ?_
    rintro _ _ ⟨rfl, rfl⟩
    refine ⟨_, _, rfl, ?_⟩
    simp -implicitDefEqProofs only [bV.d, oS.d, J0, J1, J2, J3, J4, J5, J6, J7, ↓reduceIte, reduceCtorEq]
    apply vend_of []; rfl; rfl
    exact ⟨rfl, rfl⟩
  have a2f : ((536870912 : Int) < next) = False := by simp only [a2]
  simp -implicitDefEqProofs only [bV.d, oS.d, J0, J1, J2, J3, J4, J5, J6, J7, ↓reduceIte, reduceCtorEq, a1f, a2f, decide_false]
  refine callS [] (hfree) rfl rfl rfl ?_
  rintro _ _ ⟨rfl, rfl⟩
  refine ⟨_, _, rfl, ?_⟩
  simp -implicitDefEqProofs only [bV.d, oS.d, J0, J1, J2, J3, J4, J5, J6, J7, ↓reduceIte, reduceCtorEq]
  by_cases a3 : ∀ k ∈ FR, 0 ≤ k ∧ k < next
  case neg =>
    rw [decide_eq_false a3] at hlow1
    refine callS [] (hlow1) rfl rfl rfl ?_
    rintro _ _ ⟨rfl, rfl⟩
    refine ⟨_, _, rfl, ?_⟩
    simp -implicitDefEqProofs only [bV.d, oS.d, J0, J1, J2, J3, J4, J5, J6, J7, ↓reduceIte, reduceCtorEq]
    refine callS [] (vc_alive) rfl rfl rfl ?_
    rintro _ _ ⟨rfl, rfl⟩
    refine ⟨_, _, rfl, ?_⟩
    simp -implicitDefEqProofs only [bV.d, oS.d, J0, J1, J2, J3, J4, J5, J6, J7, ↓reduceIte, reduceCtorEq]
    apply vend_of []; rfl; rfl
    exact ⟨rfl, rfl⟩
  rw [decide_eq_true a3] at hlow1
  refine callS [] (hlow1) rfl rfl rfl ?_
  rintro _ _ ⟨rfl, rfl⟩
  refine ⟨_, _, rfl, ?_⟩
  simp -implicitDefEqProofs only [bV.d, oS.d, J0, J1, J2, J3, J4, J5, J6, J7, ↓reduceIte, reduceCtorEq]
  by_cases a4 : ∀ k ∈ l, 0 ≤ k ∧ k < next
  case neg =>
    rw [decide_eq_false a4] at hlow2
    refine callS [] (hlow2) rfl rfl rfl ?_
    rintro _ _ ⟨rfl, rfl⟩
    refine ⟨_, _, rfl, ?_⟩
    simp -implicitDefEqProofs only [bV.d, oS.d, J0, J1, J2, J3, J4, J5, J6, J7, ↓reduceIte, reduceCtorEq]
    refine callS [] (vc_alive) rfl rfl rfl ?_
    rintro _ _ ⟨rfl, rfl⟩
    refine ⟨_, _, rfl, ?_⟩
    simp -implicitDefEqProofs only [bV.d, oS.d, J0, J1, J2, J3, J4, J5, J6, J7, ↓reduceIte, reduceCtorEq]
    apply vend_of []; rfl; rfl
    exact ⟨rfl, rfl⟩
  rw [decide_eq_true a4] at hlow2
  refine callS [] (hlow2) rfl rfl rfl ?_
  rintro _ _ ⟨rfl, rfl⟩
  refine ⟨_, _, rfl, ?_⟩
  simp -implicitDefEqProofs only [bV.d, oS.d, J0, J1, J2, J3, J4, J5, J6, J7, ↓reduceIte, reduceCtorEq]
  clear hlow1 hlow2 hfree a1f a2f
  have hFr := hFr (by omega) (by omega)
  refine loopI (α := Nat) (fun i => [(5, .one (.d (.int .i64 i))), (1, .one (.d (.int .i64 next))), (2, .one (.ptr 0 0))]) (fun _ => [.box [.d (.sl (nums l)), .d (.sl (s1.map encTym)), .d (.sl (s2.map encVam)), .d (.sl (encSt.subs s3)), .d (.sl (encSt.funs s4)), .d (.sl (encSt.sigs s5))]])
    (fun i => i ≤ l.length ∧ Once (l.take i)) (fun i => l.length - i) 0
    (keepI [0] _ (WkH.refl _) rfl rfl rfl ⟨⟨_, WkV.refl _, rfl⟩, ⟨_, WkV.refl _, rfl⟩, ⟨_, WkV.refl _, rfl⟩, trivial⟩) ⟨Nat.zero_le _, fun i j x h => by simp at h⟩ ?_
  rintro i ⟨hi, ho⟩
  have hw := wrapA1 (a := i) rfl (by omega)
  rcases Nat.lt_or_ge i l.length with h | h
  · have hc : ((i : Int) < (l.length : Int)) = True := by simp; omega
    obtain ⟨u, hu⟩ := rowOf h
    have hg := nums_get hu
    simp -implicitDefEqProofs only [bV.d, oS.d, J0, J1, J2, J3, J4, J5, J6, J7, ↓reduceIte, reduceCtorEq, hc, nums_length]
    refine loopI (α := Nat) (fun k => [(6, .one (.d (.int .i64 k))), (5, .one (.d (.int .i64 i))), (1, .one (.d (.int .i64 next))), (2, .one (.ptr 0 0))]) (fun _ => [.box [.d (.sl (nums l)), .d (.sl (s1.map encTym)), .d (.sl (s2.map encVam)), .d (.sl (encSt.subs s3)), .d (.sl (encSt.funs s4)), .d (.sl (encSt.sigs s5))]])
      (fun k => k ≤ i ∧ u ∉ l.take k) (fun k => i - k) 0
      (keepI [0] _ (WkH.refl _) rfl rfl rfl ⟨⟨_, WkV.refl _, rfl⟩, ⟨_, WkV.refl _, rfl⟩, ⟨_, WkV.refl _, rfl⟩, ⟨_, WkV.refl _, rfl⟩, trivial⟩) ⟨Nat.zero_le _, by simp⟩ ?_
    rintro k ⟨hk, hnk⟩
    have hwk := wrapA1 (a := k) rfl (by omega)
    rcases Nat.lt_or_ge k i with h6 | h6
    · have hck : ((k : Int) < (i : Int)) = True := by simp; omega
      have hck2 : ((k : Int) < (l.length : Int)) = True := by simp; omega
      obtain ⟨v, hv⟩ := rowOf (l := l) (i := k) (by omega)
      have hgv := nums_get hv
      by_cases he : u = v
      · have he2 : (u = v) = True := by simp [he]
        simp -implicitDefEqProofs only [bV.d, oS.d, J0, J1, J2, J3, J4, J5, J6, J7, ↓reduceIte, reduceCtorEq, hc, hck, hck2, hg, hgv, he2, Int.natCast_nonneg, Int.toNat_natCast, nums_length]
        refine callS [] (vc_alive) rfl rfl rfl ?_
        rintro _ _ ⟨rfl, rfl⟩
        refine ⟨_, _, rfl, ?_⟩
        simp -implicitDefEqProofs only [bV.d, oS.d, J0, J1, J2, J3, J4, J5, J6, J7, ↓reduceIte, reduceCtorEq]
        apply vend_of []; rfl; rfl
        exact ⟨rfl, rfl⟩
      · have he2 : (u = v) = False := by simp [he]
        simp -implicitDefEqProofs only [bV.d, oS.d, J0, J1, J2, J3, J4, J5, J6, J7, ↓reduceIte, reduceCtorEq, hc, hck, hck2, hg, hgv, he2, hwk, Int.natCast_nonneg, Int.toNat_natCast, nums_length]
        refine ⟨k + 1, ⟨by omega, ?_⟩, by omega, ?_⟩
        · rw [List.take_add_one, hv]
          simp only [Option.toList_some, List.mem_append, List.mem_singleton, not_or]
          exact ⟨hnk, he⟩
        · exact (keepI [0] _ (WkH.refl _) rfl rfl rfl ⟨⟨_, WkV.refl _, rfl⟩, ⟨_, WkV.refl _, rfl⟩, ⟨_, WkV.refl _, rfl⟩, ⟨_, WkV.refl _, rfl⟩, trivial⟩)
    · have hck : ((k : Int) < (i : Int)) = False := by simp; omega
      have hke : k = i := by omega
      subst hke
      simp -implicitDefEqProofs only [bV.d, oS.d, J0, J1, J2, J3, J4, J5, J6, J7, ↓reduceIte, reduceCtorEq, hck, hw]
      refine ⟨k + 1, ⟨by omega, ?_⟩, by omega, ?_⟩
      · rw [List.take_add_one, hu]
        exact once_snoc ho hnk
      · exact (keepI [0] _ (WkH.refl _) rfl rfl rfl ⟨⟨_, WkV.refl _, rfl⟩, ⟨_, WkV.refl _, rfl⟩, ⟨_, WkV.refl _, rfl⟩, trivial⟩)
  · have hc : ((i : Int) < (l.length : Int)) = False := by simp; omega
    rw [List.take_of_length_le h] at ho
    have hsame := hsame ho a3
    clear hw
    simp -implicitDefEqProofs only [bV.d, oS.d, J0, J1, J2, J3, J4, J5, J6, J7, ↓reduceIte, reduceCtorEq, hc, nums_length]
    refine callS [] (hFr) rfl rfl rfl ?_
    rintro _ _ ⟨⟨⟨m1, m2, m3, m4, m5⟩, rfl, hr⟩, rfl⟩
    refine ⟨_, _, rfl, ?_⟩
    have hs2 := hsame _ hr
    simp only [encSt, List.map_cons, List.map_nil] at hs2 ⊢
    clear hsame hFr
    have hwl : IntKind.i64.wrap (next + (l.length : Int)) = next + (l.length : Int) := by rw [wrap_p (by omega) (by omega)]
    have hnl : (nums (newl next l.length)).length = l.length := by rw [nums_length, newl_length]
    simp -implicitDefEqProofs only [bV.d, oS.d, J0, J1, J2, J3, J4, J5, J6, J7, ↓reduceIte, reduceCtorEq, hnl, nums_length, hwl, bne_self_eq_false, decide_false, decide_true]
    refine loopI (α := Nat) (fun i => [(9, .one (.d (.int .i64 i))), (1, .one (.d (.int .i64 next))), (2, .one (.ptr 0 0)), (7, .one (.ptr 1 0))]) (fun _ => [.box [.d (.sl (nums l)), .d (.sl (s1.map encTym)), .d (.sl (s2.map encVam)), .d (.sl (encSt.subs s3)), .d (.sl (encSt.funs s4)), .d (.sl (encSt.sigs s5))], .box [.d (.sl (nums (newl next l.length))), .d (.sl (m1.map encTym)), .d (.sl (m2.map encVam)), .d (.sl (encSt.subs m3)), .d (.sl (encSt.funs m4)), .d (.sl (encSt.sigs m5))]])
      (fun i => i ≤ l.length) (fun i => l.length - i) 0
      (keepI [0, 1] _ (WkH.refl _) rfl rfl rfl ⟨⟨_, WkV.refl _, rfl⟩, ⟨_, WkV.refl _, rfl⟩, ⟨_, WkV.refl _, rfl⟩, ⟨_, WkV.refl _, rfl⟩, trivial⟩) (Nat.zero_le _) ?_
    intro j hj
    have hwj := wrapA1 (a := j) rfl (by omega)
    have hwn : IntKind.i64.wrap (next + (j : Int)) = next + (j : Int) := by rw [wrap_p (by omega) (by omega)]
    rcases Nat.lt_or_ge j l.length with h7 | h7
    · have hcj : ((j : Int) < (l.length : Int)) = True := by simp; omega
      have hgj := nums_get (newl_get (s := next) h7)
      simp -implicitDefEqProofs only [bV.d, oS.d, J0, J1, J2, J3, J4, J5, J6, J7, ↓reduceIte, reduceCtorEq, hcj, hgj, hnl, hwj, hwn, Int.natCast_nonneg, Int.toNat_natCast, bne_self_eq_false, decide_false, decide_true]
      refine ⟨j + 1, by omega, by omega, ?_⟩
      exact (keepI [0, 1] _ (WkH.refl _) rfl rfl rfl ⟨⟨_, WkV.refl _, rfl⟩, ⟨_, WkV.refl _, rfl⟩, ⟨_, WkV.refl _, rfl⟩, ⟨_, WkV.refl _, rfl⟩, trivial⟩)
    · have hcj : ((j : Int) < (l.length : Int)) = False := by simp; omega
      simp -implicitDefEqProofs only [bV.d, oS.d, J0, J1, J2, J3, J4, J5, J6, J7, ↓reduceIte, reduceCtorEq, hcj, hnl]
      refine callS [] (hs2) rfl rfl rfl ?_
      rintro _ _ ⟨rfl, rfl⟩
      refine ⟨_, _, rfl, ?_⟩
      simp -implicitDefEqProofs only [bV.d, oS.d, J0, J1, J2, J3, J4, J5, J6, J7, ↓reduceIte, reduceCtorEq]
      refine callS [] (vc_alive) rfl rfl rfl ?_
      rintro _ _ ⟨rfl, rfl⟩
      refine ⟨_, _, rfl, ?_⟩
      simp -implicitDefEqProofs only [bV.d, oS.d, J0, J1, J2, J3, J4, J5, J6, J7, ↓reduceIte, reduceCtorEq]
      apply vend_of []; rfl; rfl
      exact ⟨rfl, rfl⟩

end Go.Vt.Tryz
