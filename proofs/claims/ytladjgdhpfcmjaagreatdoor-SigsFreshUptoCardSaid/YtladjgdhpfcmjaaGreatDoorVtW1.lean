/- The reference's walk: lists of numbers. -/
import Derived.Test.YtladjgdhpfcmjaaGreatDoorVtB17
import Derived.Test.YtladjgdhpfcmjaaGreatDoorVtA1
import Derived.Test.YtladjgdhpfcmjaaGreatDoorVtD13
set_option maxRecDepth 100000
set_option linter.unusedSimpArgs false
namespace Go.Vt.Tryz
open Go.Vt renaming vslice → J0
open Nat renaming reduceBEq → J1, reduceEqDiff → J2, reduceLT → J3, reduceLeDiff → J4, reduceAdd → J5, reduceMul → J6, reduceSub → J7
open Go.Proofs Go.Vt.Al

theorem nums_append (a b : List Int) : nums (a ++ b) = nums a ++ nums b := List.map_append ..

theorem vc_has (l : List Int) (n : Int) (hl : l.length < 1000000000) : VC Tryz.prog 138 [.one (.d (.sl (nums l))), .one (.d (.int .i64 n))] [] fun r h' => r = .one (.d (.bool (decide (n ∈ l)))) ∧ h' = [] := by
  refine VC_of_fn mixed fn138 (by simp) ?_
  show vwp Tryz.prog 0 vc138 _ [(0, .one (.d (.sl (nums l)))), (1, .one (.d (.int .i64 n)))] []
  unfold vc138
  rw [vwpI_eq]
  simp -implicitDefEqProofs only [bV.d, oS.d, J0, J1, J2, J3, J4, J5, J6, J7, ↓reduceIte, reduceCtorEq, nums_length]
  refine loopI (α := Nat) (fun i => [(5, .one (.d (.int .i64 i))), (0, .one (.d (.sl (nums l)))), (1, .one (.d (.int .i64 n)))]) (fun _ => [])
    (fun i => i ≤ l.length ∧ n ∉ l.take i) (fun i => l.length - i) 0
    (keepI [] _ (WkH.refl _) rfl rfl rfl ⟨⟨_, WkV.refl _, rfl⟩, ⟨_, WkV.refl _, rfl⟩, ⟨_, WkV.refl _, rfl⟩, trivial⟩) ⟨Nat.zero_le _, by simp⟩ ?_
  rintro i ⟨hi, hn⟩
  have hw := wrapA1 (a := i) rfl (by omega)
  rcases Nat.lt_or_ge i l.length with h | h
  · have hc : ((i : Int) < (l.length : Int)) = True := by simp; omega
    obtain ⟨u, hu⟩ := rowOf h
    have hg := nums_get hu
    by_cases he : u = n
    · have he2 : (u = n) = True := by simp [he]
      simp -implicitDefEqProofs only [bV.d, oS.d, J0, J1, J2, J3, J4, J5, J6, J7, ↓reduceIte, reduceCtorEq, hc, hg, he2, Int.natCast_nonneg, Int.toNat_natCast, nums_length]
      apply vend_of []; rfl; rfl
      have : n ∈ l := he ▸ List.mem_of_getElem? hu
      exact ⟨by simp [this], rfl⟩
    · have he2 : (u = n) = False := by simp [he]
      simp -implicitDefEqProofs only [bV.d, oS.d, J0, J1, J2, J3, J4, J5, J6, J7, ↓reduceIte, reduceCtorEq, hc, hg, he2, hw, Int.natCast_nonneg, Int.toNat_natCast, nums_length]
      refine ⟨i + 1, ⟨by omega, ?_⟩, by omega, ?_⟩
      · rw [List.take_add_one, hu]
        simp only [Option.toList_some, List.mem_append, List.mem_singleton, not_or]
        exact ⟨hn, fun g => he g.symm⟩
      · exact (keepI [] _ (WkH.refl _) rfl rfl rfl ⟨⟨_, WkV.refl _, rfl⟩, ⟨_, WkV.refl _, rfl⟩, ⟨_, WkV.refl _, rfl⟩, trivial⟩)
  · have hc : ((i : Int) < (l.length : Int)) = False := by simp; omega
    simp -implicitDefEqProofs only [bV.d, oS.d, J0, J1, J2, J3, J4, J5, J6, J7, ↓reduceIte, reduceCtorEq, hc, nums_length]
    apply vend_of []; rfl; rfl
    rw [List.take_of_length_le h] at hn
    exact ⟨by simp [hn], rfl⟩

theorem bub_app {n : Int} : ∀ {a b : List Int}, (∀ x ∈ a, n < x) → bub n (a ++ b) = a ++ bub n b
  | [], _, _ => rfl
  | x :: a, b, h => by
    rw [List.cons_append, bub, if_pos (h x (by simp)), bub_app (fun y hy => h y (by simp [hy]))]
    rfl

theorem put_at {l : List Int} {n : Int} (hn : n ∉ l) {k : Nat} (h1 : ∀ x ∈ l.drop k, n < x) (h2 : ∀ y, 0 < k → l[k - 1]? = some y → ¬ n < y) (hk : k ≤ l.length) : l.take k ++ n :: l.drop k = putF l n := by
  unfold putF
  rw [if_neg hn]
  conv => rhs; rw [← List.take_append_drop k l, List.reverse_append]
  rw [bub_app (fun x hx => h1 x (List.mem_reverse.1 hx)), List.reverse_append, List.reverse_reverse]
  have hb : bub n (l.take k).reverse = n :: (l.take k).reverse := by
    cases k with
    | zero => rfl
    | succ k =>
      obtain ⟨y, hy⟩ : ∃ y, l[k]? = some y := ⟨l[k], List.getElem?_eq_getElem (by omega)⟩
      rw [List.take_add_one, hy]
      simp only [Option.toList_some, List.reverse_append, List.reverse_cons, List.reverse_nil, List.nil_append, List.cons_append, bub]
      rw [if_neg (h2 y (by omega) (by simpa using hy))]
  rw [hb, List.reverse_cons, List.reverse_reverse, List.append_assoc]
  rfl

theorem mid_get {l : List Int} {n : Int} {k : Nat} (hk : k ≤ l.length) : (l.take k ++ n :: l.drop k)[k]? = some n := by
  rw [List.getElem?_append_right (by simp; omega)]
  simp [Nat.min_eq_left hk]

theorem mid_pred {l : List Int} {n y : Int} {k : Nat} (hk : k < l.length) (hy : l[k]? = some y) : (l.take (k + 1) ++ n :: l.drop (k + 1))[k]? = some y := by
  rw [List.getElem?_append_left (by simp; omega), List.getElem?_take_of_lt (by omega)]
  exact hy

theorem mid_swap {l : List Int} {n y : Int} {k : Nat} (hk : k < l.length) (hy : l[k]? = some y) : ((l.take (k + 1) ++ n :: l.drop (k + 1)).set (k + 1) y).set k n = l.take k ++ n :: l.drop k := by
  have e1 : l.take (k + 1) = l.take k ++ [y] := by rw [List.take_add_one, hy]; rfl
  have e2 : l.drop k = y :: l.drop (k + 1) := by
    rw [List.drop_eq_getElem_cons hk]
    have : l[k] = y := by rw [List.getElem?_eq_getElem hk] at hy; exact Option.some.inj hy
    rw [this]
  have hlen : (l.take k).length = k := by simp; omega
  rw [e1, e2, List.append_assoc]
  generalize l.drop (k + 1) = q
  generalize l.take k = p at hlen
  subst hlen
  simp only [List.cons_append, List.nil_append]
  rw [List.set_append_right _ _ (by omega), List.set_append_right _ _ (by omega)]
  simp

theorem nums_set {l : List Int} {i : Nat} {n : Int} : (nums l).set i [.int .i64 n] = nums (l.set i n) := by unfold nums; rw [List.map_set]

theorem vc_put (l : List Int) (n : Int) (hl : l.length < 1000000000) : VC Tryz.prog 66 [.one (.d (.sl (nums l))), .one (.d (.int .i64 n))] [] fun r h' => r = .one (.d (.sl (nums (putF l n)))) ∧ h' = [] := by
  have hh := vc_has l n hl
  by_cases hn : n ∈ l
  · rw [show decide (n ∈ l) = true from by simp [hn]] at hh
    refine VC_of_fn mixed fn66 (by simp) ?_
    show vwp Tryz.prog 0 vc66 _ [(0, .one (.d (.sl (nums l)))), (1, .one (.d (.int .i64 n)))] []
    unfold vc66
    rw [vwpI_eq]
    simp -implicitDefEqProofs only [bV.d, oS.d, J0, J1, J2, J3, J4, J5, J6, J7, ↓reduceIte, reduceCtorEq]
    refine callS [] (hh) rfl rfl rfl ?_
    rintro _ _ ⟨rfl, rfl⟩
    refine ⟨_, _, rfl, ?_⟩
    simp -implicitDefEqProofs only [bV.d, oS.d, J0, J1, J2, J3, J4, J5, J6, J7, ↓reduceIte, reduceCtorEq]
    apply vend_of []; rfl; rfl
    exact ⟨by unfold putF; rw [if_pos hn], rfl⟩
  rw [show decide (n ∈ l) = false from by simp [hn]] at hh
  have ha : ((nums l).all fun e => e.length == 1) = true := by simp [nums]
  have hm1 : l.length * 8 ≤ maxBytes := by unfold maxBytes; omega
  have hm2 : l.length ≤ maxBytes := by unfold maxBytes; omega
  have hm3 : (l.length + 1) * 8 ≤ maxBytes := by unfold maxBytes; omega
  have hm4 : l.length + 1 ≤ maxBytes := by unfold maxBytes; omega
  refine VC_of_fn mixed fn66 (by simp) ?_
  show vwp Tryz.prog 0 vc66 _ [(0, .one (.d (.sl (nums l)))), (1, .one (.d (.int .i64 n)))] []
  unfold vc66
  rw [vwpI_eq]
  simp -implicitDefEqProofs only [bV.d, oS.d, J0, J1, J2, J3, J4, J5, J6, J7, ↓reduceIte, reduceCtorEq]
  refine callS [] (hh) rfl rfl rfl ?_
  rintro _ _ ⟨rfl, rfl⟩
  refine ⟨_, _, rfl, ?_⟩
  have hw0 : IntKind.i64.wrap (((l.length + 1 : Nat) : Int) - 1) = (l.length : Int) := wrapS1 (a := l.length + 1) (c := l.length) rfl (by omega)
  have ht : (nums l).take l.length = nums l := List.take_of_length_le (by rw [nums_length]; exact Nat.le_refl _)
  simp -implicitDefEqProofs only [bV.d, oS.d, J0, J1, J2, J3, J4, J5, J6, J7, ↓reduceIte, reduceCtorEq, nums_length, ha, hm1, hm2, hm3, hm4, hw0, ht, Nat.zero_mul, Nat.zero_le, Nat.one_mul, Nat.reduceMul]
  have e0 : nums l ++ [[D.int IntKind.i64 n]] = nums (l.take l.length ++ n :: l.drop l.length) := by simp [nums]
  rw [e0]
  refine loopI (α := Nat) (fun k => [(6, .one (.d (.int .i64 k))), (5, .one (.own 0 2 (l.length + 1)))]) (fun k => [.arr false 1 2 (nums (l.take k ++ n :: l.drop k))])
    (fun k => k ≤ l.length ∧ ∀ x ∈ l.drop k, n < x) (fun k => k) l.length
    (keepI [0] _ (WkH.refl _) rfl rfl rfl ⟨⟨_, WkV.refl _, rfl⟩, ⟨_, WkV.refl _, rfl⟩, trivial⟩) ⟨Nat.le_refl _, by simp⟩ ?_
  rintro k ⟨hk, hx⟩
  have hlen : (nums (l.take k ++ n :: l.drop k)).length = l.length + 1 := by rw [nums_length]; simp; omega
  rcases k with _ | j
  · have hc : ((0 : Int) < ((0 : Nat) : Int)) = False := by simp
    simp -implicitDefEqProofs only [bV.d, oS.d, J0, J1, J2, J3, J4, J5, J6, J7, ↓reduceIte, reduceCtorEq, hc]
    apply vend_of []; rfl; rfl
    refine ⟨?_, rfl⟩
    have hput := put_at hn hx (fun _ h => absurd h (by omega)) (by omega)
    simp only [List.take_zero, List.drop_zero, List.nil_append] at hput hlen
    rw [List.take_of_length_le (by rw [hlen]; exact Nat.le_refl _), hput]
  · have hc : ((0 : Int) < ((j + 1 : Nat) : Int)) = True := by simp only [eq_iff_iff, iff_true]; omega
    obtain ⟨y, hy⟩ := rowOf (l := l) (i := j) (by omega)
    have w1 : IntKind.i64.wrap (((j + 1 : Nat) : Int) - 1) = (j : Int) := wrapS1 (a := j + 1) (c := j) rfl (by omega)
    have hg1 := nums_get (mid_get (n := n) hk)
    have hg2 := nums_get (mid_pred (n := n) (by omega) hy)
    have l1 : ((j + 1 : Nat) : Int) < ((l.length + 1 : Nat) : Int) := by omega
    have l2 : (j : Int) < ((l.length + 1 : Nat) : Int) := by omega
    by_cases hny : n < y
    · have hd : (n < y) = True := by simp [hny]
      have hg3 : ((nums (l.take (j + 1) ++ n :: l.drop (j + 1))).set (j + 1) [D.int IntKind.i64 y])[j]? = some [.int .i64 y] := by
        rw [List.getElem?_set_ne (by omega)]
        exact hg2
      simp -implicitDefEqProofs only [bV.d, oS.d, J0, J1, J2, J3, J4, J5, J6, J7, ↓reduceIte, reduceCtorEq, hc, w1, hg1, hg2, hg3, l1, l2, hd, Int.natCast_nonneg, Int.toNat_natCast]
      refine ⟨j, ⟨by omega, ?_⟩, by omega, ?_⟩
      · intro x hxx
        rw [List.drop_eq_getElem_cons (by omega)] at hxx
        rcases List.mem_cons.1 hxx with rfl | h
        · rw [List.getElem?_eq_getElem (by omega)] at hy
          rw [Option.some.inj hy]
          exact hny
        · exact hx x h
      · rw [nums_set, nums_set, mid_swap (by omega) hy]
        exact (keepI [0] _ (WkH.refl _) rfl rfl rfl ⟨⟨_, WkV.refl _, rfl⟩, ⟨_, WkV.refl _, rfl⟩, trivial⟩)
    · have hd : (n < y) = False := by simp [hny]
      simp -implicitDefEqProofs only [bV.d, oS.d, J0, J1, J2, J3, J4, J5, J6, J7, ↓reduceIte, reduceCtorEq, hc, w1, hg1, hg2, l1, l2, hd, Int.natCast_nonneg, Int.toNat_natCast]
      apply vend_of []; rfl; rfl
      refine ⟨?_, rfl⟩
      rw [List.take_of_length_le (by rw [hlen]; exact Nat.le_refl _), put_at hn hx (fun z _ hz => by rw [show j + 1 - 1 = j from rfl, hy] at hz; cases hz; exact hny) (by omega)]

end Go.Vt.Tryz
set_option maxRecDepth 100000
set_option linter.unusedSimpArgs false
namespace Go.Vt.Tryz
open Go.Vt renaming vslice → J0
open Nat renaming reduceBEq → J1, reduceEqDiff → J2, reduceLT → J3, reduceLeDiff → J4, reduceAdd → J5, reduceMul → J6, reduceSub → J7
open Go.Proofs Go.Vt.Al

def rws (A N : List Int) : List (List D) := List.zipWith (fun a k => [.int .i64 a, .int .i64 k]) A N

theorem rws_length {A N : List Int} (h : N.length = A.length) : (rws A N).length = A.length := by simp [rws, h]
theorem rws_get {A N : List Int} {J : List (List D)} {i : Nat} {a k : Int} (h1 : A[i]? = some a) (h2 : N[i]? = some k) : (rws A N ++ J)[i]? = some [.int .i64 a, .int .i64 k] := by
  have h : (rws A N)[i]? = some [.int .i64 a, .int .i64 k] := by simp [rws, List.getElem?_zipWith, h1, h2]
  rw [List.getElem?_append_left (List.getElem?_eq_some_iff.1 h).1]
  exact h
theorem rws_set {a k : Int} : ∀ {A N : List Int} {J : List (List D)} {i : Nat}, N.length = A.length → A[i]? = some a → (rws A N ++ J).set i [.int .i64 a, .int .i64 k] = rws A (N.set i k) ++ J
  | x :: A, y :: N, J, 0, h, h1 => by
    have : x = a := by simpa using h1
    subst this
    rfl
  | x :: A, y :: N, J, i + 1, h, h1 => by
    have := rws_set (k := k) (J := J) (show N.length = A.length by simpa using h) (show A[i]? = some a by simpa using h1)
    simp only [rws, List.zipWith_cons_cons, List.cons_append, List.set_cons_succ] at this ⊢
    rw [this]
theorem rws_app {A N : List Int} {a k : Int} (h : N.length = A.length) : rws (A ++ [a]) (N ++ [k]) = rws A N ++ [[.int .i64 a, .int .i64 k]] := by
  unfold rws
  rw [List.zipWith_append h.symm]
  rfl
theorem rws_take {A N : List Int} {n : Nat} : (rws A N).take n = rws (A.take n) (N.take n) := by unfold rws; rw [List.take_zipWith]

theorem skip_ge : ∀ (n : Nat) (t : List Int) (k : Int), t.length ≤ n → k ≤ skipF t k := by
  intro n
  induction n with
  | zero =>
    intro t k h
    have : t = [] := List.length_eq_zero_iff.1 (by omega)
    subst this
    rw [skipF_stop (by simp)]
    exact Int.le_refl _
  | succ n ih =>
    intro t k h
    by_cases hk : k ∈ t
    · rw [skipF, dif_pos hk]
      have := ih (t.erase k) (k + 1) (by rw [List.length_erase_of_mem hk]; omega)
      omega
    · rw [skipF_stop hk]
      exact Int.le_refl _
theorem le_skip (t : List Int) (k : Int) : k ≤ skipF t k := skip_ge t.length t k (Nat.le_refl _)

def subF : List Int → List Int → Int → Int
  | a :: r, b :: q, n => if a = n then b else subF r q n
  | [], _, n => n
  | _ :: _, [], n => n

def wb (fr to tk : List Int) (v : Nat) (A : List Int) (w : WS) : AObj := .box [.own 1 v A.length, .d (.sl (nums fr)), .d (.sl (nums to)), .d (.int .i64 w.next), .d (.sl (nums tk)), .d (.sl (nums w.free))]
def wa (v : Nat) (A : List Int) (w : WS) (J : List (List D)) : AObj := .arr false 2 v (rws A w.nums ++ J)

theorem stamp_free {tk A : List Int} {sb : Int → Int} {n : Int} {w : WS} : (stampF tk sb A n w).2.free.length ≤ w.free.length + 1 := by
  unfold stampF
  cases lastIdx A n with
  | some i => simp only; split <;> simp
  | none =>
    have : ∀ l, (bub n l).length = l.length + 1 := by
      intro l
      induction l with
      | nil => rfl
      | cons y r ih => unfold bub; split <;> simp [ih]
    simp only [putF]
    split
    · simp
    · simp [this]

set_option maxHeartbeats 2000000 in
theorem vc_wstamp (fr to tk : List Int) (v : Nat) (A : List Int) (J : List (List D)) (n : Int) (w : WS) (hN : w.nums.length = A.length) (hA : A.length < 1000000000) (hfr : fr.length < 1000000000) (hto : to.length < 1000000000) (htk : tk.length < 1000000000) (hf : w.free.length < 1000000000)
    (h0 : 0 ≤ w.next) (hb : (stampF tk (subF fr to) A n w).2.next < 1000000000000000) :
    VC Tryz.prog 137 [.one (.ptr 0 0), .one (.d (.int .i64 n))] [wb fr to tk v A w, wa v A w J] fun r h' => r = .one (.d (.int .i64 (stampF tk (subF fr to) A n w).1)) ∧ h' = [wb fr to tk v A (stampF tk (subF fr to) A n w).2, wa v A (stampF tk (subF fr to) A n w).2 J] := by
  obtain ⟨N, nx, fs⟩ := w
  simp only at hN hf h0
  simp only [wb, wa]
  refine VC_of_fn mixed fn137 (by simp) ?_
  show vwp Tryz.prog 2 vc137 _ [(0, .one (.ptr 0 0)), (1, .one (.d (.int .i64 n)))] [.box [.own 1 v A.length, .d (.sl (nums fr)), .d (.sl (nums to)), .d (.int .i64 nx), .d (.sl (nums tk)), .d (.sl (nums fs))], .arr false 2 v (rws A N ++ J)]
  unfold vc137
  rw [vwpI_eq]
  have w0 : IntKind.i64.wrap ((A.length : Int) - 1) = (A.length : Int) - 1 := by rw [IntKind.wrap_i64]; omega
  simp -implicitDefEqProofs only [bV.d, oS.d, J0, J1, J2, J3, J4, J5, J6, J7, ↓reduceIte, reduceCtorEq, w0]
  refine loopI (α := Nat) (fun k => [(5, .one (.d (.int .i64 ((k : Int) - 1)))), (0, .one (.ptr 0 0)), (1, .one (.d (.int .i64 n)))]) (fun _ => [.box [.own 1 v A.length, .d (.sl (nums fr)), .d (.sl (nums to)), .d (.int .i64 nx), .d (.sl (nums tk)), .d (.sl (nums fs))], .arr false 2 v (rws A N ++ J)])
    (fun k => k ≤ A.length ∧ ∀ j, k ≤ j → A[j]? ≠ some n) (fun k => k) A.length
    (keepI [0, 1] _ (WkH.refl _) rfl rfl rfl ⟨⟨_, WkV.refl _, rfl⟩, ⟨_, WkV.refl _, rfl⟩, ⟨_, WkV.refl _, rfl⟩, trivial⟩) ⟨Nat.le_refl _, fun j hj hc => by have := (List.getElem?_eq_some_iff.1 hc).1; omega⟩ ?_
  rintro k ⟨hk, hl⟩
  rcases k with _ | j
  · -- it is free
    have hc : ((0 : Int) ≤ ((0 : Nat) : Int) - 1) = False := by simp only [eq_iff_iff, iff_false]; omega
    have hn : lastIdx A n = none := lastIdx_none.2 fun hm => by
      obtain ⟨j, hj⟩ := List.getElem?_of_mem hm
      exact hl j (Nat.zero_le _) hj
    have hp := vc_put fs n hf
    simp -implicitDefEqProofs only [bV.d, oS.d, J0, J1, J2, J3, J4, J5, J6, J7, ↓reduceIte, reduceCtorEq, hc]
    refine callS [] (hp) rfl rfl rfl ?_
    rintro _ _ ⟨rfl, rfl⟩
    refine ⟨_, _, rfl, ?_⟩
    simp -implicitDefEqProofs only [bV.d, oS.d, J0, J1, J2, J3, J4, J5, J6, J7, ↓reduceIte, reduceCtorEq]
    refine loopI (α := Nat) (fun i => [(6, .one (.d (.int .i64 i))), (0, .one (.ptr 0 0)), (1, .one (.d (.int .i64 n)))]) (fun _ => [.box [.own 1 v A.length, .d (.sl (nums fr)), .d (.sl (nums to)), .d (.int .i64 nx), .d (.sl (nums tk)), .d (.sl (nums (putF fs n)))], .arr false 2 v (rws A N ++ J)])
      (fun i => i ≤ fr.length ∧ i ≤ to.length ∧ subF fr to n = subF (fr.drop i) (to.drop i) n) (fun i => fr.length - i) 0
      (keepI [0, 1] _ (WkH.refl _) rfl rfl rfl ⟨⟨_, WkV.refl _, rfl⟩, ⟨_, WkV.refl _, rfl⟩, ⟨_, WkV.refl _, rfl⟩, trivial⟩) ⟨Nat.zero_le _, Nat.zero_le _, by simp⟩ ?_
    rintro i ⟨hi1, hi2, hs⟩
    have hw := wrapA1 (a := i) rfl (by omega)
    have fin : ∀ q, subF fr to n = q → stampF tk (subF fr to) A n ⟨N, nx, fs⟩ = (q, ⟨N, nx, putF fs n⟩) := fun q hq => by unfold stampF; rw [hn]; simp only [hq]
    rcases Nat.lt_or_ge i fr.length with h1 | h1
    · have e1 : ((i : Int) < (fr.length : Int)) = True := by simp; omega
      rcases Nat.lt_or_ge i to.length with h2 | h2
      · have e2 : ((i : Int) < (to.length : Int)) = True := by simp; omega
        obtain ⟨x, hx⟩ := rowOf h1
        obtain ⟨y, hy⟩ := rowOf h2
        have gx := nums_get hx
        have gy := nums_get hy
        have dx : fr.drop i = x :: fr.drop (i + 1) := by
          rw [List.drop_eq_getElem_cons h1]
          rw [List.getElem?_eq_getElem h1] at hx
          rw [Option.some.inj hx]
        have dy : to.drop i = y :: to.drop (i + 1) := by
          rw [List.drop_eq_getElem_cons h2]
          rw [List.getElem?_eq_getElem h2] at hy
          rw [Option.some.inj hy]
        rw [dx, dy, subF] at hs
        by_cases he : x = n
        · have e3 : (x = n) = True := by simp [he]
          rw [if_pos he] at hs
          simp -implicitDefEqProofs only [bV.d, oS.d, J0, J1, J2, J3, J4, J5, J6, J7, ↓reduceIte, reduceCtorEq, e1, e2, e3, gx, gy, nums_length, Int.natCast_nonneg, Int.toNat_natCast]
          rw [fin y hs]
          apply vend_of [0, 1]; rfl; rfl
          exact ⟨rfl, rfl⟩
        · have e3 : (x = n) = False := by simp [he]
          rw [if_neg he] at hs
          simp -implicitDefEqProofs only [bV.d, oS.d, J0, J1, J2, J3, J4, J5, J6, J7, ↓reduceIte, reduceCtorEq, e1, e2, e3, gx, gy, hw, nums_length, Int.natCast_nonneg, Int.toNat_natCast]
          refine ⟨i + 1, ⟨by omega, by omega, hs⟩, by omega, ?_⟩
          exact (keepI [0, 1] _ (WkH.refl _) rfl rfl rfl ⟨⟨_, WkV.refl _, rfl⟩, ⟨_, WkV.refl _, rfl⟩, ⟨_, WkV.refl _, rfl⟩, trivial⟩)
      · have e2 : ((i : Int) < (to.length : Int)) = False := by simp; omega
        have dy : to.drop i = [] := List.drop_of_length_le h2
        have hs2 : subF fr to n = n := by rw [hs, dy]; cases fr.drop i <;> rfl
        simp -implicitDefEqProofs only [bV.d, oS.d, J0, J1, J2, J3, J4, J5, J6, J7, ↓reduceIte, reduceCtorEq, e1, e2, nums_length]
        rw [fin n hs2]
        apply vend_of [0, 1]; rfl; rfl
        exact ⟨rfl, rfl⟩
    · have e1 : ((i : Int) < (fr.length : Int)) = False := by simp; omega
      have dx : fr.drop i = [] := List.drop_of_length_le h1
      have hs2 : subF fr to n = n := by rw [hs, dx]; rfl
      simp -implicitDefEqProofs only [bV.d, oS.d, J0, J1, J2, J3, J4, J5, J6, J7, ↓reduceIte, reduceCtorEq, e1, nums_length]
      rw [fin n hs2]
      apply vend_of [0, 1]; rfl; rfl
      exact ⟨rfl, rfl⟩
  · have hc : ((0 : Int) ≤ ((j + 1 : Nat) : Int) - 1) = True := by simp only [eq_iff_iff, iff_true]; omega
    have hj : ((j + 1 : Nat) : Int) - 1 = (j : Int) := by omega
    have l1 : (j : Int) < (A.length : Int) := by omega
    obtain ⟨a, ha⟩ := rowOf (l := A) (i := j) (by omega)
    obtain ⟨m, hm⟩ := rowOf (l := N) (i := j) (by omega)
    have hg := rws_get (J := J) ha hm
    by_cases he : a = n
    · subst he
      have hn : lastIdx A a = some j := lastIdx_iff.2 ⟨ha, fun k hk => hl k hk⟩
      have e3 : (a = a) = True := by simp
      by_cases hneg : m < 0
      · have e4 : (m < 0) = True := by simp [hneg]
        have hst : stampF tk (subF fr to) A a ⟨N, nx, fs⟩ = (skipF tk nx, ⟨N.set j (skipF tk nx), skipF tk nx + 1, fs⟩) := by
          unfold stampF
          rw [hn]
          simp only [List.getD_eq_getElem?_getD, hm, Option.getD_some, hneg, if_true]
        rw [hst] at hb ⊢
        simp only at hb ⊢
        simp -implicitDefEqProofs only [bV.d, oS.d, J0, J1, J2, J3, J4, J5, J6, J7, ↓reduceIte, reduceCtorEq, hj, hc, l1, hg, e3, e4, not_true_eq_false, Int.natCast_nonneg, Int.toNat_natCast]
        refine loopI (α := Int) (fun x => [(0, .one (.ptr 0 0)), (1, .one (.d (.int .i64 a))), (5, .one (.d (.int .i64 j)))]) (fun x => [.box [.own 1 v A.length, .d (.sl (nums fr)), .d (.sl (nums to)), .d (.int .i64 x), .d (.sl (nums tk)), .d (.sl (nums fs))], .arr false 2 v (rws A N ++ J)])
          (fun x => nx ≤ x ∧ skipF tk x = skipF tk nx) (fun x => (skipF tk nx - x).toNat) nx
          (keepI [0, 1] _ (WkH.refl _) rfl rfl rfl ⟨⟨_, WkV.refl _, rfl⟩, ⟨_, WkV.refl _, rfl⟩, ⟨_, WkV.refl _, rfl⟩, trivial⟩) ⟨Int.le_refl _, rfl⟩ ?_
        rintro x ⟨hx1, hx2⟩
        have hle := le_skip tk x
        have hh := vc_has tk x htk
        by_cases hx : x ∈ tk
        · rw [show decide (x ∈ tk) = true from by simp [hx]] at hh
          have hs := skipF_step hx
          have hle2 := le_skip tk (x + 1)
          have hw : IntKind.i64.wrap (x + 1) = x + 1 := by rw [IntKind.wrap_i64]; omega
          simp -implicitDefEqProofs only [bV.d, oS.d, J0, J1, J2, J3, J4, J5, J6, J7, ↓reduceIte, reduceCtorEq]
          refine callS [] (hh) rfl rfl rfl ?_
          rintro _ _ ⟨rfl, rfl⟩
          refine ⟨_, _, rfl, ?_⟩
          simp -implicitDefEqProofs only [bV.d, oS.d, J0, J1, J2, J3, J4, J5, J6, J7, ↓reduceIte, reduceCtorEq, hw]
          refine ⟨x + 1, ⟨by omega, by rw [← hs, hx2]⟩, by omega, ?_⟩
          exact (keepI [0, 1] _ (WkH.refl _) rfl rfl rfl ⟨⟨_, WkV.refl _, rfl⟩, ⟨_, WkV.refl _, rfl⟩, ⟨_, WkV.refl _, rfl⟩, trivial⟩)
        · rw [show decide (x ∈ tk) = false from by simp [hx]] at hh
          have hs := skipF_stop hx
          have hx3 : skipF tk nx = x := by rw [← hx2, hs]
          rw [hx3] at hb ⊢
          have hw : IntKind.i64.wrap (x + 1) = x + 1 := by rw [IntKind.wrap_i64]; omega
          have hg2 := rws_get (J := J) (N := N.set j x) ha (show (N.set j x)[j]? = some x from by rw [List.getElem?_set]; simp; omega)
          have hset := rws_set (k := x) (J := J) hN ha
          simp -implicitDefEqProofs only [bV.d, oS.d, J0, J1, J2, J3, J4, J5, J6, J7, ↓reduceIte, reduceCtorEq]
          refine callS [] (hh) rfl rfl rfl ?_
          rintro _ _ ⟨rfl, rfl⟩
          refine ⟨_, _, rfl, ?_⟩
          simp -implicitDefEqProofs only [bV.d, oS.d, J0, J1, J2, J3, J4, J5, J6, J7, ↓reduceIte, reduceCtorEq, l1, hg, hg2, hset, hw, Int.natCast_nonneg, Int.toNat_natCast]
          apply vend_of [0, 1]; rfl; rfl
          exact ⟨rfl, rfl⟩
      · have e4 : (m < 0) = False := by simp [hneg]
        have hst : stampF tk (subF fr to) A a ⟨N, nx, fs⟩ = (m, ⟨N, nx, fs⟩) := by
          unfold stampF
          rw [hn]
          simp only [List.getD_eq_getElem?_getD, hm, Option.getD_some, hneg, if_false]
        rw [hst]
        simp -implicitDefEqProofs only [bV.d, oS.d, J0, J1, J2, J3, J4, J5, J6, J7, ↓reduceIte, reduceCtorEq, hj, hc, l1, hg, e3, e4, not_true_eq_false, Int.natCast_nonneg, Int.toNat_natCast]
        apply vend_of [0, 1]; rfl; rfl
        exact ⟨rfl, rfl⟩
    · have e3 : (a = n) = False := by simp [he]
      have hw : IntKind.i64.wrap ((j : Int) - 1) = (j : Int) - 1 := by rw [IntKind.wrap_i64]; omega
      simp -implicitDefEqProofs only [bV.d, oS.d, J0, J1, J2, J3, J4, J5, J6, J7, ↓reduceIte, reduceCtorEq, hj, hc, l1, hg, e3, hw, not_false_eq_true, Int.natCast_nonneg, Int.toNat_natCast]
      refine ⟨j, ⟨by omega, fun q hq hc2 => ?_⟩, by omega, ?_⟩
      · rcases Nat.lt_or_ge j q with h | h
        · exact hl q h hc2
        · have : q = j := by omega
          subst this
          rw [ha] at hc2
          exact he (Option.some.inj hc2)
      · exact (keepI [0, 1] _ (WkH.refl _) rfl rfl rfl ⟨⟨_, WkV.refl _, rfl⟩, ⟨_, WkV.refl _, rfl⟩, ⟨_, WkV.refl _, rfl⟩, trivial⟩)

end Go.Vt.Tryz
set_option maxRecDepth 100000
set_option linter.unusedSimpArgs false
namespace Go.Vt.Tryz
open Go.Vt renaming vslice → J0
open Nat renaming reduceBEq → J1, reduceEqDiff → J2, reduceLT → J3, reduceLeDiff → J4, reduceAdd → J5, reduceMul → J6, reduceSub → J7
open Go.Proofs Go.Vt.Al


def Bh (w w' : WS) (c : Nat) : Prop := w'.nums.length = w.nums.length ∧ w.next ≤ w'.next ∧ w'.free.length ≤ w.free.length + c

theorem Bh.refl (w : WS) : Bh w w 0 := ⟨rfl, Int.le_refl _, Nat.le_refl _⟩
theorem Bh.trans {a b c : WS} {m n : Nat} (h1 : Bh a b m) (h2 : Bh b c n) : Bh a c (m + n) := ⟨h2.1.trans h1.1, Int.le_trans h1.2.1 h2.2.1, by have := h1.2.2; have := h2.2.2; omega⟩
theorem Bh.mono {a b : WS} {m n : Nat} (h : Bh a b m) (hm : m ≤ n) : Bh a b n := ⟨h.1, h.2.1, by have := h.2.2; omega⟩

section
variable {tk : List Int} {sb : Int → Int} {A : List Int}

theorem bh_stamp (n : Int) (w : WS) : Bh w (stampF tk sb A n w).2 1 := by
  refine ⟨?_, ?_, stamp_free⟩
  · unfold stampF
    cases lastIdx A n with
    | some i => simp only; split <;> simp
    | none => rfl
  · unfold stampF
    cases lastIdx A n with
    | some i =>
      simp only
      split
      · have := le_skip tk w.next
        simp only
        omega
      · exact Int.le_refl _
    | none => exact Int.le_refl _

theorem go_map : ∀ (l : List Ty) (w : WS), tyF.go tk sb A l w = mapW (tyF tk sb A) l w
  | [], _ => rfl
  | t :: r, w => by simp only [tyF.go, mapW, go_map r]

theorem mapW_app {α β : Type} {f : α → WS → β × WS} : ∀ (l r : List α) (w : WS), mapW f (l ++ r) w = ((mapW f l w).1 ++ (mapW f r (mapW f l w).2).1, (mapW f r (mapW f l w).2).2)
  | [], _, _ => rfl
  | a :: l, r, w => by simp only [List.cons_append, mapW, mapW_app l r]
theorem mapW_take {α β : Type} {f : α → WS → β × WS} {l : List α} {i : Nat} {a : α} (h : l[i]? = some a) (w : WS) : mapW f (l.take (i + 1)) w = ((mapW f (l.take i) w).1 ++ [(f a (mapW f (l.take i) w).2).1], (f a (mapW f (l.take i) w).2).2) := by
  rw [List.take_add_one, h]
  simp only [Option.toList_some, mapW_app, mapW]
theorem mapW_length {α β : Type} {f : α → WS → β × WS} : ∀ (l : List α) (w : WS), (mapW f l w).1.length = l.length
  | [], _ => rfl
  | a :: l, w => by simp only [mapW, List.length_cons, mapW_length l]
theorem bh_map {α β : Type} {f : α → WS → β × WS} {c : α → Nat} : ∀ (l : List α), (∀ a ∈ l, ∀ w, Bh w (f a w).2 (c a)) → ∀ w, Bh w (mapW f l w).2 (sumN c l)
  | [], _, w => Bh.refl w
  | a :: l, h, w => (h a (by simp) w).trans (bh_map l (fun b hb => h b (by simp [hb])) _)
theorem bh_part {α β : Type} {f : α → WS → β × WS} {c : α → Nat} {l : List α} (h : ∀ a ∈ l, ∀ w, Bh w (f a w).2 (c a)) (i : Nat) (w : WS) : Bh w (mapW f (l.take i) w).2 (sumN c l) ∧ (mapW f (l.take i) w).2.next ≤ (mapW f l w).2.next := by
  have h1 := bh_map (f := f) (c := c) (l.take i) (fun a ha => h a (List.mem_of_mem_take ha)) w
  refine ⟨h1.mono (sumN_take_le l i), ?_⟩
  conv => rhs; rw [← List.take_append_drop i l, mapW_app]
  exact (bh_map (f := f) (c := c) (l.drop i) (fun a ha => h a (List.mem_of_mem_drop ha)) _).2.1

theorem bh_ty : ∀ (t : Ty) (w : WS), Bh w (tyF tk sb A t w).2 (tyn t) := by
  intro t
  induction t using Ty.ind with
  | h k n l ih =>
  intro w
  simp only [tyF, tyn, go_map, tyn_go]
  refine Bh.trans (b := if k = kindStamp then (stampF tk sb A n w).2 else w) ?_ (bh_map l ih _)
  split
  · exact bh_stamp n w
  · exact (Bh.refl w).mono (Nat.zero_le _)
theorem bh_tys (l : List Ty) (w : WS) : Bh w (mapW (tyF tk sb A) l w).2 (sumN tyn l) := bh_map l (fun t _ w => bh_ty t w) w
theorem bh_ct (c : Ct) (w : WS) : Bh w (ctF tk sb A c w).2 (ctn c) := by
  simp only [ctF, go_map, ctn_e]
  exact (bh_tys c.args w).mono (by omega)
end

set_option maxHeartbeats 2000000 in
theorem vc_wtyp (fr to tk : List Int) (v : Nat) (A : List Int) (J : List (List D)) (hA : A.length < 1000000000) (hfr : fr.length < 1000000000) (hto : to.length < 1000000000) (htk : tk.length < 1000000000) :
    ∀ (N : Nat) (t : Ty), tyn t ≤ N → N < 100000000 → ∀ (w : WS), w.nums.length = A.length → w.free.length + tyn t < 1000000000 → 0 ≤ w.next → (tyF tk (subF fr to) A t w).2.next < 1000000000000000 →
      VC Tryz.prog 63 [.one (.ptr 0 0), tyV t] [wb fr to tk v A w, wa v A w J] fun r h' => r = tyV (tyF tk (subF fr to) A t w).1 ∧ h' = [wb fr to tk v A (tyF tk (subF fr to) A t w).2, wa v A (tyF tk (subF fr to) A t w).2 J]
  | 0, .mk k n l, h, _, _, _, _, _, _ => by simp only [tyn] at h; omega
  | N + 1, .mk k n l, h, hN, w, hw1, hw2, hw3, hw4 => by
    have ih := vc_wtyp fr to tk v A J hA hfr hto htk N
    simp only [tyn, tyn_go] at h hw2
    simp only [tyF, go_map] at hw4 ⊢
    have hlen := sumN_length (f := tyn) (fun t => by cases t; simp [tyn]) l
    have hst := vc_wstamp fr to tk v A J n w hw1 hA hfr hto htk (by omega) hw3
    have hb1 := bh_stamp (tk := tk) (sb := subF fr to) (A := A) n w
    have hL := fun w => bh_tys (tk := tk) (sb := subF fr to) (A := A) l w
    have rest : ∀ (w1 : WS) (n1 : Int), w1.nums.length = A.length → w1.free.length + sumN tyn l < 1000000000 → 0 ≤ w1.next → (mapW (tyF tk (subF fr to) A) l w1).2.next < 1000000000000000 → ∀ i u, l[i]? = some u →
        VC Tryz.prog 63 [.one (.ptr 0 0), tyV u] [wb fr to tk v A (mapW (tyF tk (subF fr to) A) (l.take i) w1).2, wa v A (mapW (tyF tk (subF fr to) A) (l.take i) w1).2 J] fun r h' => r = tyV (tyF tk (subF fr to) A u (mapW (tyF tk (subF fr to) A) (l.take i) w1).2).1 ∧ h' = [wb fr to tk v A (mapW (tyF tk (subF fr to) A) (l.take (i + 1)) w1).2, wa v A (mapW (tyF tk (subF fr to) A) (l.take (i + 1)) w1).2 J] := by
      intro w1 n1 h1 h2 h3 h4 i u hu
      have hp := bh_part (f := tyF tk (subF fr to) A) (c := tyn) (l := l) (fun t _ w => bh_ty t w) i w1
      have hp2 := bh_part (f := tyF tk (subF fr to) A) (c := tyn) (l := l) (fun t _ w => bh_ty t w) (i + 1) w1
      have hmu := sumN_mem (f := tyn) (List.mem_of_getElem? hu)
      have hs := sumN_take (f := tyn) hu
      have hle := sumN_take_le (f := tyn) l (i + 1)
      have hbt := bh_map (f := tyF tk (subF fr to) A) (c := tyn) (l.take i) (fun t _ w => bh_ty t w) w1
      rw [mapW_take hu] at hp2 ⊢
      exact ih u (by omega) (by omega) _ (hbt.1.trans h1) (by have := hbt.2.2; omega) (by have := hbt.2.1; omega) (by have := hp2.2; simp only at this; omega)
    simp only [wb, wa] at hst rest ⊢
    simp only [tyV, encTy, List.map_cons, List.map_nil]
    refine VC_of_fn mixed fn63 (by simp) ?_
    show vwp Tryz.prog 2 vc63 _ [(0, .one (.ptr 0 0)), (1, .agg [.d (.int .i64 k), .d (.int .i64 n), .d (.sl (encTy.encs l))])] [.box [.own 1 v A.length, .d (.sl (nums fr)), .d (.sl (nums to)), .d (.int .i64 w.next), .d (.sl (nums tk)), .d (.sl (nums w.free))], .arr false 2 v (rws A w.nums ++ J)]
    unfold vc63
    rw [vwpI_eq]
    by_cases hk : k = 6
    · have hk1 : (k = 6) = True := by simp [hk]
      have hk2 : k = kindStamp := hk
      simp only [hk2, if_true] at hw4 ⊢
      have hst2 := hst (by have := (hL (stampF tk (subF fr to) A n w).2).2.1; omega)
      have hR := rest (stampF tk (subF fr to) A n w).2 0 (hb1.1.trans hw1) (by have := hb1.2.2; omega) (by have := hb1.2.1; omega) hw4
      rw [← hk2]
      generalize stampF tk (subF fr to) A n w = S at hst2 hR hw4 ⊢
      obtain ⟨n1, w1⟩ := S
      simp only at hst2 hR hw4 ⊢
      simp -implicitDefEqProofs only [bV.d, oS.d, J0, J1, J2, J3, J4, J5, J6, J7, ↓reduceIte, reduceCtorEq, hk1]
      refine callS [0, 1] (hst2) rfl rfl rfl ?_
      rintro _ _ ⟨rfl, rfl⟩
      refine ⟨_, _, rfl, ?_⟩
      simp -implicitDefEqProofs only [bV.d, oS.d, J0, J1, J2, J3, J4, J5, J6, J7, ↓reduceIte, reduceCtorEq]
      have hwf : ∀ i, i ≤ l.length → (encTy.encs (mapW (tyF tk (subF fr to) A) (l.take i) w1).1).length = i := fun i hi => by rw [encsTy_length, mapW_length, List.length_take]; omega
      refine loopI (α := Nat) (fun i => [(6, .one (.d (.int .i64 i))), (0, .one (.ptr 0 0)), (3, .one (.ptr 2 0)), (5, .one (.ptr 4 0)), (4, .one (.ptr 3 0))])
        (fun i => [.box [.own 1 v A.length, .d (.sl (nums fr)), .d (.sl (nums to)), .d (.int .i64 (mapW (tyF tk (subF fr to) A) (l.take i) w1).2.next), .d (.sl (nums tk)), .d (.sl (nums (mapW (tyF tk (subF fr to) A) (l.take i) w1).2.free))], .arr false 2 v (rws A (mapW (tyF tk (subF fr to) A) (l.take i) w1).2.nums ++ J), .box [.d (.int .i64 k), .d (.int .i64 n), .d (.sl (encTy.encs l))], .box [.d (.int .i64 0), .d (.int .i64 0), .nils], .box [.d (.int .i64 k), .d (.int .i64 n1), .own 5 i i], .arr false 3 i (encTy.encs (mapW (tyF tk (subF fr to) A) (l.take i) w1).1)])
        (fun i => i ≤ l.length) (fun i => l.length - i) 0
        (keepG [] [(4, 2, 3)] [0, 1, 2, 3, 4, 5] _ rfl rfl (WkH.refl _) rfl rfl rfl ⟨⟨_, WkV.refl _, rfl⟩, ⟨_, WkV.refl _, rfl⟩, ⟨_, WkV.refl _, rfl⟩, ⟨_, WkV.refl _, rfl⟩, ⟨_, WkV.refl _, rfl⟩, trivial⟩) (Nat.zero_le _) ?_
      intro i hi
      have hw := wrapA1 (a := i) rfl (by omega)
      have hl5 := hwf i hi
      have htk2 : (encTy.encs (mapW (tyF tk (subF fr to) A) (l.take i) w1).1).take i = encTy.encs (mapW (tyF tk (subF fr to) A) (l.take i) w1).1 := List.take_of_length_le (by omega)
      rcases Nat.lt_or_ge i l.length with h5 | h5
      · have hc : ((i : Int) < (l.length : Int)) = True := by simp; omega
        obtain ⟨u, hu⟩ := rowOf h5
        have hgu : (encTy.encs l)[i]? = some (encTy u) := by rw [encsTy, List.getElem?_map, hu]; rfl
        have iu := hR i u hu
        have hmt := mapW_take (f := tyF tk (subF fr to) A) hu w1
        have e1 : (tyF tk (subF fr to) A u (mapW (tyF tk (subF fr to) A) (l.take i) w1).2).2 = (mapW (tyF tk (subF fr to) A) (l.take (i + 1)) w1).2 := by rw [hmt]
        have e2 : encTy.encs (mapW (tyF tk (subF fr to) A) (l.take i) w1).1 ++ [encTy (tyF tk (subF fr to) A u (mapW (tyF tk (subF fr to) A) (l.take i) w1).2).1] = encTy.encs (mapW (tyF tk (subF fr to) A) (l.take (i + 1)) w1).1 := by rw [hmt]; simp [encsTy]
        clear hmt
        generalize tyF tk (subF fr to) A u (mapW (tyF tk (subF fr to) A) (l.take i) w1).2 = R at iu e1 e2
        obtain ⟨⟨rk, rn, rl⟩, w2⟩ := R
        obtain ⟨uk, un, ul⟩ := u
        have hcap : (i + 1) * 40 ≤ maxBytes ∧ i + 1 ≤ maxBytes := by simp [maxBytes]; omega
        simp only [tyV, encTy, List.map_cons, List.map_nil] at hgu iu e1 e2
        simp -implicitDefEqProofs only [bV.d, oS.d, J0, J1, J2, J3, J4, J5, J6, J7, ↓reduceIte, reduceCtorEq, hc, hgu, encsTy_length, Int.natCast_nonneg, Int.toNat_natCast]
        refine callS [0, 1] (iu) rfl rfl rfl ?_
        rintro _ _ ⟨rfl, rfl⟩
        refine ⟨_, _, rfl, ?_⟩
        simp -implicitDefEqProofs only [bV.d, oS.d, J0, J1, J2, J3, J4, J5, J6, J7, ↓reduceIte, reduceCtorEq, hcap, htk2, hw]
        rw [e2]
        refine ⟨i + 1, by omega, by omega, ?_⟩
        exact (keepI [0, 1, 2, 3, 4, 5] _ (WkH.refl _) rfl rfl rfl ⟨⟨_, WkV.refl _, rfl⟩, ⟨_, WkV.refl _, rfl⟩, ⟨_, WkV.refl _, rfl⟩, ⟨_, WkV.refl _, rfl⟩, ⟨_, WkV.refl _, rfl⟩, trivial⟩)
      · have hc : ((i : Int) < (l.length : Int)) = False := by simp; omega
        have hie : i = l.length := by omega
        subst hie
        simp -implicitDefEqProofs only [bV.d, oS.d, J0, J1, J2, J3, J4, J5, J6, J7, ↓reduceIte, reduceCtorEq, hc, encsTy_length]
        apply vend_of [0, 1]
        · simp only [vres, lk_cons, Nat.reduceBEq, cond_true, cond_false, ti100, ti102, ti3, vload, List.getElem?_cons_succ, List.getElem?_cons_zero, mkV, List.drop_zero, List.length_cons, List.length_nil, Nat.reduceAdd, Nat.le_refl, if_true, List.take_succ_cons, List.take_zero, List.map_cons, List.map_nil, Nat.reduceLeDiff]; rfl
        · first | rfl | (simp [fin, nodup, handO, lendR, lendV, lendLs, lendL, idx, vone, renL, lendVs, renO, renL.renLs]; first | exact ⟨rfl, rfl⟩ | exact ⟨rfl, rfl, rfl⟩)
        rw [List.take_length] at htk2
        rw [htk2]
        exact ⟨rfl, rfl⟩
    · have hk1 : (k = 6) = False := by simp [hk]
      have hk2 : ¬ k = kindStamp := hk
      simp only [hk2, if_false] at hw4 ⊢
      have hR := rest w 0 hw1 (by omega) hw3 hw4
      generalize w = w1 at *
      simp -implicitDefEqProofs only [bV.d, oS.d, J0, J1, J2, J3, J4, J5, J6, J7, ↓reduceIte, reduceCtorEq, hk1]
      have hwf : ∀ i, i ≤ l.length → (encTy.encs (mapW (tyF tk (subF fr to) A) (l.take i) w1).1).length = i := fun i hi => by rw [encsTy_length, mapW_length, List.length_take]; omega
      refine loopI (α := Nat) (fun i => [(6, .one (.d (.int .i64 i))), (0, .one (.ptr 0 0)), (3, .one (.ptr 2 0)), (5, .one (.ptr 4 0)), (4, .one (.ptr 3 0))])
        (fun i => [.box [.own 1 v A.length, .d (.sl (nums fr)), .d (.sl (nums to)), .d (.int .i64 (mapW (tyF tk (subF fr to) A) (l.take i) w1).2.next), .d (.sl (nums tk)), .d (.sl (nums (mapW (tyF tk (subF fr to) A) (l.take i) w1).2.free))], .arr false 2 v (rws A (mapW (tyF tk (subF fr to) A) (l.take i) w1).2.nums ++ J), .box [.d (.int .i64 k), .d (.int .i64 n), .d (.sl (encTy.encs l))], .box [.d (.int .i64 0), .d (.int .i64 0), .nils], .box [.d (.int .i64 k), .d (.int .i64 n), .own 5 i i], .arr false 3 i (encTy.encs (mapW (tyF tk (subF fr to) A) (l.take i) w1).1)])
        (fun i => i ≤ l.length) (fun i => l.length - i) 0
        (keepG [] [(4, 2, 3)] [0, 1, 2, 3, 4, 5] _ rfl rfl (WkH.refl _) rfl rfl rfl ⟨⟨_, WkV.refl _, rfl⟩, ⟨_, WkV.refl _, rfl⟩, ⟨_, WkV.refl _, rfl⟩, ⟨_, WkV.refl _, rfl⟩, ⟨_, WkV.refl _, rfl⟩, trivial⟩) (Nat.zero_le _) ?_
      intro i hi
      have hw := wrapA1 (a := i) rfl (by omega)
      have hl5 := hwf i hi
      have htk2 : (encTy.encs (mapW (tyF tk (subF fr to) A) (l.take i) w1).1).take i = encTy.encs (mapW (tyF tk (subF fr to) A) (l.take i) w1).1 := List.take_of_length_le (by omega)
      rcases Nat.lt_or_ge i l.length with h5 | h5
      · have hc : ((i : Int) < (l.length : Int)) = True := by simp; omega
        obtain ⟨u, hu⟩ := rowOf h5
        have hgu : (encTy.encs l)[i]? = some (encTy u) := by rw [encsTy, List.getElem?_map, hu]; rfl
        have iu := hR i u hu
        have hmt := mapW_take (f := tyF tk (subF fr to) A) hu w1
        have e1 : (tyF tk (subF fr to) A u (mapW (tyF tk (subF fr to) A) (l.take i) w1).2).2 = (mapW (tyF tk (subF fr to) A) (l.take (i + 1)) w1).2 := by rw [hmt]
        have e2 : encTy.encs (mapW (tyF tk (subF fr to) A) (l.take i) w1).1 ++ [encTy (tyF tk (subF fr to) A u (mapW (tyF tk (subF fr to) A) (l.take i) w1).2).1] = encTy.encs (mapW (tyF tk (subF fr to) A) (l.take (i + 1)) w1).1 := by rw [hmt]; simp [encsTy]
        clear hmt
        generalize tyF tk (subF fr to) A u (mapW (tyF tk (subF fr to) A) (l.take i) w1).2 = R at iu e1 e2
        obtain ⟨⟨rk, rn, rl⟩, w2⟩ := R
        obtain ⟨uk, un, ul⟩ := u
        have hcap : (i + 1) * 40 ≤ maxBytes ∧ i + 1 ≤ maxBytes := by simp [maxBytes]; omega
        simp only [tyV, encTy, List.map_cons, List.map_nil] at hgu iu e1 e2
        simp -implicitDefEqProofs only [bV.d, oS.d, J0, J1, J2, J3, J4, J5, J6, J7, ↓reduceIte, reduceCtorEq, hc, hgu, encsTy_length, Int.natCast_nonneg, Int.toNat_natCast]
        refine callS [0, 1] (iu) rfl rfl rfl ?_
        rintro _ _ ⟨rfl, rfl⟩
        refine ⟨_, _, rfl, ?_⟩
        simp -implicitDefEqProofs only [bV.d, oS.d, J0, J1, J2, J3, J4, J5, J6, J7, ↓reduceIte, reduceCtorEq, hcap, htk2, hw]
        rw [e2]
        refine ⟨i + 1, by omega, by omega, ?_⟩
        exact (keepI [0, 1, 2, 3, 4, 5] _ (WkH.refl _) rfl rfl rfl ⟨⟨_, WkV.refl _, rfl⟩, ⟨_, WkV.refl _, rfl⟩, ⟨_, WkV.refl _, rfl⟩, ⟨_, WkV.refl _, rfl⟩, ⟨_, WkV.refl _, rfl⟩, trivial⟩)
      · have hc : ((i : Int) < (l.length : Int)) = False := by simp; omega
        have hie : i = l.length := by omega
        subst hie
        simp -implicitDefEqProofs only [bV.d, oS.d, J0, J1, J2, J3, J4, J5, J6, J7, ↓reduceIte, reduceCtorEq, hc, encsTy_length]
        apply vend_of [0, 1]
        · simp only [vres, lk_cons, Nat.reduceBEq, cond_true, cond_false, ti100, ti102, ti3, vload, List.getElem?_cons_succ, List.getElem?_cons_zero, mkV, List.drop_zero, List.length_cons, List.length_nil, Nat.reduceAdd, Nat.le_refl, if_true, List.take_succ_cons, List.take_zero, List.map_cons, List.map_nil, Nat.reduceLeDiff]; rfl
        · first | rfl | (simp [fin, nodup, handO, lendR, lendV, lendLs, lendL, idx, vone, renL, lendVs, renO, renL.renLs]; first | exact ⟨rfl, rfl⟩ | exact ⟨rfl, rfl, rfl⟩)
        rw [List.take_length] at htk2
        rw [htk2]
        simp only [if_neg hk2]
        exact ⟨trivial, trivial⟩

end Go.Vt.Tryz
set_option maxRecDepth 100000
set_option linter.unusedSimpArgs false
namespace Go.Vt.Tryz
open Go.Vt renaming vslice → J0
open Nat renaming reduceBEq → J1, reduceEqDiff → J2, reduceLT → J3, reduceLeDiff → J4, reduceAdd → J5, reduceMul → J6, reduceSub → J7
open Go.Proofs Go.Vt.Al

set_option maxHeartbeats 2000000 in
theorem vc_wctors (fr to tk : List Int) (v : Nat) (A : List Int) (J : List (List D)) (hA : A.length < 1000000000) (hfr : fr.length < 1000000000) (hto : to.length < 1000000000) (htk : tk.length < 1000000000)
    (cs : List Ct) (hs : sumN ctn cs < 100000000) (w : WS) (hw1 : w.nums.length = A.length) (hw2 : w.free.length + sumN ctn cs < 1000000000) (hw3 : 0 ≤ w.next) (hw4 : (mapW (ctF tk (subF fr to) A) cs w).2.next < 1000000000000000) :
    VC Tryz.prog 64 [.one (.ptr 0 0), .one (.d (.sl (cs.map encCt)))] [wb fr to tk v A w, wa v A w J] fun r h' => r = .one (.d (.sl ((mapW (ctF tk (subF fr to) A) cs w).1.map encCt))) ∧ h' = [wb fr to tk v A (mapW (ctF tk (subF fr to) A) cs w).2, wa v A (mapW (ctF tk (subF fr to) A) cs w).2 J] := by
  have hcl := sumN_length (f := ctn) (fun c => by simp [ctn]) cs
  simp only [wb, wa]
  refine VC_of_fn mixed fn64 (by simp) ?_
  show vwp Tryz.prog 2 vc64 _ [(0, .one (.ptr 0 0)), (1, .one (.d (.sl (cs.map encCt))))] [.box [.own 1 v A.length, .d (.sl (nums fr)), .d (.sl (nums to)), .d (.int .i64 w.next), .d (.sl (nums tk)), .d (.sl (nums w.free))], .arr false 2 v (rws A w.nums ++ J)]
  unfold vc64
  rw [vwpI_eq]
  simp -implicitDefEqProofs only [bV.d, oS.d, J0, J1, J2, J3, J4, J5, J6, J7, ↓reduceIte, reduceCtorEq]
  refine loopI (α := Nat) (fun i => [(6, .one (.d (.int .i64 i))), (5, .one (.own 2 i i)), (0, .one (.ptr 0 0)), (1, .one (.d (.sl (cs.map encCt))))])
    (fun i => [.box [.own 1 v A.length, .d (.sl (nums fr)), .d (.sl (nums to)), .d (.int .i64 (mapW (ctF tk (subF fr to) A) (cs.take i) w).2.next), .d (.sl (nums tk)), .d (.sl (nums (mapW (ctF tk (subF fr to) A) (cs.take i) w).2.free))], .arr false 2 v (rws A (mapW (ctF tk (subF fr to) A) (cs.take i) w).2.nums ++ J), .arr false 2 i ((mapW (ctF tk (subF fr to) A) (cs.take i) w).1.map encCt)])
    (fun i => i ≤ cs.length) (fun i => cs.length - i) 0
    (keepG [(5, 2)] [] [0, 1, 2] _ rfl rfl (WkH.refl _) rfl rfl rfl ⟨⟨_, WkV.refl _, rfl⟩, ⟨_, WkV.refl _, rfl⟩, ⟨_, WkV.refl _, rfl⟩, ⟨_, WkV.refl _, rfl⟩, trivial⟩) (Nat.zero_le _) ?_
  intro i hi
  have hw := wrapA1 (a := i) rfl (by omega)
  have hl2 : ((mapW (ctF tk (subF fr to) A) (cs.take i) w).1.map encCt).length = i := by rw [List.length_map, mapW_length, List.length_take]; omega
  have htk2 : ((mapW (ctF tk (subF fr to) A) (cs.take i) w).1.map encCt).take i = (mapW (ctF tk (subF fr to) A) (cs.take i) w).1.map encCt := List.take_of_length_le (by omega)
  rcases Nat.lt_or_ge i cs.length with h5 | h5
  · have hc : ((i : Int) < (cs.length : Int)) = True := by simp; omega
    obtain ⟨c, hcc⟩ := rowOf h5
    have hgc : (cs.map encCt)[i]? = some (encCt c) := by rw [List.getElem?_map, hcc]; rfl
    have hp := bh_part (f := ctF tk (subF fr to) A) (c := ctn) (l := cs) (fun c _ w => bh_ct c w) i w
    have hp2 := bh_part (f := ctF tk (subF fr to) A) (c := ctn) (l := cs) (fun c _ w => bh_ct c w) (i + 1) w
    have hbt := bh_map (f := ctF tk (subF fr to) A) (c := ctn) (cs.take i) (fun c _ w => bh_ct c w) w
    have hmc := sumN_mem (f := ctn) (List.mem_of_getElem? hcc)
    have hsc := sumN_take (f := ctn) hcc
    have hle := sumN_take_le (f := ctn) cs (i + 1)
    have hmt := mapW_take (f := ctF tk (subF fr to) A) hcc w
    have hce := ctn_e c
    obtain ⟨cn, ca⟩ := c
    simp only [ctF, go_map] at hmt
    simp only [encCt] at hgc
    simp only at hce
    have hla := sumN_length (f := tyn) (fun t => by cases t; simp [tyn]) ca
    generalize hW : (mapW (ctF tk (subF fr to) A) (cs.take i) w).2 = w1 at *
    rw [hmt] at hp2
    simp only at hp2
    have iu : ∀ k u, ca[k]? = some u → VC Tryz.prog 63 [.one (.ptr 0 0), tyV u] [wb fr to tk v A (mapW (tyF tk (subF fr to) A) (ca.take k) w1).2, wa v A (mapW (tyF tk (subF fr to) A) (ca.take k) w1).2 J] fun r h' => r = tyV (tyF tk (subF fr to) A u (mapW (tyF tk (subF fr to) A) (ca.take k) w1).2).1 ∧ h' = [wb fr to tk v A (mapW (tyF tk (subF fr to) A) (ca.take (k + 1)) w1).2, wa v A (mapW (tyF tk (subF fr to) A) (ca.take (k + 1)) w1).2 J] := by
      intro k u hu
      have q1 := bh_part (f := tyF tk (subF fr to) A) (c := tyn) (l := ca) (fun t _ w => bh_ty t w) (k + 1) w1
      have q2 := bh_map (f := tyF tk (subF fr to) A) (c := tyn) (ca.take k) (fun t _ w => bh_ty t w) w1
      have q3 := sumN_take (f := tyn) hu
      have q4 := sumN_take_le (f := tyn) ca (k + 1)
      rw [mapW_take hu] at q1 ⊢
      simp only at q1
      exact vc_wtyp fr to tk v A J hA hfr hto htk 99999999 u (by omega) (by omega) _ (q2.1.trans (hbt.1.trans hw1)) (by have := q2.2.2; have := hbt.2.2; omega) (by have := q2.2.1; have := hbt.2.1; omega) (by have := q1.2; have := hp2.2; omega)
    simp only [wb, wa] at iu
    simp -implicitDefEqProofs only [bV.d, oS.d, J0, J1, J2, J3, J4, J5, J6, J7, ↓reduceIte, reduceCtorEq, hc, hgc, List.length_map, Int.natCast_nonneg, Int.toNat_natCast]
    refine loopI (α := Nat) (fun k => [(8, .one (.d (.int .i64 k))), (6, .one (.d (.int .i64 i))), (5, .one (.own 2 i i)), (7, .one (.ptr 3 0)), (0, .one (.ptr 0 0)), (1, .one (.d (.sl (cs.map encCt))))])
      (fun k => [.box [.own 1 v A.length, .d (.sl (nums fr)), .d (.sl (nums to)), .d (.int .i64 (mapW (tyF tk (subF fr to) A) (ca.take k) w1).2.next), .d (.sl (nums tk)), .d (.sl (nums (mapW (tyF tk (subF fr to) A) (ca.take k) w1).2.free))], .arr false 2 v (rws A (mapW (tyF tk (subF fr to) A) (ca.take k) w1).2.nums ++ J), .arr false 2 i ((mapW (ctF tk (subF fr to) A) (cs.take i) w).1.map encCt), .box [.d (.str cn), .own 4 k k], .arr false 3 k (encTy.encs (mapW (tyF tk (subF fr to) A) (ca.take k) w1).1)])
      (fun k => k ≤ ca.length) (fun k => ca.length - k) 0
      (keepG [] [(3, 1, 3)] [0, 1, 2, 3, 4] _ rfl rfl (WkH.refl _) rfl rfl rfl ⟨⟨_, WkV.refl _, rfl⟩, ⟨_, WkV.refl _, rfl⟩, ⟨_, WkV.refl _, rfl⟩, ⟨_, WkV.refl _, rfl⟩, ⟨_, WkV.refl _, rfl⟩, ⟨_, WkV.refl _, rfl⟩, trivial⟩) (Nat.zero_le _) ?_
    intro k hk
    have hwk := wrapA1 (a := k) rfl (by omega)
    have hl4 : (encTy.encs (mapW (tyF tk (subF fr to) A) (ca.take k) w1).1).length = k := by rw [encsTy_length, mapW_length, List.length_take]; omega
    have htk4 : (encTy.encs (mapW (tyF tk (subF fr to) A) (ca.take k) w1).1).take k = encTy.encs (mapW (tyF tk (subF fr to) A) (ca.take k) w1).1 := List.take_of_length_le (by omega)
    rcases Nat.lt_or_ge k ca.length with h6 | h6
    · have hck : ((k : Int) < (ca.length : Int)) = True := by simp; omega
      obtain ⟨u, hu⟩ := rowOf h6
      have hgu : (encTy.encs ca)[k]? = some (encTy u) := by rw [encsTy, List.getElem?_map, hu]; rfl
      have iu := iu k u hu
      have hmu := mapW_take (f := tyF tk (subF fr to) A) hu w1
      have e2 : encTy.encs (mapW (tyF tk (subF fr to) A) (ca.take k) w1).1 ++ [encTy (tyF tk (subF fr to) A u (mapW (tyF tk (subF fr to) A) (ca.take k) w1).2).1] = encTy.encs (mapW (tyF tk (subF fr to) A) (ca.take (k + 1)) w1).1 := by rw [hmu]; simp [encsTy]
      clear hmu
      generalize tyF tk (subF fr to) A u (mapW (tyF tk (subF fr to) A) (ca.take k) w1).2 = R at iu e2
      obtain ⟨⟨rk, rn, rl⟩, w2⟩ := R
      obtain ⟨uk, un, ul⟩ := u
      have hcap : (k + 1) * 40 ≤ maxBytes ∧ k + 1 ≤ maxBytes := by simp [maxBytes]; omega
      simp only [tyV, encTy, List.map_cons, List.map_nil] at hgu iu e2
      simp -implicitDefEqProofs only [bV.d, oS.d, J0, J1, J2, J3, J4, J5, J6, J7, ↓reduceIte, reduceCtorEq, hc, hgc, hck, hgu, encsTy_length, Int.natCast_nonneg, Int.toNat_natCast]
      refine callS [0, 1] (iu) rfl rfl rfl ?_
      rintro _ _ ⟨rfl, rfl⟩
      refine ⟨_, _, rfl, ?_⟩
      simp -implicitDefEqProofs only [bV.d, oS.d, J0, J1, J2, J3, J4, J5, J6, J7, ↓reduceIte, reduceCtorEq, hcap, htk4, hwk]
      rw [e2]
      refine ⟨k + 1, by omega, by omega, ?_⟩
      exact (keepI [0, 1, 2, 3, 4] _ (WkH.refl _) rfl rfl rfl ⟨⟨_, WkV.refl _, rfl⟩, ⟨_, WkV.refl _, rfl⟩, ⟨_, WkV.refl _, rfl⟩, ⟨_, WkV.refl _, rfl⟩, ⟨_, WkV.refl _, rfl⟩, ⟨_, WkV.refl _, rfl⟩, trivial⟩)
    · have hck : ((k : Int) < (ca.length : Int)) = False := by simp; omega
      have hke : k = ca.length := by omega
      subst hke
      rw [List.take_length] at htk4
      have hcap : (i + 1) * 40 ≤ maxBytes ∧ i + 1 ≤ maxBytes := by simp [maxBytes]; omega
      have e2 : (mapW (ctF tk (subF fr to) A) (cs.take i) w).1.map encCt ++ [[.str cn, .sl (encTy.encs (mapW (tyF tk (subF fr to) A) ca w1).1)]] = (mapW (ctF tk (subF fr to) A) (cs.take (i + 1)) w).1.map encCt := by rw [hmt]; simp [encCt]
      have e3 : (mapW (tyF tk (subF fr to) A) ca w1).2 = (mapW (ctF tk (subF fr to) A) (cs.take (i + 1)) w).2 := by rw [hmt]
      simp -implicitDefEqProofs only [bV.d, oS.d, J0, J1, J2, J3, J4, J5, J6, J7, ↓reduceIte, reduceCtorEq, hc, hgc, hck, hcap, htk2, hw, htk4, List.take_length, encsTy_length, Int.natCast_nonneg, Int.toNat_natCast]
      rw [e2, e3]
      refine ⟨i + 1, by omega, by omega, ?_⟩
      exact (keepI [0, 1, 2] _ (WkH.refl _) rfl rfl rfl ⟨⟨_, WkV.refl _, rfl⟩, ⟨_, WkV.refl _, rfl⟩, ⟨_, WkV.refl _, rfl⟩, ⟨_, WkV.refl _, rfl⟩, trivial⟩)
  · have hc : ((i : Int) < (cs.length : Int)) = False := by simp; omega
    have hie : i = cs.length := by omega
    subst hie
    simp -implicitDefEqProofs only [bV.d, oS.d, J0, J1, J2, J3, J4, J5, J6, J7, ↓reduceIte, reduceCtorEq, hc, List.length_map]
    rw [List.take_length] at htk2
    apply vend_of [0, 1]
    · rfl
    · simp [fin, nodup, handO, lendR, lendV, lendLs, lendL, idx, vone, renL, lendVs, renO, renL.renLs]; first | exact ⟨rfl, rfl⟩ | exact ⟨rfl, rfl, rfl⟩
    exact ⟨by simp only [List.take_length, htk2], by simp only [List.take_length]⟩


theorem vc_wenter (fr to tk : List Int) (A : List Int) (hA : A.length < 1000000000) (l : List Int) (hl : l.length < 1000000000) (w : WS) (hw1 : w.nums.length = A.length) (v : Nat) (J : List (List D)) :
    VC Tryz.prog 30 [.one (.ptr 0 0), .one (.d (.sl (nums l)))] [wb fr to tk v A w, wa v A w J] fun r h' => r = .tup [] ∧ ∃ v' J', h' = [wb fr to tk v' (A ++ l) (enterF l.length w), wa v' (A ++ l) (enterF l.length w) J'] := by
  simp only [wb, wa]
  refine VC_of_fn mixed fn30 (by simp) ?_
  show vwp Tryz.prog 2 vc30 _ [(0, .one (.ptr 0 0)), (1, .one (.d (.sl (nums l))))] [.box [.own 1 v A.length, .d (.sl (nums fr)), .d (.sl (nums to)), .d (.int .i64 w.next), .d (.sl (nums tk)), .d (.sl (nums w.free))], .arr false 2 v (rws A w.nums ++ J)]
  unfold vc30
  rw [vwpI_eq]
  simp -implicitDefEqProofs only [bV.d, oS.d, J0, J1, J2, J3, J4, J5, J6, J7, ↓reduceIte, reduceCtorEq]
  refine loopI (α := Nat × Nat × List (List D)) (fun x => [(4, .one (.d (.int .i64 x.1))), (0, .one (.ptr 0 0)), (1, .one (.d (.sl (nums l))))])
    (fun x => [.box [.own 1 x.2.1 (A.length + x.1), .d (.sl (nums fr)), .d (.sl (nums to)), .d (.int .i64 w.next), .d (.sl (nums tk)), .d (.sl (nums w.free))], .arr false 2 x.2.1 (rws (A ++ l.take x.1) (w.nums ++ List.replicate x.1 (-1)) ++ x.2.2)])
    (fun x => x.1 ≤ l.length) (fun x => l.length - x.1) (0, v, J)
    (keepI [0, 1] _ (WkH.refl _) rfl rfl (by simp [handO, renO, renL.renLs, renL, idx]) ⟨⟨_, WkV.refl _, rfl⟩, ⟨_, WkV.refl _, rfl⟩, ⟨_, WkV.refl _, rfl⟩, trivial⟩) (Nat.zero_le _) ?_
  rintro ⟨i, v1, X1⟩ hi
  simp only at hi
  have hw := wrapA1 (a := i) rfl (by omega)
  have hN : (w.nums ++ List.replicate i (-1)).length = (A ++ l.take i).length := by simp [hw1]; omega
  rcases Nat.lt_or_ge i l.length with h5 | h5
  · have hc : ((i : Int) < (l.length : Int)) = True := by simp; omega
    obtain ⟨u, hu⟩ := rowOf h5
    have hg := nums_get hu
    have hcap : (A.length + i + 1) * 16 ≤ maxBytes ∧ A.length + i + 1 ≤ maxBytes := by simp [maxBytes]; omega
    have htk : (rws (A ++ l.take i) (w.nums ++ List.replicate i (-1)) ++ X1).take (A.length + i) = rws (A ++ l.take i) (w.nums ++ List.replicate i (-1)) := by
      rw [List.take_append_of_le_length (by rw [rws_length hN]; simp; omega), List.take_of_length_le (by rw [rws_length hN]; simp; omega)]
    have e1 : rws (A ++ l.take i) (w.nums ++ List.replicate i (-1)) ++ [[.int .i64 u, .int .i64 (-1)]] = rws (A ++ l.take (i + 1)) (w.nums ++ List.replicate (i + 1) (-1)) ++ [] := by
      rw [← rws_app hN, List.append_nil, List.take_add_one, hu, List.replicate_succ', List.append_assoc, List.append_assoc]
      rfl
    simp -implicitDefEqProofs only [bV.d, oS.d, J0, J1, J2, J3, J4, J5, J6, J7, ↓reduceIte, reduceCtorEq, hc, hg, hcap, htk, hw, nums_length, Int.natCast_nonneg, Int.toNat_natCast]
    rw [e1]
    refine ⟨(i + 1, v1 + 1, []), by show i + 1 ≤ l.length; omega, by show l.length - (i + 1) < l.length - i; omega, ?_⟩
    exact (keepI [0, 1] _ (WkH.refl _) rfl rfl rfl ⟨⟨_, WkV.refl _, rfl⟩, ⟨_, WkV.refl _, rfl⟩, ⟨_, WkV.refl _, rfl⟩, trivial⟩)
  · have hc : ((i : Int) < (l.length : Int)) = False := by simp; omega
    have hie : i = l.length := by omega
    subst hie
    simp -implicitDefEqProofs only [bV.d, oS.d, J0, J1, J2, J3, J4, J5, J6, J7, ↓reduceIte, reduceCtorEq, hc, nums_length]
    apply vend_of [0, 1]; rfl; rfl
    refine ⟨rfl, v1, X1, ?_⟩
    rw [List.take_length, List.length_append]
    rfl

end Go.Vt.Tryz
set_option maxRecDepth 100000
set_option linter.unusedSimpArgs false
namespace Go.Vt.Tryz
open Go.Vt renaming vslice → J0
open Nat renaming reduceBEq → J1, reduceEqDiff → J2, reduceLT → J3, reduceLeDiff → J4, reduceAdd → J5, reduceMul → J6, reduceSub → J7
open Go.Proofs Go.Vt.Al

theorem wk_nils : WkV (.one .nils) (.one (.d (.sl []))) := by unfold WkV; exact .inr (.inl ⟨rfl, rfl⟩)

theorem put_length (l : List Int) (n : Int) : (putF l n).length ≤ l.length + 1 := by
  have : ∀ l, (bub n l).length = l.length + 1 := by
    intro l
    induction l with
    | nil => rfl
    | cons y r ih => unfold bub; split <;> simp [ih]
  unfold putF
  split
  · omega
  · simp [this]

theorem used_take {q : List Int} {i : Nat} {m : Int} (h : q[i]? = some m) : usedF (q.take (i + 1)) = if 0 ≤ m then putF (usedF (q.take i)) m else usedF (q.take i) := by
  unfold usedF
  rw [List.take_add_one, h]
  simp only [Option.toList_some, List.foldl_append, List.foldl_cons, List.foldl_nil]

theorem used_length : ∀ (q : List Int), (usedF q).length ≤ q.length := by
  have : ∀ (q acc : List Int), (q.foldl (fun out k => if 0 ≤ k then putF out k else out) acc).length ≤ acc.length + q.length := by
    intro q
    induction q with
    | nil => intro acc; simp
    | cons k q ih =>
      intro acc
      simp only [List.foldl_cons, List.length_cons]
      split
      · have := ih (putF acc k); have := put_length acc k; omega
      · have := ih acc; omega
  intro q
  have := this q []
  simpa [usedF] using this

theorem rws_split {A l N : List Int} {J : List (List D)} (h : N.length = A.length + l.length) : rws (A ++ l) N ++ J = rws A (N.take A.length) ++ (rws l (N.drop A.length) ++ J) := by
  have e : rws (A ++ l) N = rws A (N.take A.length) ++ rws l (N.drop A.length) := by
    conv => lhs; rw [← List.take_append_drop A.length N]
    unfold rws
    rw [List.zipWith_append (by simp; omega)]
  rw [e, List.append_assoc]

set_option maxHeartbeats 1000000 in
theorem vc_wleave (fr to tk : List Int) (A l : List Int) (hA : A.length < 1000000000) (hl : l.length < 1000000000) (w : WS) (hw1 : w.nums.length = (A ++ l).length) (v : Nat) (J : List (List D)) :
    VC Tryz.prog 32 [.one (.ptr 0 0), .one (.d (.int .i64 l.length))] [wb fr to tk v (A ++ l) w, wa v (A ++ l) w J] fun r h' => r = .one (.d (.sl (nums (usedF (w.nums.drop A.length))))) ∧ ∃ J', h' = [wb fr to tk v A (leaveF A.length w), wa v A (leaveF A.length w) J'] := by
  rw [List.length_append] at hw1
  have hsp := rws_split (A := A) (l := l) (J := J) hw1
  simp only [wb, wa, List.length_append, leaveF]
  have w1 := wrapS (a := A.length + l.length) (b := l.length) (c := A.length) (by omega) (by omega)
  refine VC_of_fn mixed fn32 (by simp) ?_
  show vwp Tryz.prog 2 vc32 _ [(0, .one (.ptr 0 0)), (1, .one (.d (.int .i64 l.length)))] [.box [.own 1 v (A.length + l.length), .d (.sl (nums fr)), .d (.sl (nums to)), .d (.int .i64 w.next), .d (.sl (nums tk)), .d (.sl (nums w.free))], .arr false 2 v (rws (A ++ l) w.nums ++ J)]
  unfold vc32
  rw [vwpI_eq]
  have hle : A.length ≤ A.length + l.length := Nat.le_add_right _ _
  rcases Nat.eq_zero_or_pos l.length with h0 | h0
  · have hl0 : l = [] := List.length_eq_zero_iff.1 h0
    subst hl0
    simp only [List.length_nil, Nat.add_zero] at hw1 w1 hle
    simp only [List.append_nil] at hsp
    have hd : w.nums.drop A.length = [] := List.drop_of_length_le (by omega)
    have ht : w.nums.take A.length = w.nums := List.take_of_length_le (by omega)
    have e0 : ((0 : Nat) : Int) = 0 := rfl
    have e1 : ((0 : Int) < ((0 : Nat) : Int)) = False := by simp
    rw [e0] at w1
    simp -implicitDefEqProofs only [bV.d, oS.d, J0, J1, J2, J3, J4, J5, J6, J7, ↓reduceIte, reduceCtorEq, List.length_nil, Nat.add_zero, e0, w1, Int.natCast_nonneg, Int.toNat_natCast]
    refine loopI (α := Unit) (fun _ => [(7, .one (.d (.int .i64 0))), (6, .one (.d (.sl []))), (5, .one (.d (.sl []))), (0, .one (.ptr 0 0)), (1, .one (.d (.int .i64 0)))])
      (fun _ => [.box [.own 1 v A.length, .d (.sl (nums fr)), .d (.sl (nums to)), .d (.int .i64 w.next), .d (.sl (nums tk)), .d (.sl (nums w.free))], .arr false 2 v (rws A w.nums ++ J)]) (fun _ => True) (fun _ => 0) ()
      (keepI [0, 1] _ (WkH.refl _) rfl rfl rfl ⟨⟨_, WkV.refl _, rfl⟩, ⟨_, WkV.refl _, rfl⟩, ⟨_, wk_nils, rfl⟩, ⟨_, WkV.refl _, rfl⟩, ⟨_, WkV.refl _, rfl⟩, trivial⟩) trivial ?_
    intro _ _
    simp -implicitDefEqProofs only [bV.d, oS.d, J0, J1, J2, J3, J4, J5, J6, J7, ↓reduceIte, reduceCtorEq, e1, w1, Int.natCast_nonneg, Int.toNat_natCast, Nat.le_refl]
    apply vend_of [0, 1]; rfl; rfl
    refine ⟨by rw [hd]; rfl, J, ?_⟩
    rw [ht]
  have hne : (A.length = A.length + l.length) = False := by simp only [eq_iff_iff, iff_false]; omega
  simp -implicitDefEqProofs only [bV.d, oS.d, J0, J1, J2, J3, J4, J5, J6, J7, ↓reduceIte, reduceCtorEq, w1, hle, hne, Int.natCast_nonneg, Int.toNat_natCast, Nat.add_sub_cancel_left]
  refine loopI (α := Nat) (fun i => [(7, .one (.d (.int .i64 i))), (6, .one (.osl 1 v A.length l.length)), (5, .one (.d (.sl (nums (usedF ((w.nums.drop A.length).take i)))))), (0, .one (.ptr 0 0)), (1, .one (.d (.int .i64 l.length)))])
    (fun _ => [.box [.own 1 v (A.length + l.length), .d (.sl (nums fr)), .d (.sl (nums to)), .d (.int .i64 w.next), .d (.sl (nums tk)), .d (.sl (nums w.free))], .arr false 2 v (rws (A ++ l) w.nums ++ J)]) (fun i => i ≤ l.length) (fun i => l.length - i) 0
    (keepI [0, 1] _ (WkH.refl _) rfl rfl rfl ⟨⟨_, WkV.refl _, rfl⟩, ⟨_, WkV.refl _, rfl⟩, ⟨_, wk_nils, rfl⟩, ⟨_, WkV.refl _, rfl⟩, ⟨_, WkV.refl _, rfl⟩, trivial⟩) (Nat.zero_le _) ?_
  intro i hi
  have hw := wrapA1 (a := i) rfl (by omega)
  rcases Nat.lt_or_ge i l.length with h5 | h5
  · have hc : ((i : Int) < (l.length : Int)) = True := by simp; omega
    obtain ⟨a, ha⟩ := rowOf (l := A ++ l) (i := A.length + i) (by simp; omega)
    obtain ⟨m, hm⟩ := rowOf (l := w.nums) (i := A.length + i) (by omega)
    have hg := rws_get (J := J) ha hm
    have hq : (w.nums.drop A.length)[i]? = some m := by rw [List.getElem?_drop]; exact hm
    have hu := used_take hq
    have hul := used_length ((w.nums.drop A.length).take i)
    have hp := vc_put (usedF ((w.nums.drop A.length).take i)) m (by rw [List.length_take] at hul; omega)
    by_cases hneg : 0 ≤ m
    · have e1 : (0 ≤ m) = True := by simp [hneg]
      rw [if_pos hneg] at hu
      rw [← hu] at hp
      simp -implicitDefEqProofs only [bV.d, oS.d, J0, J1, J2, J3, J4, J5, J6, J7, ↓reduceIte, reduceCtorEq, hc, hg, e1, Int.natCast_nonneg, Int.toNat_natCast]
      refine callS [] (hp) rfl rfl rfl ?_
      rintro _ _ ⟨rfl, rfl⟩
      refine ⟨_, _, rfl, ?_⟩
      simp -implicitDefEqProofs only [bV.d, oS.d, J0, J1, J2, J3, J4, J5, J6, J7, ↓reduceIte, reduceCtorEq, hw]
      refine ⟨i + 1, by omega, by omega, ?_⟩
      exact (keepI [0, 1] _ (WkH.refl _) rfl rfl rfl ⟨⟨_, WkV.refl _, rfl⟩, ⟨_, WkV.refl _, rfl⟩, ⟨_, WkV.refl _, rfl⟩, ⟨_, WkV.refl _, rfl⟩, ⟨_, WkV.refl _, rfl⟩, trivial⟩)
    · have e1 : (0 ≤ m) = False := by simp [hneg]
      rw [if_neg hneg] at hu
      simp -implicitDefEqProofs only [bV.d, oS.d, J0, J1, J2, J3, J4, J5, J6, J7, ↓reduceIte, reduceCtorEq, hc, hg, e1, hw, Int.natCast_nonneg, Int.toNat_natCast]
      rw [← hu]
      refine ⟨i + 1, by omega, by omega, ?_⟩
      exact (keepI [0, 1] _ (WkH.refl _) rfl rfl rfl ⟨⟨_, WkV.refl _, rfl⟩, ⟨_, WkV.refl _, rfl⟩, ⟨_, WkV.refl _, rfl⟩, ⟨_, WkV.refl _, rfl⟩, ⟨_, WkV.refl _, rfl⟩, trivial⟩)
  · have hc : ((i : Int) < (l.length : Int)) = False := by simp; omega
    have hie : i = l.length := by omega
    subst hie
    simp -implicitDefEqProofs only [bV.d, oS.d, J0, J1, J2, J3, J4, J5, J6, J7, ↓reduceIte, reduceCtorEq, hc, w1, hle, Int.natCast_nonneg, Int.toNat_natCast]
    rw [hsp]
    have ht : (w.nums.drop A.length).take l.length = w.nums.drop A.length := List.take_of_length_le (by rw [List.length_drop]; omega)
    rw [ht]
    apply vend_of [0, 1]; rfl; rfl
    exact ⟨rfl, _, rfl⟩

end Go.Vt.Tryz
set_option maxRecDepth 100000
set_option linter.unusedSimpArgs false
namespace Go.Vt.Tryz
open Go.Vt renaming vslice → J0
open Nat renaming reduceBEq → J1, reduceEqDiff → J2, reduceLT → J3, reduceLeDiff → J4, reduceAdd → J5, reduceMul → J6, reduceSub → J7
open Go.Proofs Go.Vt.Al

def StrOk (fr to tk : List Int) (s : Stx) : Prop := ∀ (A : List Int) (w : WS) (v : Nat) (J : List (List D)), w.nums.length = A.length → A.length + stn s < 500000000 → w.free.length + stn s < 1000000000 → 0 ≤ w.next → (strF tk (subF fr to) A s w).2.next < 1000000000000000 →
  VC Tryz.prog 31 [.one (.ptr 0 0), stW s] [wb fr to tk v A w, wa v A w J] fun r h' => r = stW (strF tk (subF fr to) A s w).1 ∧ ∃ v' J', h' = [wb fr to tk v' A (strF tk (subF fr to) A s w).2, wa v' A (strF tk (subF fr to) A s w).2 J']

theorem enter_len {A l : List Int} {w : WS} (h : w.nums.length = A.length) : (enterF l.length w).nums.length = (A ++ l).length := by simp [enterF, h]


theorem bh_map2 {α β : Type} {f : α → WS → β × WS} {c : α → Nat} {k : Nat} : ∀ (l : List α), (∀ a ∈ l, ∀ w, w.nums.length = k → Bh w (f a w).2 (c a)) → ∀ w, w.nums.length = k → Bh w (mapW f l w).2 (sumN c l)
  | [], _, w, _ => Bh.refl w
  | a :: l, h, w, hw => (h a (by simp) w hw).trans (bh_map2 l (fun b hb => h b (by simp [hb])) _ ((h a (by simp) w hw).1.trans hw))
theorem bh_part2 {α β : Type} {f : α → WS → β × WS} {c : α → Nat} {k : Nat} {l : List α} (h : ∀ a ∈ l, ∀ w, w.nums.length = k → Bh w (f a w).2 (c a)) (i : Nat) (w : WS) (hw : w.nums.length = k) : Bh w (mapW f (l.take i) w).2 (sumN c (l.take i)) ∧ (mapW f (l.take i) w).2.next ≤ (mapW f l w).2.next := by
  have h1 := bh_map2 (f := f) (c := c) (l.take i) (fun a ha => h a (List.mem_of_mem_take ha)) w hw
  refine ⟨h1, ?_⟩
  conv => rhs; rw [← List.take_append_drop i l, mapW_app]
  exact (bh_map2 (f := f) (c := c) (l.drop i) (fun a ha => h a (List.mem_of_mem_drop ha)) _ (h1.1.trans hw)).2.1

section
variable {tk : List Int} {sb : Int → Int}

def fnF (tk : List Int) (sb : Int → Int) (A : List Int) (f : FnE) (w : WS) : FnE × WS :=
  ((usedF ((absF tk sb (A ++ f.1) f.2.2 (strF tk sb (A ++ f.1) f.2.1 (enterF f.1.length w)).2).2.nums.drop A.length), (strF tk sb (A ++ f.1) f.2.1 (enterF f.1.length w)).1, (absF tk sb (A ++ f.1) f.2.2 (strF tk sb (A ++ f.1) f.2.1 (enterF f.1.length w)).2).1),
    leaveF A.length (absF tk sb (A ++ f.1) f.2.2 (strF tk sb (A ++ f.1) f.2.1 (enterF f.1.length w)).2).2)
def subE (tk : List Int) (sb : Int → Int) (A : List Int) (x : ByteArray × Stx) (w : WS) : (ByteArray × Stx) × WS := ((x.1, (strF tk sb A x.2 w).1), (strF tk sb A x.2 w).2)
def funE (tk : List Int) (sb : Int → Int) (A : List Int) (x : ByteArray × FnE) (w : WS) : (ByteArray × FnE) × WS := ((x.1, (fnF tk sb A x.2 w).1), (fnF tk sb A x.2 w).2)
def sigE (tk : List Int) (sb : Int → Int) (A : List Int) (x : SigE) (w : WS) : SigE × WS := ((x.1, (absF tk sb A x.2 w).1), (absF tk sb A x.2 w).2)

theorem goS_mapW {A : List Int} : ∀ (l : List (ByteArray × Stx)) (w : WS), strF.goS tk sb A l w = mapW (subE tk sb A) l w
  | [], w => by rw [strF.goS]; rfl
  | (s, x) :: l, w => by rw [strF.goS]; simp only [mapW, subE, goS_mapW l]
theorem goF_mapW {A : List Int} : ∀ (l : List (ByteArray × FnE)) (w : WS), strF.goF tk sb A l w = mapW (funE tk sb A) l w
  | [], w => by rw [strF.goF]; rfl
  | (s, p, x, q, y) :: l, w => by rw [strF.goF]; simp only [mapW, funE, fnF, absF, goF_mapW l, List.length_append]
theorem goG_mapW {A : List Int} : ∀ (l : List SigE) (w : WS), strF.goG tk sb A l w = mapW (sigE tk sb A) l w
  | [], w => by rw [strF.goG]; rfl
  | (s, q, y) :: l, w => by rw [strF.goG]; simp only [mapW, sigE, absF, goG_mapW l]

theorem str_mapW {A : List Int} (ts : List Tym) (vs : List Vam) (ss : List (ByteArray × Stx)) (fs : List (ByteArray × FnE)) (gs : List SigE) (w : WS) : strF tk sb A (.mk ts vs ss fs gs) w =
    (.mk (mapW (tymF tk sb A) ts w).1 (mapW (vamF tk sb A) vs (mapW (tymF tk sb A) ts w).2).1 (mapW (subE tk sb A) ss (mapW (vamF tk sb A) vs (mapW (tymF tk sb A) ts w).2).2).1 (mapW (funE tk sb A) fs (mapW (subE tk sb A) ss (mapW (vamF tk sb A) vs (mapW (tymF tk sb A) ts w).2).2).2).1
      (mapW (sigE tk sb A) gs (mapW (funE tk sb A) fs (mapW (subE tk sb A) ss (mapW (vamF tk sb A) vs (mapW (tymF tk sb A) ts w).2).2).2).2).1,
      (mapW (sigE tk sb A) gs (mapW (funE tk sb A) fs (mapW (subE tk sb A) ss (mapW (vamF tk sb A) vs (mapW (tymF tk sb A) ts w).2).2).2).2).2) := by
  rw [strF]
  simp only [goS_mapW, goF_mapW, goG_mapW]

theorem bh_tym {A : List Int} (m : Tym) (w : WS) : Bh w (tymF tk sb A m w).2 (tymn m) := by
  have h := (bh_ty (tk := tk) (sb := sb) (A := A) m.t w).trans (bh_map (f := ctF tk sb A) (c := ctn) m.cts (fun c _ w => bh_ct c w) (tyF tk sb A m.t w).2)
  exact h.mono (by rw [tymn_e]; omega)
theorem bh_vam {A : List Int} (m : Vam) (w : WS) : Bh w (vamF tk sb A m w).2 (vamn m) := (bh_ty (tk := tk) (sb := sb) (A := A) m.s.t w).mono (by rw [vamn_e]; omega)

theorem Bh.binder {A l : List Int} {w w1 : WS} {c : Nat} (hw : w.nums.length = A.length) (h : Bh (enterF l.length w) w1 c) : Bh w (leaveF A.length w1) c := by
  refine ⟨?_, h.2.1, h.2.2⟩
  have := h.1
  rw [enter_len hw] at this
  simp only [leaveF, List.length_take, this, List.length_append]
  omega

theorem bh_str : ∀ (s : Stx) (A : List Int) (w : WS), w.nums.length = A.length → Bh w (strF tk sb A s w).2 (stn s) := by
  intro s
  induction s using Stx.ind with
  | h ts vs ss fs gs i1 i2 i3 =>
  intro A w hw
  rw [str_mapW]
  simp only [stn, goS_sum, goF_sum, goG_sum]
  have b1 := bh_map (f := tymF tk sb A) (c := tymn) ts (fun m _ w => bh_tym m w) w
  have b2 := bh_map (f := vamF tk sb A) (c := vamn) vs (fun m _ w => bh_vam m w) (mapW (tymF tk sb A) ts w).2
  generalize (mapW (vamF tk sb A) vs (mapW (tymF tk sb A) ts w).2).2 = w2 at b2 ⊢
  have b12 := b1.trans b2
  have b3 := bh_map2 (f := subE tk sb A) (c := subz) (k := A.length) ss (fun x hx w hw => (i1 x hx A w hw).mono (by rw [subz_e]; omega)) w2 (b12.1.trans hw)
  generalize (mapW (subE tk sb A) ss w2).2 = w3 at b3 ⊢
  have b13 := b12.trans b3
  have b4 := bh_map2 (f := funE tk sb A) (c := funz) (k := A.length) fs (fun x hx w hw => by
    have k1 := (i2 x hx).1 (A ++ x.2.1) (enterF x.2.1.length w) (enter_len hw)
    have h2 := k1.1.trans (enter_len (l := x.2.1) hw)
    have k2 := (i2 x hx).2 (A ++ x.2.1 ++ x.2.2.2.1) (enterF x.2.2.2.1.length (strF tk sb (A ++ x.2.1) x.2.2.1 (enterF x.2.1.length w)).2) (enter_len h2)
    have k3 := Bh.binder hw (k1.trans (Bh.binder h2 k2))
    exact k3.mono (by rw [funz_e]; omega)) w3 (b13.1.trans hw)
  generalize (mapW (funE tk sb A) fs w3).2 = w4 at b4 ⊢
  have b14 := b13.trans b4
  have b5 := bh_map2 (f := sigE tk sb A) (c := sigz) (k := A.length) gs (fun x hx w hw => by
    have k1 := i3 x hx (A ++ x.2.1) (enterF x.2.1.length w) (enter_len hw)
    exact (Bh.binder hw k1).mono (by rw [sigz_e]; omega)) w4 (b14.1.trans hw)
  exact (b14.trans b5).mono (by omega)

theorem bh_abs {A : List Int} (a : List Int × Stx) (w : WS) (hw : w.nums.length = A.length) : Bh w (absF tk sb A a w).2 (stn a.2) := Bh.binder hw (bh_str a.2 _ _ (enter_len hw))
theorem bh_fn {A : List Int} (f : FnE) (w : WS) (hw : w.nums.length = A.length) : Bh w (fnF tk sb A f w).2 (stn f.2.1 + stn f.2.2.2) := by
  have k1 := bh_str (tk := tk) (sb := sb) f.2.1 (A ++ f.1) (enterF f.1.length w) (enter_len hw)
  have h2 := k1.1.trans (enter_len (l := f.1) hw)
  exact Bh.binder hw (k1.trans (bh_abs f.2.2 _ h2))
end

theorem vc_wabs (fr to tk : List Int) {s : Stx} (H : StrOk fr to tk s) (l : List Int) (A : List Int) (w : WS) (v : Nat) (J : List (List D)) (hw : w.nums.length = A.length) (hA : A.length + l.length + stn s < 500000000) (hf : w.free.length + stn s < 1000000000) (h0 : 0 ≤ w.next)
    (hb : (absF tk (subF fr to) A (l, s) w).2.next < 1000000000000000) :
    VC Tryz.prog 15 [.one (.ptr 0 0), abW l s] [wb fr to tk v A w, wa v A w J] fun r h' => r = abW (absF tk (subF fr to) A (l, s) w).1.1 (absF tk (subF fr to) A (l, s) w).1.2 ∧ ∃ v' J', h' = [wb fr to tk v' A (absF tk (subF fr to) A (l, s) w).2, wa v' A (absF tk (subF fr to) A (l, s) w).2 J'] := by
  have c1 := vc_wenter fr to tk A (by omega) l (by omega) w hw v J
  have c2 := fun v J => H (A ++ l) (enterF l.length w) v J (enter_len hw) (by simp; omega) hf h0 hb
  have hl2 := (bh_str (tk := tk) (sb := subF fr to) s (A ++ l) (enterF l.length w) (enter_len hw)).1.trans (enter_len (l := l) hw)
  simp only [absF] at hb ⊢
  generalize strF tk (subF fr to) (A ++ l) s (enterF l.length w) = R at c2 hb hl2 ⊢
  obtain ⟨⟨r1, r2, r3, r4, r5⟩, w2⟩ := R
  have c3 := fun v J => vc_wleave fr to tk A l (by omega) (by omega) w2 hl2 v J
  obtain ⟨s1, s2, s3, s4, s5⟩ := s
  simp only [wb, wa] at c1 c2 c3 ⊢
  simp only [abW, stW, encSt, List.map_cons, List.map_nil] at c2 ⊢
  refine VC_of_fn mixed fn15 (by simp) ?_
  show vwp Tryz.prog 2 vc15 _ [(0, .one (.ptr 0 0)), (1, .agg [.d (.sl (nums l)), .d (.sl (s1.map encTym)), .d (.sl (s2.map encVam)), .d (.sl (encSt.subs s3)), .d (.sl (encSt.funs s4)), .d (.sl (encSt.sigs s5))])] [.box [.own 1 v A.length, .d (.sl (nums fr)), .d (.sl (nums to)), .d (.int .i64 w.next), .d (.sl (nums tk)), .d (.sl (nums w.free))], .arr false 2 v (rws A w.nums ++ J)]
  unfold vc15
  rw [vwpI_eq]
  simp -implicitDefEqProofs only [bV.d, oS.d, J0, J1, J2, J3, J4, J5, J6, J7, ↓reduceIte, reduceCtorEq]
  refine callS [0, 1] (c1) rfl rfl rfl ?_
  rintro _ _ ⟨rfl, v1, X1, rfl⟩
  refine ⟨_, _, rfl, ?_⟩
  simp -implicitDefEqProofs only [bV.d, oS.d, J0, J1, J2, J3, J4, J5, J6, J7, ↓reduceIte, reduceCtorEq]
  refine callS [0, 1] (c2 v1 X1) rfl rfl rfl ?_
  rintro _ _ ⟨rfl, v2, X2, rfl⟩
  refine ⟨_, _, rfl, ?_⟩
  simp -implicitDefEqProofs only [bV.d, oS.d, J0, J1, J2, J3, J4, J5, J6, J7, ↓reduceIte, reduceCtorEq, nums_length]
  refine callS [0, 1] (c3 v2 X2) rfl rfl rfl ?_
  rintro _ _ ⟨rfl, X3, rfl⟩
  refine ⟨_, _, rfl, ?_⟩
  simp -implicitDefEqProofs only [bV.d, oS.d, J0, J1, J2, J3, J4, J5, J6, J7, ↓reduceIte, reduceCtorEq]
  apply vend_of [0, 1]
  · simp only [vres, lk_cons, Nat.reduceBEq, cond_true, cond_false, ti22, ti29, ti31, vload, List.getElem?_cons_succ, List.getElem?_cons_zero, mkV, List.drop_zero, List.length_cons, List.length_nil, Nat.reduceAdd, Nat.le_refl, if_true, List.take_succ_cons, List.take_zero, List.map_cons, List.map_nil, Nat.reduceLeDiff]; rfl
  · first | rfl | (simp [fin, nodup, handO, lendR, lendV, lendLs, lendL, idx, vone, renL, lendVs, renO, renL.renLs]; first | exact ⟨rfl, rfl⟩ | exact ⟨rfl, rfl, rfl⟩)
  exact ⟨rfl, v2, X3, rfl⟩

theorem vc_wfun (fr to tk : List Int) {x y : Stx} (H : StrOk fr to tk x) (H2 : StrOk fr to tk y) (p q : List Int) (A : List Int) (w : WS) (v : Nat) (J : List (List D)) (hw : w.nums.length = A.length) (hA : A.length + p.length + stn x + q.length + stn y < 500000000) (hf : w.free.length + stn x + stn y < 1000000000) (h0 : 0 ≤ w.next)
    (hb : (fnF tk (subF fr to) A (p, x, q, y) w).2.next < 1000000000000000) :
    VC Tryz.prog 65 [.one (.ptr 0 0), .agg ((encFn (p, x, q, y)).map .d)] [wb fr to tk v A w, wa v A w J] fun r h' => r = .agg ((encFn (fnF tk (subF fr to) A (p, x, q, y) w).1).map .d) ∧ ∃ v' J', h' = [wb fr to tk v' A (fnF tk (subF fr to) A (p, x, q, y) w).2, wa v' A (fnF tk (subF fr to) A (p, x, q, y) w).2 J'] := by
  have c1 := vc_wenter fr to tk A (by omega) p (by omega) w hw v J
  have k1 := bh_str (tk := tk) (sb := subF fr to) x (A ++ p) (enterF p.length w) (enter_len hw)
  have hl2 := k1.1.trans (enter_len (l := p) hw)
  have k2 := bh_abs (tk := tk) (sb := subF fr to) (q, y) _ hl2
  have hl3 := k2.1.trans hl2
  have c2 := fun v J => H (A ++ p) (enterF p.length w) v J (enter_len hw) (by simp; omega) (by show w.free.length + _ < _; omega) h0 (Int.lt_of_le_of_lt k2.2.1 hb)
  have c4 := fun v J => vc_wabs fr to tk H2 q (A ++ p) (strF tk (subF fr to) (A ++ p) x (enterF p.length w)).2 v J hl2 (by simp; omega) (by have := k1.2.2; simp only [enterF] at this; simp only [enterF]; omega) (Int.le_trans h0 k1.2.1) hb
  simp only [fnF] at hb ⊢
  generalize strF tk (subF fr to) (A ++ p) x (enterF p.length w) = R at c2 c4 hb hl2 hl3 ⊢
  obtain ⟨⟨r1, r2, r3, r4, r5⟩, w2⟩ := R
  simp only at c2 c4 hb hl2 hl3 ⊢
  generalize absF tk (subF fr to) (A ++ p) (q, y) w2 = S at c4 hb hl3 ⊢
  obtain ⟨⟨q', ⟨t1, t2, t3, t4, t5⟩⟩, w3⟩ := S
  have c3 := fun v J => vc_wleave fr to tk A p (by omega) (by omega) w3 hl3 v J
  obtain ⟨s1, s2, s3, s4, s5⟩ := x
  obtain ⟨y1, y2, y3, y4, y5⟩ := y
  simp only [wb, wa] at c1 c2 c3 c4 ⊢
  simp only [abW, stW, encFn, encSt, List.map_cons, List.map_nil, List.cons_append, List.nil_append] at c2 c4 ⊢
  refine VC_of_fn mixed fn65 (by simp) ?_
  show vwp Tryz.prog 2 vc65 _ [(0, .one (.ptr 0 0)), (1, .agg [.d (.sl (nums p)), .d (.sl (s1.map encTym)), .d (.sl (s2.map encVam)), .d (.sl (encSt.subs s3)), .d (.sl (encSt.funs s4)), .d (.sl (encSt.sigs s5)), .d (.sl (nums q)), .d (.sl (y1.map encTym)), .d (.sl (y2.map encVam)), .d (.sl (encSt.subs y3)), .d (.sl (encSt.funs y4)), .d (.sl (encSt.sigs y5))])] [.box [.own 1 v A.length, .d (.sl (nums fr)), .d (.sl (nums to)), .d (.int .i64 w.next), .d (.sl (nums tk)), .d (.sl (nums w.free))], .arr false 2 v (rws A w.nums ++ J)]
  unfold vc65
  rw [vwpI_eq]
  simp -implicitDefEqProofs only [bV.d, oS.d, J0, J1, J2, J3, J4, J5, J6, J7, ↓reduceIte, reduceCtorEq]
  refine callS [0, 1] (c1) rfl rfl rfl ?_
  rintro _ _ ⟨rfl, v1, X1, rfl⟩
  refine ⟨_, _, rfl, ?_⟩
  simp -implicitDefEqProofs only [bV.d, oS.d, J0, J1, J2, J3, J4, J5, J6, J7, ↓reduceIte, reduceCtorEq]
  refine callS [0, 1] (c2 v1 X1) rfl rfl rfl ?_
  rintro _ _ ⟨rfl, v2, X2, rfl⟩
  refine ⟨_, _, rfl, ?_⟩
  simp -implicitDefEqProofs only [bV.d, oS.d, J0, J1, J2, J3, J4, J5, J6, J7, ↓reduceIte, reduceCtorEq]
  refine callS [0, 1] (c4 v2 X2) rfl rfl rfl ?_
  rintro _ _ ⟨rfl, v3, X3, rfl⟩
  refine ⟨_, _, rfl, ?_⟩
  simp -implicitDefEqProofs only [bV.d, oS.d, J0, J1, J2, J3, J4, J5, J6, J7, ↓reduceIte, reduceCtorEq, nums_length]
  refine callS [0, 1] (c3 v3 X3) rfl rfl rfl ?_
  rintro _ _ ⟨rfl, X4, rfl⟩
  refine ⟨_, _, rfl, ?_⟩
  simp -implicitDefEqProofs only [bV.d, oS.d, J0, J1, J2, J3, J4, J5, J6, J7, ↓reduceIte, reduceCtorEq]
  apply vend_of [0, 1]
  · simp only [vres, lk_cons, Nat.reduceBEq, cond_true, cond_false, ti136, ti22, ti29, ti31, vload, List.getElem?_cons_succ, List.getElem?_cons_zero, mkV, List.drop_zero, List.length_cons, List.length_nil, Nat.reduceAdd, Nat.le_refl, if_true, List.take_succ_cons, List.take_zero, List.map_cons, List.map_nil, Nat.reduceLeDiff]; rfl
  · first | rfl | (simp [fin, nodup, handO, lendR, lendV, lendLs, lendL, idx, vone, renL, lendVs, renO, renL.renLs]; first | exact ⟨rfl, rfl⟩ | exact ⟨rfl, rfl, rfl⟩)
  exact ⟨rfl, v3, X4, rfl⟩

end Go.Vt.Tryz
