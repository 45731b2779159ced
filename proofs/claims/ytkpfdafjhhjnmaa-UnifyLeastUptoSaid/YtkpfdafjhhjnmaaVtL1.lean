/- The plain law of a store: what is known behind calls of Unify is a least solution. -/
import Derived.Test.YtkpfdafjhhjnmaaVtT12
set_option maxRecDepth 100000
set_option linter.unusedSimpArgs false
namespace Go.Vt.Try
open Go.Proofs

def ownN (n : Nat) (t : Ty) : Bool := t.kind == 7 && decide (0 ≤ t.num) && decide (t.num < n) && (t.kids.length == 0)

theorem ownB_eq (fs : List (Option Ty)) (t : Ty) : ownB fs t = ownN fs.length t := rfl

/-- Types put in for the metas below a number. -/
def sub (n : Nat) (σ : Nat → Ty) : Ty → Ty
  | .mk k m l => if ownN n (.mk k m l) = true then σ m.toNat else .mk k m (subs l)
  where
  subs : List Ty → List Ty
    | [] => []
    | t :: r => sub n σ t :: subs r

theorem subs_map (n : Nat) (σ : Nat → Ty) : ∀ l, sub.subs n σ l = l.map (sub n σ)
  | [] => rfl
  | _ :: r => by simp [sub.subs, subs_map n σ r]

theorem sub_own {n : Nat} {σ : Nat → Ty} {t : Ty} (h : ownN n t = true) : sub n σ t = σ t.num.toNat := by
  cases t; simp [sub, h, Ty.num]

theorem sub_not {n : Nat} {σ : Nat → Ty} {t : Ty} (h : ownN n t = false) : sub n σ t = .mk t.kind t.num (t.kids.map (sub n σ)) := by
  cases t; simp [sub, h, Ty.num, Ty.kind, Ty.kids, subs_map]

theorem ownN_metaT {n i : Nat} (h : i < n) : ownN n (metaT i) = true := by
  simp [ownN, metaT, Ty.kind, Ty.num, Ty.kids]; omega

theorem sub_metaT {n i : Nat} {σ : Nat → Ty} (h : i < n) : sub n σ (metaT i) = σ i := by
  rw [sub_own (ownN_metaT h)]; rfl

theorem ownN_spec {n : Nat} {t : Ty} (h : ownN n t = true) : ∃ i, i < n ∧ t = metaT i := by
  simp [ownN] at h
  obtain ⟨⟨⟨h1, h2⟩, h3⟩, h4⟩ := h
  obtain ⟨k, m, l⟩ := t
  simp only [Ty.kind, Ty.num, Ty.kids] at h1 h2 h3 h4
  subst h1; subst h4
  refine ⟨m.toNat, by omega, ?_⟩
  have e : ((m.toNat : Nat) : Int) = m := by omega
  simp only [metaT, e]

theorem ownN_same {n : Nat} {k m : Int} {l l' : List Ty} (h : l.length = l'.length) : ownN n (.mk k m l) = ownN n (.mk k m l') := by
  show (k == 7 && decide (0 ≤ m) && decide (m < (n : Int)) && (l.length == 0)) = (k == 7 && decide (0 ≤ m) && decide (m < (n : Int)) && (l'.length == 0))
  rw [h]

def Cons (fs : List (Option Ty)) (σ : Nat → Ty) : Prop := ∀ (i : Nat) (t : Ty), fs[i]? = some (some t) → σ i = sub fs.length σ t

def Ext (fs gs : List (Option Ty)) : Prop := gs.length = fs.length ∧ ∀ (i : Nat) (t : Ty), fs[i]? = some (some t) → gs[i]? = some (some t)

def Low (fs : List (Option Ty)) : Prop := ∀ (i : Nat) (t : Ty), fs[i]? = some (some t) → ownB fs t = true → t.num.toNat < i

theorem Ext.refl (fs : List (Option Ty)) : Ext fs fs := ⟨rfl, fun _ _ h => h⟩
theorem Ext.trans {fs gs hs : List (Option Ty)} (h : Ext fs gs) (k : Ext gs hs) : Ext fs hs := ⟨k.1.trans h.1, fun i t e => k.2 i t (h.2 i t e)⟩
theorem Ext.cons {fs gs : List (Option Ty)} {σ : Nat → Ty} (h : Ext fs gs) (c : Cons gs σ) : Cons fs σ := fun i t e => by rw [← h.1]; exact c i t (h.2 i t e)

theorem Low.chained {fs : List (Option Ty)} (h : Low fs) : Chained fs := ⟨id, fun i t hi ho => h i t hi ho⟩

theorem look_some {fs : List (Option Ty)} {t u : Ty} (h : look fs t = some u) : ownB fs t = true ∧ fs[t.num.toNat]? = some (some u) := by
  have ho : ownB fs t = true := by
    cases ho : ownB fs t
    · rw [look_not ho] at h; cases h
    · rfl
  refine ⟨ho, ?_⟩
  rw [look_own ho] at h
  cases hx : fs[t.num.toNat]? with
  | none => rw [hx] at h; cases h
  | some o => rw [hx] at h; simp at h; rw [h]

theorem look_sub {fs : List (Option Ty)} {σ : Nat → Ty} (c : Cons fs σ) {t u : Ty} (h : look fs t = some u) : sub fs.length σ t = sub fs.length σ u := by
  obtain ⟨ho, hg⟩ := look_some h
  rw [sub_own (by rwa [← ownB_eq]), c _ _ hg]

theorem seen_sub {fs : List (Option Ty)} {σ : Nat → Ty} (c : Cons fs σ) {t u : Ty} (h : Seen fs t u) : sub fs.length σ t = sub fs.length σ u := by
  induction h with
  | done => rfl
  | step h1 _ ih => rw [look_sub c h1, ih]

theorem res_sub {fs : List (Option Ty)} {σ : Nat → Ty} (c : Cons fs σ) {t u : Ty} (h : Res fs t u) : sub fs.length σ t = sub fs.length σ u := by
  refine Res.rec (fs := fs) (motive_1 := fun t u _ => sub fs.length σ t = sub fs.length σ u) (motive_2 := fun l l' _ => l.length = l'.length ∧ l.map (sub fs.length σ) = l'.map (sub fs.length σ)) ?_ ?_ ?_ h
  · intro t k n l l' s _ ih
    rw [seen_sub c s]
    cases ho : ownN fs.length (.mk k n l)
    · rw [sub_not ho, sub_not (by rw [← ownN_same ih.1]; exact ho)]
      simp only [Ty.kind, Ty.num, Ty.kids, ih.2]
    · rw [sub_own ho, sub_own (by rw [← ownN_same ih.1]; exact ho)]
      rfl
  · exact ⟨rfl, rfl⟩
  · intro t t' r r' _ _ i1 i2
    exact ⟨by simp [i2.1], by simp [i1, i2.2]⟩

theorem nodes_pos (t : Ty) : 0 < nodes t := by cases t; simp only [nodes]; omega

theorem size_le {fs : List (Option Ty)} {σ : Nat → Ty} (c : Cons fs σ) {t : Ty} {n m : Nat} (h : SizeR fs t n m) : m ≤ n + nodes (sub fs.length σ t) := by
  refine SizeR.rec (fs := fs) (motive_1 := fun t n m _ => m ≤ n + nodes (sub fs.length σ t)) (motive_2 := fun l n m _ => m ≤ n + nodesL (l.map (sub fs.length σ))) ?_ ?_ ?_ ?_ h
  · intro t t' n m s l ih
    rw [seen_sub c s]
    cases ho : ownN fs.length t'
    · rw [sub_not ho]; simp only [nodes]; omega
    · obtain ⟨i, _, rfl⟩ := ownN_spec ho
      have := nodes_pos (sub fs.length σ (metaT i))
      have e : (metaT i).kids.map (sub fs.length σ) = [] := rfl
      rw [e] at ih
      simp only [nodesL] at ih
      omega
  · intro n; simp [nodesL]
  · intro t r n _; omega
  · intro t r n m k _ _ _ i1 i2
    simp only [List.map_cons, nodesL]; omega

theorem ext_set {fs : List (Option Ty)} {a : Ty} (b : Ty) (ha : ownB fs a = true) (hra : look fs a = none) : Ext fs (fs.set a.num.toNat (some b)) := by
  refine ⟨by simp, fun i t hi => ?_⟩
  by_cases e : a.num.toNat = i
  · subst e; rw [root_none ha hra] at hi; cases hi
  · rw [List.getElem?_set_ne e]; exact hi

theorem cons_set {fs : List (Option Ty)} {σ : Nat → Ty} {a b : Ty} (c : Cons fs σ) (ha : ownB fs a = true) (h : sub fs.length σ a = sub fs.length σ b) : Cons (fs.set a.num.toNat (some b)) σ := by
  obtain ⟨_, a2, a3, _⟩ := own_spec ha
  intro i t hi
  rw [List.length_set]
  by_cases e : a.num.toNat = i
  · subst e
    rw [List.getElem?_set_self (by omega)] at hi
    cases hi
    rw [← h, sub_own (by rwa [← ownB_eq])]
  · rw [List.getElem?_set_ne e] at hi
    exact c i t hi

theorem low_set {fs : List (Option Ty)} {a b : Ty} (hl : Low fs) (ha : ownB fs a = true) (h : ownB fs b = false ∨ b.num < a.num) : Low (fs.set a.num.toNat (some b)) := by
  obtain ⟨_, a2, a3, _⟩ := own_spec ha
  intro i t hi ho
  rw [ownB_set] at ho
  by_cases e : a.num.toNat = i
  · subst e
    rw [List.getElem?_set_self (by omega)] at hi
    cases hi
    rcases h with h | h
    · rw [h] at ho; cases ho
    · obtain ⟨_, b2, _, _⟩ := own_spec ho
      omega
  · rw [List.getElem?_set_ne e] at hi
    exact hl i t hi ho

theorem join_low {fs fs' : List (Option Ty)} {n n' : Int} {a b : Ty} {ok : Bool} (h : Join fs n a b ok fs' n') : (Low fs → Low fs') ∧ Ext fs fs' := by
  refine Join.rec (motive_1 := fun fs _ _ _ _ fs' _ _ => (Low fs → Low fs') ∧ Ext fs fs') (motive_2 := fun fs _ _ _ _ fs' _ _ => (Low fs → Low fs') ∧ Ext fs fs') ?_ ?_ ?_ ?_ ?_ ?_ ?_ ?_ ?_ h
  · intros; exact ⟨id, Ext.refl _⟩
  · intros; exact ⟨id, Ext.refl _⟩
  · intro fs n a b a' b' _ s1 s2 h1 h2
    exact ⟨fun hl => low_set hl h1 h2, ext_set _ h1 s1.root⟩
  · intro fs n a b a' b' _ s1 s2 h1 h2
    exact ⟨fun hl => low_set hl h1 h2, ext_set _ h1 s2.root⟩
  · intros; exact ⟨id, Ext.refl _⟩
  · intro fs fs' n n' a b a' b' ok _ _ _ _ _ _ _ _ _ ih; exact ih
  · intros; exact ⟨id, Ext.refl _⟩
  · intro fs fs' n n' a b r r' _ ih; exact ih
  · intro fs fs1 fs2 n n1 n2 a b r r' ok _ _ i1 i2
    exact ⟨fun hl => i2.1 (i1.1 hl), i1.2.trans i2.2⟩

/-- With a solution join does not fail, but for lack of nodes; and what is known goes with the solution. -/
theorem join_complete {fs fs' : List (Option Ty)} {n n' : Int} {a b : Ty} {ok : Bool} (σ : Nat → Ty) (h : Join fs n a b ok fs' n') :
    Cons fs σ → sub fs.length σ a = sub fs.length σ b → (nodes (sub fs.length σ a) : Int) ≤ n → ok = true ∧ Cons fs' σ ∧ n - nodes (sub fs.length σ a) ≤ n' ∧ fs'.length = fs.length := by
  refine Join.rec (motive_1 := fun fs n a b ok fs' n' _ => Cons fs σ → sub fs.length σ a = sub fs.length σ b → (nodes (sub fs.length σ a) : Int) ≤ n → ok = true ∧ Cons fs' σ ∧ n - nodes (sub fs.length σ a) ≤ n' ∧ fs'.length = fs.length)
    (motive_2 := fun fs n l r ok fs' n' _ => Cons fs σ → l.map (sub fs.length σ) = r.map (sub fs.length σ) → (nodesL (l.map (sub fs.length σ)) : Int) ≤ n → ok = true ∧ Cons fs' σ ∧ n - nodesL (l.map (sub fs.length σ)) ≤ n' ∧ fs'.length = fs.length) ?_ ?_ ?_ ?_ ?_ ?_ ?_ ?_ ?_ h
  · intro fs n a b hn _ _ hb
    have := nodes_pos (sub fs.length σ a)
    omega
  · intro fs n a b a' b' _ _ _ _ _ _ c _ hb
    have := nodes_pos (sub fs.length σ a)
    exact ⟨rfl, c, by omega, rfl⟩
  · intro fs n a b a' b' _ s1 s2 h1 _ c he hb
    have := nodes_pos (sub fs.length σ a)
    exact ⟨rfl, cons_set c h1 (by rw [← seen_sub c s1, ← seen_sub c s2, he]), by omega, by simp⟩
  · intro fs n a b a' b' _ s1 s2 h1 _ c he hb
    have := nodes_pos (sub fs.length σ a)
    exact ⟨rfl, cons_set c h1 (by rw [← seen_sub c s1, ← seen_sub c s2, he]), by omega, by simp⟩
  · intro fs n a b a' b' _ s1 s2 h1 h2 h3 c he hb
    exfalso
    rw [seen_sub c s1, seen_sub c s2, sub_not (by rwa [← ownB_eq]), sub_not (by rwa [← ownB_eq])] at he
    injection he with e1 e2 e3
    have e4 := congrArg List.length e3
    simp only [List.length_map] at e4
    rcases h3 with h3 | h3 | h3
    · exact h3 e1
    · exact h3 e2
    · exact h3 e4
  · intro fs fs' n n' a b a' b' ok _ s1 s2 h1 h2 h3 h4 h5 _ ih c he hb
    rw [seen_sub c s1, seen_sub c s2, sub_not (by rwa [← ownB_eq]), sub_not (by rwa [← ownB_eq])] at he
    injection he with e1 e2 e3
    rw [seen_sub c s1, sub_not (by rwa [← ownB_eq])] at hb ⊢
    simp only [nodes] at hb ⊢
    obtain ⟨r1, r2, r3, r4⟩ := ih c e3 (by omega)
    exact ⟨r1, r2, by omega, r4⟩
  · intro fs n c _ _
    exact ⟨rfl, c, by simp [nodesL], rfl⟩
  · intro fs fs' n n' a b r r' _ ih c he hb
    simp only [List.map_cons, List.cons.injEq, nodesL] at he hb
    have := (ih c he.1 (by omega)).1
    cases this
  · intro fs fs1 fs2 n n1 n2 a b r r' ok _ _ i1 i2 c he hb
    simp only [List.map_cons, List.cons.injEq, nodesL] at he hb ⊢
    obtain ⟨_, c1, b1, l1⟩ := i1 c he.1 (by omega)
    rw [l1] at i2
    obtain ⟨r1, r2, r3, r4⟩ := i2 c1 he.2 (by omega)
    exact ⟨r1, r2, by omega, r4⟩

/-- What join made the same is the same in whatever goes with what is known then. -/
theorem join_sound {fs fs' : List (Option Ty)} {n n' : Int} {a b : Ty} {ok : Bool} (σ : Nat → Ty) (h : Join fs n a b ok fs' n') :
    ok = true → Cons fs' σ → sub fs.length σ a = sub fs.length σ b := by
  have key : (ok = true → Cons fs' σ → sub fs.length σ a = sub fs.length σ b) ∧ Ext fs fs' := by
    refine Join.rec (motive_1 := fun fs n a b ok fs' n' _ => (ok = true → Cons fs' σ → sub fs.length σ a = sub fs.length σ b) ∧ Ext fs fs')
      (motive_2 := fun fs n l r ok fs' n' _ => (ok = true → Cons fs' σ → l.map (sub fs.length σ) = r.map (sub fs.length σ)) ∧ Ext fs fs') ?_ ?_ ?_ ?_ ?_ ?_ ?_ ?_ ?_ h
    · intro fs n a b hn; exact ⟨(fun h => by cases h), Ext.refl _⟩
    · intro fs n a b a' b' _ s1 s2 h1 h2 h3
      refine ⟨fun _ c => ?_, Ext.refl _⟩
      rw [seen_sub c s1, seen_sub c s2, own_eq h1, own_eq h2, h3]
    · intro fs n a b a' b' _ s1 s2 h1 _
      have hx := ext_set b' h1 s1.root
      refine ⟨fun _ c => ?_, hx⟩
      have c0 := hx.cons c
      have : look (fs.set a'.num.toNat (some b')) a' = some b' := by
        obtain ⟨_, a2, a3, _⟩ := own_spec h1
        rw [look_own (by rw [ownB_set]; exact h1), List.getElem?_set_self (by omega)]
        rfl
      have := look_sub c this
      rw [List.length_set] at this
      rw [seen_sub c0 s1, seen_sub c0 s2, this]
    · intro fs n a b a' b' _ s1 s2 h1 _
      have hx := ext_set a' h1 s2.root
      refine ⟨fun _ c => ?_, hx⟩
      have c0 := hx.cons c
      have : look (fs.set b'.num.toNat (some a')) b' = some a' := by
        obtain ⟨_, a2, a3, _⟩ := own_spec h1
        rw [look_own (by rw [ownB_set]; exact h1), List.getElem?_set_self (by omega)]
        rfl
      have := look_sub c this
      rw [List.length_set] at this
      rw [seen_sub c0 s1, seen_sub c0 s2, this]
    · intros; exact ⟨(fun h => by cases h), Ext.refl _⟩
    · intro fs fs' n n' a b a' b' ok _ s1 s2 h1 h2 h3 h4 h5 _ ih
      refine ⟨fun ho c => ?_, ih.2⟩
      have c0 := ih.2.cons c
      rw [seen_sub c0 s1, seen_sub c0 s2, sub_not (by rwa [← ownB_eq]), sub_not (by rwa [← ownB_eq]), h3, h4, ih.1 ho c]
    · intros; exact ⟨fun _ _ => rfl, Ext.refl _⟩
    · intro fs fs' n n' a b r r' _ ih; exact ⟨(fun h => by cases h), ih.2⟩
    · intro fs fs1 fs2 n n1 n2 a b r r' ok _ _ i1 i2
      refine ⟨fun ho c => ?_, i1.2.trans i2.2⟩
      have e1 := i1.1 rfl (i2.2.cons c)
      have e2 := i2.1 ho c
      rw [i1.2.1] at e2
      simp only [List.map_cons, e1, e2]
  exact key.1

/-- A size that is not too great: the type has a resolved one. -/
theorem size_res {fs : List (Option Ty)} {t : Ty} {n m : Nat} (h : SizeR fs t n m) : m ≤ 1000 → ∃ u, Res fs t u := by
  have : n ≤ m ∧ (m ≤ 1000 → ∃ u, Res fs t u) := by
    refine SizeR.rec (fs := fs) (motive_1 := fun t n m _ => n ≤ m ∧ (m ≤ 1000 → ∃ u, Res fs t u)) (motive_2 := fun l n m _ => n ≤ m ∧ (m ≤ 1000 → ∃ u, ResL fs l u)) ?_ ?_ ?_ ?_ h
    · intro t t' n m s _ ih
      refine ⟨by omega, fun hm => ?_⟩
      obtain ⟨u, hu⟩ := ih.2 hm
      obtain ⟨k, c, l⟩ := t'
      exact ⟨_, .mk s hu⟩
    · intro n; exact ⟨Nat.le_refl _, fun _ => ⟨_, .nil⟩⟩
    · intro t r n h; exact ⟨Nat.le_refl _, fun h' => by omega⟩
    · intro t r n m k _ _ _ i1 i2
      refine ⟨by omega, fun hk => ?_⟩
      obtain ⟨u, hu⟩ := i1.2 (by omega)
      obtain ⟨v, hv⟩ := i2.2 hk
      exact ⟨_, .cons hu hv⟩
  exact this.2

/-- A store, and what it knows of each meta. -/
structure St (fs : List (Option Ty)) (σ : Nat → Ty) : Prop where
  low : Low fs
  res : ∀ i, i < fs.length → Res fs (metaT i) (σ i)
  small : ∀ i, i < fs.length → nodes (σ i) ≤ 1000
  at_ : ∀ i, i < fs.length → SmallAt fs i

theorem res_own {fs : List (Option Ty)} {σ : Nat → Ty} (hr : ∀ i, i < fs.length → Res fs (metaT i) (σ i)) : ∀ t, Res fs t (sub fs.length σ t) := by
  intro t
  induction t using Ty.ind with
  | h k n l ih =>
  cases ho : ownN fs.length (.mk k n l)
  · rw [sub_not ho]
    refine .mk (.done (look_not (by rw [ownB_eq]; exact ho))) ?_
    simp only [Ty.kids]
    clear ho
    induction l with
    | nil => exact .nil
    | cons t r ihr => exact .cons (ih t (by simp)) (ihr fun t ht => ih t (by simp [ht]))
  · obtain ⟨i, hi, e⟩ := ownN_spec ho
    rw [e, sub_metaT hi]
    exact hr i hi

theorem St.all {fs : List (Option Ty)} {σ : Nat → Ty} (s : St fs σ) (t : Ty) : Res fs t (sub fs.length σ t) := res_own s.res t

theorem Res.step_inv {fs : List (Option Ty)} {t u v : Ty} (h : look fs t = some u) (hr : Res fs t v) : Res fs u v := by
  cases hr with
  | mk s l =>
    cases s with
    | done h' => rw [h] at h'; cases h'
    | step h' s' => rw [h] at h'; cases h'; exact .mk s' l

theorem St.cons {fs : List (Option Ty)} {σ : Nat → Ty} (s : St fs σ) : Cons fs σ := by
  intro i t hi
  have hlt : i < fs.length := (List.getElem?_eq_some_iff.1 hi).1
  have ho : ownB fs (metaT i) = true := by rw [ownB_eq]; exact ownN_metaT hlt
  have hl : look fs (metaT i) = some t := by rw [look_own ho]; simp [metaT, Ty.num, hi]
  exact (Res.step_inv hl (s.res i hlt)).det (s.all t)

open Classical in
theorem St.of {fs : List (Option Ty)} (hl : Low fs) (h : ∀ i, i < fs.length → SmallAt fs i) : ∃ σ, St fs σ := by
  have : ∀ i, ∃ u, i < fs.length → Res fs (metaT i) u ∧ nodes u ≤ 1000 := by
    intro i
    by_cases hi : i < fs.length
    · obtain ⟨m, hs, hm⟩ := h i hi
      obtain ⟨u, hu⟩ := size_res hs hm
      exact ⟨u, fun _ => ⟨hu, by have := res_nodes hu _ _ hs hm; omega⟩⟩
    · exact ⟨metaT 0, fun h => absurd h hi⟩
  refine ⟨fun i => (this i).choose, hl, fun i hi => ((this i).choose_spec hi).1, fun i hi => ((this i).choose_spec hi).2, h⟩

def Small (n : Nat) (σ : Nat → Ty) : Prop := ∀ i, i < n → nodes (σ i) ≤ 1000

theorem sub_nodes {n : Nat} {σ : Nat → Ty} (h : Small n σ) : ∀ t, nodes (sub n σ t) ≤ 1000 * nodes t := by
  intro t
  induction t using Ty.ind with
  | h k m l ih =>
  cases ho : ownN n (.mk k m l)
  · rw [sub_not ho]
    simp only [nodes, Ty.kids]
    have : nodesL (l.map (sub n σ)) ≤ 1000 * nodesL l := by
      clear ho
      induction l with
      | nil => simp [nodesL]
      | cons t r ihr =>
        have a := ih t (by simp)
        have b := ihr fun t ht => ih t (by simp [ht])
        simp only [List.map_cons, nodesL]
        omega
    omega
  · obtain ⟨i, hi, e⟩ := ownN_spec ho
    rw [e, sub_metaT hi]
    have := h i hi
    have := nodes_pos (metaT i)
    omega

theorem unif_complete {fs fs' : List (Option Ty)} {σ : Nat → Ty} {a b : Ty} {e : Int} (h : Unif fs a b e fs') (c : Cons fs σ) (sm : Small fs.length σ) (he : sub fs.length σ a = sub fs.length σ b) : e = 0 ∧ Cons fs' σ := by
  have hb : (nodes (sub fs.length σ a) : Int) ≤ reachN a b := by
    have := sub_nodes sm a
    unfold reachN
    omega
  cases h with
  | ok hj _ => exact ⟨rfl, (join_complete σ hj c he hb).2.1⟩
  | unlike hj => have := (join_complete σ hj c he hb).1; cases this
  | big hj hi hbig =>
    exfalso
    obtain ⟨_, c', _, hl⟩ := join_complete σ hj c he hb
    obtain ⟨m, hm, hgt⟩ := hbig
    have := size_le c' hm
    rw [hl, sub_metaT hi] at this
    have := sm _ hi
    omega

theorem unif_low {fs fs' : List (Option Ty)} {a b : Ty} {e : Int} (h : Unif fs a b e fs') : (Low fs → Low fs') ∧ Ext fs fs' ∧ (e ≠ 0 → fs' = fs) := by
  cases h with
  | ok hj _ => exact ⟨(join_low hj).1, (join_low hj).2, fun h => absurd rfl h⟩
  | unlike => exact ⟨id, Ext.refl _, fun _ => rfl⟩
  | big => exact ⟨id, Ext.refl _, fun _ => rfl⟩

/-- A store stays one. -/
theorem St.unif {fs fs' : List (Option Ty)} {σ : Nat → Ty} {a b : Ty} {e : Int} (s : St fs σ) (h : Unif fs a b e fs') : ∃ σ', St fs' σ' := by
  cases h with
  | ok hj hs =>
    obtain ⟨h1, h2⟩ := join_low hj
    exact St.of (h1 s.low) (by rw [h2.1]; exact hs)
  | unlike => exact ⟨σ, s⟩
  | big => exact ⟨σ, s⟩

theorem unif_sound {fs fs' : List (Option Ty)} {σ : Nat → Ty} {a b : Ty} (h : Unif fs a b 0 fs') (c : Cons fs' σ) : sub fs.length σ a = sub fs.length σ b := by
  cases h with
  | ok hj _ => exact join_sound σ hj rfl c

/-! ### Pairs, one behind the other -/

theorem play_complete {fs fs' : List (Option Ty)} {l : List (Ty × Ty)} {ok : Bool} {σ : Nat → Ty} (h : Play fs l ok fs') (c : Cons fs σ) (sm : Small fs.length σ) (he : ∀ p ∈ l, sub fs.length σ p.1 = sub fs.length σ p.2) : ok = true ∧ Cons fs' σ := by
  induction h with
  | nil => exact ⟨rfl, c⟩
  | stop hu hne => exact absurd (unif_complete hu c sm (he (_, _) List.mem_cons_self)).1 hne
  | @cons fs fs1 fs2 a b r ok hu _ ih =>
    have c1 := (unif_complete hu c sm (he (a, b) List.mem_cons_self)).2
    have hl := (unif_low hu).2.1.1
    exact ih c1 (by rw [hl]; exact sm) (by rw [hl]; exact fun p hp => he p (by simp [hp]))

theorem play_low {fs fs' : List (Option Ty)} {l : List (Ty × Ty)} {ok : Bool} (h : Play fs l ok fs') : Ext fs fs' ∧ ∀ σ, St fs σ → ∃ σ', St fs' σ' := by
  induction h with
  | nil => exact ⟨Ext.refl _, fun σ s => ⟨σ, s⟩⟩
  | stop hu _ => exact ⟨(unif_low hu).2.1, fun σ s => s.unif hu⟩
  | cons hu _ ih => exact ⟨(unif_low hu).2.1.trans ih.1, fun σ s => let ⟨σ1, s1⟩ := s.unif hu; ih.2 σ1 s1⟩

theorem play_sound {fs fs' : List (Option Ty)} {l : List (Ty × Ty)} {ok : Bool} {σ : Nat → Ty} (h : Play fs l ok fs') (ho : ok = true) (c : Cons fs' σ) : ∀ p ∈ l, sub fs.length σ p.1 = sub fs.length σ p.2 := by
  induction h with
  | nil => intro p hp; cases hp
  | stop => cases ho
  | @cons fs fs1 fs2 a b r ok hu hp ih =>
    intro p hm
    rcases List.mem_cons.1 hm with rfl | hm
    · exact unif_sound hu ((play_low hp).1.cons c)
    · have := ih ho c p hm
      rwa [(unif_low hu).2.1.1] at this

theorem St.start (n : Nat) : St (List.replicate n none) metaT := by
  have hn : ∀ (i : Nat) (t : Ty), (List.replicate n (none : Option Ty))[i]? = some (some t) → False := by
    intro i t hi
    rw [List.getElem?_replicate] at hi
    split at hi <;> cases hi
  have hs : ∀ i, Seen (List.replicate n none) (metaT i) (metaT i) := by
    intro i
    refine .done ?_
    cases hl : look (List.replicate n none) (metaT i) with
    | none => rfl
    | some u => exact (hn _ _ (look_some hl).2).elim
  exact ⟨fun i t hi => (hn i t hi).elim, fun i _ => .mk (hs i) .nil, fun i _ => by simp [metaT, nodes, nodesL], fun i _ => ⟨1, .mk (hs i) .nil, by omega⟩⟩

/-- Two stores that go with each other's types know the same types. -/
theorem St.same {fs gs : List (Option Ty)} {σ τ : Nat → Ty} (s : St fs σ) (u : St gs τ) (hlen : gs.length = fs.length) (hgs : Cons gs σ) (hfs : Cons fs τ) : ∀ i, i < fs.length → σ i = τ i := by
  have lowest : ∀ {hs : List (Option Ty)} {t v : Ty}, Low hs → Seen hs t v → ∀ i j : Nat, t = metaT i → v = metaT j → ownB hs v = true → j ≤ i := by
    intro hs t v hl h
    induction h with
    | done => intro i j h1 h2 _; rw [h1] at h2; simp [metaT] at h2; omega
    | @step t u v h1 hs2 ih =>
      intro i j e1 e2 ho
      obtain ⟨o1, g1⟩ := look_some h1
      have : ownB hs u = true := by
        cases hu : ownB hs u
        · cases hs2 with
          | done => rw [hu] at ho; cases ho
          | step h' _ => rw [(look_some h').1] at hu; cases hu
        · rfl
      obtain ⟨c, hc, e3⟩ := ownN_spec (n := hs.length) (by rwa [← ownB_eq])
      have := hl _ _ g1 this
      rw [e1, e3] at this
      simp [metaT, Ty.num] at this
      have := ih c j e3 e2 ho
      omega
  have least : ∀ {hs : List (Option Ty)} {i j : Nat}, Low hs → j < hs.length → Res hs (metaT i) (metaT j) → j ≤ i := by
    intro hs i j hl hj hr
    cases hr with
    | mk s1 l1 =>
      cases l1 with
      | nil => exact lowest hl s1 i j rfl rfl (by rw [ownB_eq]; exact ownN_metaT hj)
  -- a meta that stands for itself in the one does so in the other
  have root : ∀ j, j < fs.length → σ j = metaT j → τ j = metaT j := by
    intro j hj hs
    have e1 : sub fs.length σ (τ j) = metaT j := by
      rw [← hs]
      have := res_sub hgs (u.res j (by omega))
      rw [hlen, sub_metaT hj] at this
      exact this.symm
    cases ho : ownN fs.length (τ j)
    · rw [sub_not ho] at e1
      exfalso
      have h2 := ownN_metaT hj
      rw [← e1] at h2
      rw [ownN_same (l' := (τ j).kids) (by simp)] at h2
      have : Ty.mk (τ j).kind (τ j).num (τ j).kids = τ j := by cases τ j; rfl
      rw [this, ho] at h2
      cases h2
    · obtain ⟨k, hk, e⟩ := ownN_spec ho
      rw [e, sub_metaT hk] at e1
      have a := least s.low hj (e1 ▸ s.res k hk)
      have b := least u.low (by omega : k < gs.length) (e ▸ u.res j (by omega))
      have : j = k := by omega
      subst this
      exact e
  have fix : ∀ t v, Res fs t v → sub fs.length τ v = v := by
    intro t v h
    refine Res.rec (fs := fs) (motive_1 := fun t v _ => sub fs.length τ v = v) (motive_2 := fun _ l' _ => l'.map (sub fs.length τ) = l') ?_ ?_ ?_ h
    · intro t k n l l' s1 hl ih
      cases ho : ownN fs.length (.mk k n l')
      · rw [sub_not ho]
        simp only [Ty.kind, Ty.num, Ty.kids, ih]
      · obtain ⟨j, hj, e⟩ := ownN_spec ho
        have hl0 : l' = [] := by simp [metaT] at e; exact e.2.2
        subst hl0
        cases hl
        rw [e] at s1 ⊢
        rw [sub_metaT hj]
        refine root j hj ((s.res j hj).det (.mk (k := 7) (n := j) (l := []) (.done s1.root) .nil))
    · rfl
    · intro t t' r r' _ _ i1 i2
      simp [i1, i2]
  intro i hi
  have e1 := res_sub hfs (s.res i hi)
  rw [sub_metaT hi, fix _ _ (s.res i hi)] at e1
  exact e1.symm

/-- What Resolve tells. -/
theorem St.tell {fs : List (Option Ty)} {σ : Nat → Ty} (s : St fs σ) {x t : Ty} {e : Int} (h : Tell fs x t e) : (nodes (sub fs.length σ x) ≤ 1000 ∧ t = sub fs.length σ x ∧ e = 0) ∨ (1000 < nodes (sub fs.length σ x) ∧ t = .mk 0 0 [] ∧ e = 3) := by
  obtain ⟨m, hm, hr⟩ := h
  have hle := size_le s.cons hm
  rcases hr with ⟨h1, h2, h3⟩ | ⟨h1, h2, h3⟩
  · have := res_nodes h2 _ _ hm h1
    have e := h2.det (s.all x)
    rw [← e]
    exact .inl ⟨by omega, rfl, h3⟩
  · exact .inr ⟨by omega, h2, h3⟩

theorem St.tellMeta {fs : List (Option Ty)} {σ : Nat → Ty} (s : St fs σ) {i : Nat} (hi : i < fs.length) {t : Ty} {e : Int} (h : Tell fs (metaT i) t e) : t = σ i ∧ e = 0 := by
  have hs := s.small i hi
  have := s.tell h
  rw [sub_metaT hi] at this
  rcases this with ⟨_, h1, h2⟩ | ⟨h1, _⟩
  · exact ⟨h1, h2⟩
  · omega

theorem St.idem {fs : List (Option Ty)} {σ : Nat → Ty} (s : St fs σ) {i : Nat} (hi : i < fs.length) : sub fs.length σ (σ i) = σ i := by
  have := res_sub s.cons (s.res i hi)
  rw [sub_metaT hi] at this
  exact this.symm

end Go.Vt.Try
