/- Plain lemmas on lists of types, and the laws of order. -/
import Derived.Test.YtkpfdafjhhjnmaaVtL1
set_option maxRecDepth 100000
set_option linter.unusedSimpArgs false
namespace Go.Vt.Try
open Go.Proofs

theorem encs_append (a b : List Ty) : enc.encs (a ++ b) = enc.encs a ++ enc.encs b := by
  induction a with
  | nil => rfl
  | cons x r ih => simp [enc.encs, ih]

theorem encs_mem {l : List Ty} {e : List D} (h : e ∈ enc.encs l) : e.length = 3 := by
  obtain ⟨i, hi⟩ := List.getElem?_of_mem h
  rw [encs_get] at hi
  simp at hi
  obtain ⟨a, _, rfl⟩ := hi
  rw [encE]; rfl

theorem meta_nodes (i : Nat) : nodes (metaT i) < 1099511627776 := by simp [metaT, nodes, nodesL]

theorem own_push {fs : List (Option Ty)} {i : Nat} {u : Ty} (h : (fs ++ [none])[i]? = some (some u)) : fs[i]? = some (some u) := by
  rcases Nat.lt_or_ge i fs.length with h' | h'
  · rwa [List.getElem?_append_left h'] at h
  · rw [List.getElem?_append_right h'] at h
    cases e : i - fs.length with
    | zero => rw [e] at h; cases h
    | succ k => rw [e] at h; cases h

theorem chained_push {fs : List (Option Ty)} (h : Chained fs) : Chained (fs ++ [none]) := by
  obtain ⟨ρ, hρ⟩ := h
  refine ⟨fun j => if j < fs.length then ρ j + 1 else 0, fun i u hi ho => ?_⟩
  have hi' := own_push hi
  have hlt : i < fs.length := (List.getElem?_eq_some_iff.1 hi').1
  obtain ⟨h1, h2, h3, h4⟩ := own_spec ho
  simp only [hlt, if_true]
  split
  · rename_i hn
    have : ownB fs u = true := by simp [ownB, h1, h4]; omega
    have := hρ i u hi' this
    omega
  · omega

theorem fine_push {fs : List (Option Ty)} (h : Fine fs) : Fine (fs ++ [none]) := fun i t hi => h i t (own_push hi)

theorem replayed_st {n : Nat} {l : List (Ty × Ty)} {fs : List (Option Ty)} {ok : Bool} (h : Play (List.replicate n none) l ok fs) : ∃ σ, St fs σ := (play_low h).2 _ (St.start n)

theorem snoc_get {α : Type} {l : List α} {x u : α} {j : Nat} (h : (l ++ [x])[j]? = some u) : l[j]? = some u ∨ (j = l.length ∧ u = x) := by
  rcases Nat.lt_or_ge j l.length with h' | h'
  · rw [List.getElem?_append_left h'] at h; exact .inl h
  · rw [List.getElem?_append_right h'] at h
    have : j = l.length := by
      rcases Nat.lt_or_ge l.length j with h2 | h2
      · rw [List.getElem?_eq_none (by simp; omega)] at h; cases h
      · omega
    subst this
    simp at h
    exact .inr ⟨rfl, h.symm⟩

theorem cons_start (n : Nat) (σ : Nat → Ty) : Cons (List.replicate n none) σ := by
  intro i t hi
  rw [List.getElem?_replicate] at hi
  split at hi <;> cases hi

theorem pairs_mem {l : List OpS} {b t b' : Bool} {p : Ty × Ty} (h : p ∈ pairsOf l b t) : (p ∈ pairsOf l b' t) ∧ ((p.2, p.1) ∈ pairsOf l b' (!t)) := by
  unfold pairsOf at *
  obtain ⟨o, ho, rfl⟩ := List.mem_map.1 h
  have ho' : o ∈ (if b' = true then l.reverse else l) := by
    have : o ∈ l := by cases b <;> simpa using ho
    cases b' <;> simpa using this
  refine ⟨List.mem_map.2 ⟨o, ho', rfl⟩, List.mem_map.2 ⟨o, ho', ?_⟩⟩
  cases t <;> rfl

theorem St.congr {fs : List (Option Ty)} {σ τ : Nat → Ty} (s : St fs σ) (h : ∀ i, i < fs.length → σ i = τ i) : St fs τ :=
  ⟨s.low, fun i hi => by rw [← h i hi]; exact s.res i hi, fun i hi => by rw [← h i hi]; exact s.small i hi, s.at_⟩

theorem order_half {n : Nat} {l : List OpS} {ok ok2 : Bool} {fs gs : List (Option Ty)} {σ : Nat → Ty} {b t : Bool} (hfl : fs.length = n) (h1 : Play (List.replicate n none) (pairsOf l b t) ok fs) (h2 : Play (List.replicate n none) (pairsOf l (!b) (!t)) ok2 gs) (s : St fs σ) (ho : ok = true) : ok2 = true ∧ Cons gs σ := by
  have hp := play_sound h1 ho s.cons
  refine play_complete h2 (cons_start n σ) (fun i hi => s.small i (by rw [hfl]; simpa using hi)) fun p hm => ?_
  have := (pairs_mem (b' := b) hm).2
  rw [Bool.not_not] at this
  exact (hp _ this).symm

theorem order_law {n : Nat} {l : List OpS} {ok ok2 : Bool} {fs gs : List (Option Ty)} {σ τ : Nat → Ty} (hfl : fs.length = n) (hgl : gs.length = n) (h1 : Play (List.replicate n none) (pairsOf l false false) ok fs) (h2 : Play (List.replicate n none) (pairsOf l true true) ok2 gs)
    (s : St fs σ) (u : St gs τ) : ok = ok2 ∧ (ok = true → ∀ i, i < n → σ i = τ i) := by
  constructor
  · cases ok with
    | true => exact (order_half hfl h1 h2 s rfl).1.symm
    | false =>
      cases ok2 with
      | false => rfl
      | true => exact (order_half hgl h2 h1 u rfl).1
  · rintro rfl i hi
    obtain ⟨rfl, c1⟩ := order_half hfl h1 h2 s rfl
    obtain ⟨_, c2⟩ := order_half hgl h2 h1 u rfl
    exact s.same u (by omega) c1 c2 i (by omega)

/-- To make a meta the same as its own type changes nothing of what is known. -/
theorem St.again {fs fs' : List (Option Ty)} {σ : Nat → Ty} {k : Nat} {e : Int} (s : St fs σ) (hk : k < fs.length) (h : Unif fs (metaT k) (σ k) e fs') : e = 0 ∧ St fs' σ ∧ fs'.length = fs.length := by
  obtain ⟨h1, h2⟩ := unif_complete h s.cons s.small (by rw [sub_metaT hk, s.idem hk])
  obtain ⟨τ, hτ⟩ := s.unif h
  have hx := (unif_low h).2.1
  have hs := s.same hτ hx.1 h2 (hx.cons hτ.cons)
  exact ⟨h1, hτ.congr fun i hi => (hs i (by rw [← hx.1]; exact hi)).symm, hx.1⟩

end Go.Vt.Try
