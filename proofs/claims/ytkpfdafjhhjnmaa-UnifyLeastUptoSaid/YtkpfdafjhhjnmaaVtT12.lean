/- Contracts of functions of this seat, at the level of values: each holds for all arguments that it names. -/
import Derived.Test.YtkpfdafjhhjnmaaVtT11
set_option maxRecDepth 100000
set_option linter.unusedSimpArgs false
namespace Go.Vt.Try
open Go.Proofs

theorem sizeL_le {fs : List (Option Ty)} {l : List Ty} {n m : Nat} (h : SizeL fs l n m) : n ≤ m := by
  cases h with
  | nil => exact Nat.le_refl _
  | stop => exact Nat.le_refl _
  | cons _ s l =>
    have h1 := (sizeR_le s).1
    have : ∀ {l : List Ty} {n m : Nat}, SizeL fs l n m → n ≤ m := fun h => by
      refine SizeL.rec (fs := fs) (motive_1 := fun _ _ _ _ => True) (motive_2 := fun _ n m _ => n ≤ m) ?_ ?_ ?_ ?_ h
      · intros; trivial
      · intro n; exact Nat.le_refl _
      · intro t r n _; exact Nat.le_refl _
      · intro t r n m k _ s _ _ i2
        have := (sizeR_le s).1
        omega
    have := this l
    omega

/-- A resolved type has as many nodes as its size says. -/
theorem res_nodes {fs : List (Option Ty)} {t t' : Ty} (h : Res fs t t') : ∀ n m, SizeR fs t n m → m ≤ 1000 → m = n + nodes t' := by
  refine Res.rec (fs := fs) (motive_1 := fun t t' _ => ∀ n m, SizeR fs t n m → m ≤ 1000 → m = n + nodes t') (motive_2 := fun l l' _ => ∀ n m, SizeL fs l n m → m ≤ 1000 → m = n + nodesL l') ?_ ?_ ?_ h
  · intro t k c l l' s _ ih n m hs hm
    cases hs with
    | mk s2 l2 =>
      have := s.det s2
      subst this
      have := ih _ _ l2 hm
      simp only [nodes]
      omega
  · intro n m hs _; cases hs; simp [nodesL]
  · intro t t' r r' _ _ i1 i2 n m hs hm
    cases hs with
    | stop h => omega
    | cons h1 s1 l1 =>
      have hle := sizeL_le l1
      have a := i1 _ _ s1 (by omega)
      have b := i2 _ _ l1 hm
      simp only [nodesL]
      omega

def fineOps (l : List OpS) : Prop := l.length < 1000000 ∧ ∀ o ∈ l, nodes o.a < 1099511627776 ∧ nodes o.b < 1099511627776

/-- What Resolve tells of a type, errors and all. -/
def Tell (fs : List (Option Ty)) (x t : Ty) (e : Int) : Prop := ∃ m, SizeR fs x 0 m ∧ ((m ≤ 1000 ∧ Res fs x t ∧ e = 0) ∨ (1000 < m ∧ t = .mk 0 0 [] ∧ e = 3))

theorem Tell.det {fs : List (Option Ty)} {x t t' : Ty} {e e' : Int} (h : Tell fs x t e) (h' : Tell fs x t' e') : t = t' ∧ e = e' := by
  obtain ⟨m, a, b⟩ := h
  obtain ⟨m', a', b'⟩ := h'
  have := a.det a'
  subst this
  rcases b with ⟨b1, b2, b3⟩ | ⟨b1, b2, b3⟩ <;> rcases b' with ⟨c1, c2, c3⟩ | ⟨c1, c2, c3⟩
  · exact ⟨b2.det c2, b3.trans c3.symm⟩
  · omega
  · omega
  · exact ⟨b2.trans c2.symm, b3.trans c3.symm⟩

theorem Tell.nodes {fs : List (Option Ty)} {x t : Ty} {e : Int} (h : Tell fs x t e) : Try.nodes t ≤ 1000 := by
  obtain ⟨m, a, b⟩ := h
  rcases b with ⟨b1, b2, _⟩ | ⟨_, rfl, _⟩
  · have := res_nodes b2 _ _ a b1; omega
  · simp [Try.nodes, nodesL]

/-- Resolve, in one word. -/
theorem vc_tell (fs : List (Option Ty)) (ver : Nat) (hch : Chained fs) (hfi : Fine fs) (t : Ty) (ht : Try.nodes t < 1099511627776) : VC Try.prog 10 [.one (.ptr 0 0), tyV t] (stH fs ver) fun r h' => ∃ t' e, r = .tup [tyV t', .one (.d (.int .i64 e))] ∧ h' = stH fs ver ∧ Tell fs t t' e :=
  (vc_resolve fs ver hch hfi t ht).mono fun r h' ⟨hh, m, hm, hr⟩ => by
    rcases hr with ⟨h1, t', h2, h3⟩ | ⟨h1, h2⟩
    · exact ⟨t', 0, h3, hh, m, hm, .inl ⟨h1, h2, rfl⟩⟩
    · exact ⟨_, 3, h2, hh, m, hm, .inr ⟨h1, rfl, rfl⟩⟩

end Go.Vt.Try
