/- Structures that differ in their bound stamps alone have one form (plain law). -/
import Derived.Test.YtladjgdhpfcmjaaGreatDoorVtD13
set_option maxRecDepth 100000
namespace Go.Vt.Al


def lastIdx : List Int → Int → Option Nat
  | [], _ => none
  | a :: l, n => match lastIdx l n with
    | some i => some (i + 1)
    | none => if a = n then some 0 else none

theorem lastIdx_none {l : List Int} {n : Int} : lastIdx l n = none ↔ n ∉ l := by
  induction l with
  | nil => simp [lastIdx]
  | cons a l ih =>
    simp only [lastIdx]
    cases h : lastIdx l n with
    | some i =>
      have : ¬ (n ∉ l) := fun hn => by rw [ih.2 hn] at h; cases h
      simp only [reduceCtorEq, List.mem_cons, false_iff]
      exact fun hn => this fun hm => hn (.inr hm)
    | none =>
      have hn := ih.1 h
      simp only [ite_eq_right_iff, reduceCtorEq, imp_false, List.mem_cons, not_or]
      exact ⟨fun hne => ⟨fun e => hne e.symm, hn⟩, fun ⟨e, _⟩ g => e g.symm⟩

theorem lastIdx_lt {l : List Int} {n : Int} {i : Nat} (h : lastIdx l n = some i) : i < l.length := by
  induction l generalizing i with
  | nil => cases h
  | cons a l ih =>
    simp only [lastIdx] at h
    cases h1 : lastIdx l n with
    | some j => rw [h1] at h; cases h; have := ih h1; simp; omega
    | none =>
      rw [h1] at h
      simp only [Option.ite_none_right_eq_some] at h
      obtain ⟨_, h⟩ := h
      cases h
      simp

theorem lastIdx_append {l r : List Int} {n : Int} : lastIdx (l ++ r) n = match lastIdx r n with | some i => some (l.length + i) | none => lastIdx l n := by
  induction l with
  | nil => simp only [List.nil_append, lastIdx, List.length_nil, Nat.zero_add]; cases lastIdx r n <;> rfl
  | cons a l ih =>
    simp only [List.cons_append, lastIdx, ih, List.length_cons]
    cases lastIdx r n with
    | some i => simp only [Option.some.injEq]; omega
    | none => rfl

theorem lastIdx_iff {l : List Int} {n : Int} {i : Nat} : lastIdx l n = some i ↔ l[i]? = some n ∧ ∀ j, i < j → l[j]? ≠ some n := by
  induction l generalizing i with
  | nil => simp [lastIdx]
  | cons a l ih =>
    simp only [lastIdx]
    cases h1 : lastIdx l n with
    | some k =>
      have hk := ih.1 h1
      constructor
      · intro h
        cases h
        refine ⟨by simpa using hk.1, fun j hj => ?_⟩
        cases j with
        | zero => omega
        | succ j => simpa using hk.2 j (by omega)
      · rintro ⟨e, hl⟩
        congr 1
        cases i with
        | zero => exact absurd (by simpa using hk.1) (hl (k + 1) (by omega))
        | succ i =>
          have : lastIdx l n = some i := ih.2 ⟨by simpa using e, fun j hj => by simpa using hl (j + 1) (by omega)⟩
          rw [h1] at this
          cases this
          rfl
    | none =>
      have hn := lastIdx_none.1 h1
      constructor
      · intro h
        simp only [Option.ite_none_right_eq_some] at h
        obtain ⟨rfl, h⟩ := h
        cases h
        refine ⟨by simp, fun j hj => ?_⟩
        cases j with
        | zero => omega
        | succ j => intro hc; exact hn (List.mem_of_getElem? (by simpa using hc))
      · rintro ⟨e, _⟩
        cases i with
        | zero =>
          have : a = n := by simpa using e
          rw [if_pos this]
        | succ i => exact absurd (List.mem_of_getElem? (by simpa using e)) hn

def lf (A B : List Int) (n m : Int) : Prop := lastIdx A n = lastIdx B m ∧ (lastIdx A n = none → n = m)


def kindStamp : Int := 6

def alTy (A B : List Int) : Ty → Ty → Prop
  | .mk k n l, .mk k' n' l' => k = k' ∧ (if k = kindStamp then lf A B n n' else n = n') ∧ go l l'
  where
  go : List Ty → List Ty → Prop
    | [], l' => l' = []
    | t :: r, l' => ∃ t' r', l' = t' :: r' ∧ alTy A B t t' ∧ go r r'

def all2 {α β : Type} (R : α → β → Prop) : List α → List β → Prop
  | [], [] => True
  | a :: l, b :: r => R a b ∧ all2 R l r
  | _, _ => False

def alCt (A B : List Int) (c c' : Ct) : Prop := c.name = c'.name ∧ alTy.go A B c.args c'.args
def alTym (A B : List Int) (m m' : Tym) : Prop := m.name = m'.name ∧ alTy A B m.t m'.t ∧ all2 (alCt A B) m.cts m'.cts
def alVam (A B : List Int) (m m' : Vam) : Prop := m.name = m'.name ∧ m.s.gens = m'.s.gens ∧ alTy A B m.s.t m'.s.t

def alSt (A B : List Int) : Stx → Stx → Prop
  | .mk ts vs ss fs gs, .mk ts' vs' ss' fs' gs' => all2 (alTym A B) ts ts' ∧ all2 (alVam A B) vs vs' ∧ goS A B ss ss' ∧ goF A B fs fs' ∧ goG A B gs gs'
  where
  goS (A B : List Int) : List (ByteArray × Stx) → List (ByteArray × Stx) → Prop
    | [], r => r = []
    | (s, x) :: l, r => ∃ x' r', r = (s, x') :: r' ∧ alSt A B x x' ∧ goS A B l r'
  goF (A B : List Int) : List (ByteArray × List Int × Stx × List Int × Stx) → List (ByteArray × List Int × Stx × List Int × Stx) → Prop
    | [], r => r = []
    | (s, p, x, q, y) :: l, r => ∃ p' x' q' y' r', r = (s, p', x', q', y') :: r' ∧ p.length = p'.length ∧ q.length = q'.length ∧ alSt (A ++ p) (B ++ p') x x' ∧ alSt (A ++ p ++ q) (B ++ p' ++ q') y y' ∧ goF A B l r'
  goG (A B : List Int) : List (ByteArray × List Int × Stx) → List (ByteArray × List Int × Stx) → Prop
    | [], r => r = []
    | (s, q, y) :: l, r => ∃ q' y' r', r = (s, q', y') :: r' ∧ q.length = q'.length ∧ alSt (A ++ q) (B ++ q') y y' ∧ goG A B l r'

end Go.Vt.Al
set_option maxRecDepth 100000
namespace Go.Vt.Al


def bub (n : Int) : List Int → List Int
  | [] => [n]
  | y :: r => if n < y then y :: bub n r else n :: y :: r
def putF (l : List Int) (n : Int) : List Int := if n ∈ l then l else (bub n l.reverse).reverse

theorem mem_bub {n m : Int} : ∀ {l : List Int}, m ∈ bub n l ↔ m = n ∨ m ∈ l
  | [] => by simp [bub]
  | y :: r => by
    unfold bub
    split
    · simp only [List.mem_cons, mem_bub (l := r)]
      constructor
      · rintro (h | h | h) <;> simp [h]
      · rintro (h | h | h) <;> simp [h]
    · simp only [List.mem_cons]
theorem mem_putF {l : List Int} {n m : Int} : m ∈ putF l n ↔ m = n ∨ m ∈ l := by
  unfold putF
  split
  · rename_i h
    exact ⟨.inr, fun g => g.elim (fun e => e ▸ h) id⟩
  · simp [mem_bub]

def skipF (tk : List Int) (k : Int) : Int := if _h : k ∈ tk then skipF (tk.erase k) (k + 1) else k
  termination_by tk.length
  decreasing_by
  rw [List.length_erase_of_mem _h]
  have := List.length_pos_of_mem _h
  omega

theorem skipF_congr : ∀ (n : Nat) {t u : List Int} {k : Int}, t.length ≤ n → (∀ i, k ≤ i → (i ∈ t ↔ i ∈ u)) → skipF t k = skipF u k := by
  intro n
  induction n with
  | zero =>
    intro t u k hn h
    have : t = [] := List.length_eq_zero_iff.1 (by omega)
    subst this
    have hu : k ∉ u := fun g => by have := (h k (Int.le_refl _)).2 g; cases this
    rw [skipF, dif_neg (by simp), skipF, dif_neg hu]
  | succ n ih =>
    intro t u k hn h
    by_cases hk : k ∈ t
    · have hu := (h k (Int.le_refl _)).1 hk
      rw [skipF, dif_pos hk]
      rw [skipF.eq_def u k, dif_pos hu]
      refine ih (by rw [List.length_erase_of_mem hk]; have := List.length_pos_of_mem hk; omega) fun i hi => ?_
      rw [List.mem_erase_of_ne (by omega), List.mem_erase_of_ne (by omega)]
      exact h i (by omega)
    · have hu : k ∉ u := fun g => hk ((h k (Int.le_refl _)).2 g)
      rw [skipF, dif_neg hk, skipF, dif_neg hu]

theorem skipF_step {t : List Int} {k : Int} (h : k ∈ t) : skipF t k = skipF t (k + 1) := by
  rw [skipF, dif_pos h]
  exact skipF_congr _ (Nat.le_refl _) fun i hi => List.mem_erase_of_ne (by omega)
theorem skipF_stop {t : List Int} {k : Int} (h : k ∉ t) : skipF t k = k := by rw [skipF, dif_neg h]


structure WS where
  nums : List Int
  next : Int
  free : List Int

def stampF (tk : List Int) (sb : Int → Int) (A : List Int) (n : Int) (w : WS) : Int × WS :=
  match lastIdx A n with
  | some i => if w.nums.getD i 0 < 0 then (skipF tk w.next, ⟨w.nums.set i (skipF tk w.next), skipF tk w.next + 1, w.free⟩) else (w.nums.getD i 0, w)
  | none => (sb n, ⟨w.nums, w.next, putF w.free n⟩)

def mapW {α β : Type} (f : α → WS → β × WS) : List α → WS → List β × WS
  | [], w => ([], w)
  | a :: l, w => ((f a w).1 :: (mapW f l (f a w).2).1, (mapW f l (f a w).2).2)

def tyF (tk : List Int) (sb : Int → Int) (A : List Int) : Ty → WS → Ty × WS
  | .mk k n l, w => (.mk k (if k = kindStamp then (stampF tk sb A n w).1 else n) (go l (if k = kindStamp then (stampF tk sb A n w).2 else w)).1, (go l (if k = kindStamp then (stampF tk sb A n w).2 else w)).2)
  where
  go : List Ty → WS → List Ty × WS
    | [], w => ([], w)
    | t :: r, w => ((tyF tk sb A t w).1 :: (go r (tyF tk sb A t w).2).1, (go r (tyF tk sb A t w).2).2)

def ctF (tk : List Int) (sb : Int → Int) (A : List Int) (c : Ct) (w : WS) : Ct × WS := (⟨c.name, (tyF.go tk sb A c.args w).1⟩, (tyF.go tk sb A c.args w).2)
def tymF (tk : List Int) (sb : Int → Int) (A : List Int) (m : Tym) (w : WS) : Tym × WS := (⟨m.name, (tyF tk sb A m.t w).1, (mapW (ctF tk sb A) m.cts (tyF tk sb A m.t w).2).1⟩, (mapW (ctF tk sb A) m.cts (tyF tk sb A m.t w).2).2)
def vamF (tk : List Int) (sb : Int → Int) (A : List Int) (m : Vam) (w : WS) : Vam × WS := (⟨m.name, ⟨m.s.gens, (tyF tk sb A m.s.t w).1⟩⟩, (tyF tk sb A m.s.t w).2)

def enterF (n : Nat) (w : WS) : WS := { w with nums := w.nums ++ List.replicate n (-1) }
def leaveF (n : Nat) (w : WS) : WS := { w with nums := w.nums.take n }
def usedF (l : List Int) : List Int := l.foldl (fun out k => if 0 ≤ k then putF out k else out) []

def strF (tk : List Int) (sb : Int → Int) (A : List Int) : Stx → WS → Stx × WS
  | .mk ts vs ss fs gs, w =>
    let a := mapW (tymF tk sb A) ts w
    let b := mapW (vamF tk sb A) vs a.2
    let c := goS A ss b.2
    let d := goF A fs c.2
    let e := goG A gs d.2
    (.mk a.1 b.1 c.1 d.1 e.1, e.2)
  where
  goS (A : List Int) : List (ByteArray × Stx) → WS → List (ByteArray × Stx) × WS
    | [], w => ([], w)
    | (s, x) :: l, w =>
      let a := strF tk sb A x w
      let b := goS A l a.2
      ((s, a.1) :: b.1, b.2)
  goF (A : List Int) : List (ByteArray × List Int × Stx × List Int × Stx) → WS → List (ByteArray × List Int × Stx × List Int × Stx) × WS
    | [], w => ([], w)
    | (s, p, x, q, y) :: l, w =>
      let a := strF tk sb (A ++ p) x (enterF p.length w)
      let c := strF tk sb (A ++ p ++ q) y (enterF q.length a.2)
      let v := leaveF (A.length + p.length) c.2
      let b := goF A l (leaveF A.length v)
      ((s, usedF (v.nums.drop A.length), a.1, usedF (c.2.nums.drop (A.length + p.length)), c.1) :: b.1, b.2)
  goG (A : List Int) : List (ByteArray × List Int × Stx) → WS → List (ByteArray × List Int × Stx) × WS
    | [], w => ([], w)
    | (s, q, y) :: l, w =>
      let c := strF tk sb (A ++ q) y (enterF q.length w)
      let b := goG A l (leaveF A.length c.2)
      ((s, usedF (c.2.nums.drop A.length), c.1) :: b.1, b.2)

def absF (tk : List Int) (sb : Int → Int) (A : List Int) (a : List Int × Stx) (w : WS) : (List Int × Stx) × WS :=
  ((usedF ((strF tk sb (A ++ a.1) a.2 (enterF a.1.length w)).2.nums.drop A.length), (strF tk sb (A ++ a.1) a.2 (enterF a.1.length w)).1), leaveF A.length (strF tk sb (A ++ a.1) a.2 (enterF a.1.length w)).2)

def w0 : WS := ⟨[], 0, []⟩
def freeF (a : List Int × Stx) : List Int := (absF [] id [] a w0).2.free


def insR {α : Type} (lt : ByteArray → ByteArray → Bool) (nm : α → ByteArray) (x : α) : List α → List α
  | [] => [x]
  | y :: r => if lt (nm x) (nm y) = true then y :: insR lt nm x r else x :: y :: r
def sortL {α : Type} (lt : ByteArray → ByteArray → Bool) (nm : α → ByteArray) (l : List α) : List α := (l.foldl (fun acc x => insR lt nm x acc) []).reverse

def sortSt (lt : ByteArray → ByteArray → Bool) : Stx → Stx
  | .mk ts vs ss fs gs => .mk (sortL lt (·.name) ts) (sortL lt (·.name) vs) (sortL lt (·.1) (goS ss)) (sortL lt (·.1) (goF fs)) (sortL lt (·.1) (goG gs))
  where
  goS : List (ByteArray × Stx) → List (ByteArray × Stx)
    | [] => []
    | (s, x) :: l => (s, sortSt lt x) :: goS l
  goF : List (ByteArray × List Int × Stx × List Int × Stx) → List (ByteArray × List Int × Stx × List Int × Stx)
    | [] => []
    | (s, p, x, q, y) :: l => (s, p, sortSt lt x, q, sortSt lt y) :: goF l
  goG : List (ByteArray × List Int × Stx) → List (ByteArray × List Int × Stx)
    | [] => []
    | (s, q, y) :: l => (s, q, sortSt lt y) :: goG l

def canonF (lt : ByteArray → ByteArray → Bool) (a : List Int × Stx) : List Int × Stx := (absF (freeF a) id [] (a.1, sortSt lt a.2) w0).1


section
variable {tk : List Int} {sb : Int → Int} {A B : List Int}

theorem al_stamp {n m : Int} (h : lf A B n m) (w : WS) : stampF tk sb A n w = stampF tk sb B m w := by
  unfold stampF
  rw [← h.1]
  cases e : lastIdx A n with
  | some i => rfl
  | none => rw [h.2 e]

theorem al_ty : ∀ (t t' : Ty), alTy A B t t' → ∀ w, tyF tk sb A t w = tyF tk sb B t' w := by
  intro t
  induction t using Ty.ind with
  | h k n l ih =>
  rintro ⟨k', n', l'⟩ ⟨rfl, hn, hl⟩ w
  have hg : ∀ (l : List Ty), (∀ t ∈ l, ∀ t', alTy A B t t' → ∀ w, tyF tk sb A t w = tyF tk sb B t' w) → ∀ l', alTy.go A B l l' → ∀ w, tyF.go tk sb A l w = tyF.go tk sb B l' w := by
    intro l
    induction l with
    | nil => rintro _ _ h w; cases h; rfl
    | cons t r ih2 =>
      rintro hi _ ⟨t', r', rfl, h1, h2⟩ w
      simp only [tyF.go, hi t (by simp) t' h1 w, ih2 (fun t ht => hi t (by simp [ht])) r' h2]
  simp only [tyF]
  by_cases hk : k = kindStamp
  · rw [if_pos hk] at hn
    simp only [hk, if_true, al_stamp hn w, hg l ih l' hl]
  · rw [if_neg hk] at hn
    simp only [hk, if_false, hn, hg l ih l' hl]

theorem al_tys : ∀ (l l' : List Ty), alTy.go A B l l' → ∀ w, tyF.go tk sb A l w = tyF.go tk sb B l' w
  | [], _, h, w => by cases h; rfl
  | t :: r, _, ⟨t', r', rfl, h1, h2⟩, w => by simp only [tyF.go, al_ty t t' h1 w, al_tys r r' h2]

theorem al_map {α β : Type} {f g : α → WS → β × WS} {R : α → α → Prop} (hf : ∀ a b, R a b → ∀ w, f a w = g b w) : ∀ (l r : List α), all2 R l r → ∀ w, mapW f l w = mapW g r w
  | [], [], _, w => rfl
  | a :: l, b :: r, ⟨h1, h2⟩, w => by simp only [mapW, hf a b h1 w, al_map hf l r h2]
  | [], _ :: _, h, _ => h.elim
  | _ :: _, [], h, _ => h.elim

theorem al_ct (c c' : Ct) (h : alCt A B c c') (w : WS) : ctF tk sb A c w = ctF tk sb B c' w := by
  simp only [ctF, al_tys _ _ h.2 w, h.1]
theorem al_tym (m m' : Tym) (h : alTym A B m m') (w : WS) : tymF tk sb A m w = tymF tk sb B m' w := by
  simp only [tymF, al_ty _ _ h.2.1 w, h.1, al_map al_ct _ _ h.2.2]
theorem al_vam (m m' : Vam) (h : alVam A B m m') (w : WS) : vamF tk sb A m w = vamF tk sb B m' w := by
  simp only [vamF, al_ty _ _ h.2.2 w, h.1, h.2.1]
end

theorem al_st (tk : List Int) (sb : Int → Int) : ∀ (s s' : Stx) (A B : List Int), A.length = B.length → alSt A B s s' → ∀ w, strF tk sb A s w = strF tk sb B s' w := by
  intro s
  induction s using Stx.ind with
  | h ts vs ss fs gs i1 i2 i3 =>
  rintro ⟨ts', vs', ss', fs', gs'⟩ A B hAB hst w
  rw [alSt] at hst
  obtain ⟨h1, h2, h3, h4, h5⟩ := hst
  have gS : ∀ (l : List (ByteArray × Stx)), (∀ x ∈ l, ∀ s' A B, A.length = B.length → alSt A B x.2 s' → ∀ w, strF tk sb A x.2 w = strF tk sb B s' w) → ∀ l', alSt.goS A B l l' → ∀ w, strF.goS tk sb A l w = strF.goS tk sb B l' w := by
    intro l
    induction l with
    | nil => rintro _ _ h w; rw [alSt.goS] at h; cases h; rfl
    | cons x r ih =>
      obtain ⟨s, x⟩ := x
      rintro hi _ hg w
      rw [alSt.goS] at hg
      obtain ⟨x', r', rfl, g1, g2⟩ := hg
      simp only [strF.goS, hi (s, x) (by simp) x' A B hAB g1 w, ih (fun y hy => hi y (by simp [hy])) r' g2]
  have gF : ∀ (l : List (ByteArray × List Int × Stx × List Int × Stx)), (∀ x ∈ l, (∀ s' A B, A.length = B.length → alSt A B x.2.2.1 s' → ∀ w, strF tk sb A x.2.2.1 w = strF tk sb B s' w) ∧ (∀ s' A B, A.length = B.length → alSt A B x.2.2.2.2 s' → ∀ w, strF tk sb A x.2.2.2.2 w = strF tk sb B s' w)) → ∀ l', alSt.goF A B l l' → ∀ w, strF.goF tk sb A l w = strF.goF tk sb B l' w := by
    intro l
    induction l with
    | nil => rintro _ _ h w; rw [alSt.goF] at h; cases h; rfl
    | cons x r ih =>
      obtain ⟨s, p, x, q, y⟩ := x
      rintro hi _ hg w
      rw [alSt.goF] at hg
      obtain ⟨p', x', q', y', r', rfl, e1, e2, g1, g2, g3⟩ := hg
      have k := hi (s, p, x, q, y) (by simp)
      simp only [strF.goF, ← e1, ← e2, ← hAB, k.1 x' _ _ (by simp [hAB, e1]) g1 _, k.2 y' _ _ (by simp [hAB, e1, e2]) g2 _, ih (fun y hy => hi y (by simp [hy])) r' g3]
  have gG : ∀ (l : List (ByteArray × List Int × Stx)), (∀ x ∈ l, ∀ s' A B, A.length = B.length → alSt A B x.2.2 s' → ∀ w, strF tk sb A x.2.2 w = strF tk sb B s' w) → ∀ l', alSt.goG A B l l' → ∀ w, strF.goG tk sb A l w = strF.goG tk sb B l' w := by
    intro l
    induction l with
    | nil => rintro _ _ h w; rw [alSt.goG] at h; cases h; rfl
    | cons x r ih =>
      obtain ⟨s, q, y⟩ := x
      rintro hi _ hg w
      rw [alSt.goG] at hg
      obtain ⟨q', y', r', rfl, e2, g2, g3⟩ := hg
      simp only [strF.goG, ← e2, ← hAB, hi (s, q, y) (by simp) y' _ _ (by simp [hAB, e2]) g2 _, ih (fun y hy => hi y (by simp [hy])) r' g3]
  simp only [strF, al_map al_tym _ _ h1, al_map al_vam _ _ h2, gS ss i1 _ h3, gF fs i2 _ h4, gG gs i3 _ h5]


theorem all2_ins {α : Type} {lt : ByteArray → ByteArray → Bool} {nm : α → ByteArray} {R : α → α → Prop} (hR : ∀ a b, R a b → nm a = nm b) {x y : α} (h : R x y) : ∀ {l r : List α}, all2 R l r → all2 R (insR lt nm x l) (insR lt nm y r)
  | [], [], _ => ⟨h, trivial⟩
  | a :: l, b :: r, ⟨h1, h2⟩ => by
    unfold insR
    rw [← hR x y h, ← hR a b h1]
    split
    · exact ⟨h1, all2_ins hR h h2⟩
    · exact ⟨h, h1, h2⟩
  | [], _ :: _, h => h.elim
  | _ :: _, [], h => h.elim

theorem all2_app {α : Type} {R : α → α → Prop} : ∀ {l r l' r' : List α}, all2 R l r → all2 R l' r' → all2 R (l ++ l') (r ++ r')
  | [], [], _, _, _, h => h
  | _ :: _, _ :: _, _, _, ⟨h1, h2⟩, h => ⟨h1, all2_app h2 h⟩
  | [], _ :: _, _, _, h, _ => h.elim
  | _ :: _, [], _, _, h, _ => h.elim
theorem all2_rev {α : Type} {R : α → α → Prop} : ∀ {l r : List α}, all2 R l r → all2 R l.reverse r.reverse
  | [], [], _ => trivial
  | a :: l, b :: r, ⟨h1, h2⟩ => by
    rw [List.reverse_cons, List.reverse_cons]
    exact all2_app (all2_rev h2) ⟨h1, trivial⟩
  | [], _ :: _, h => h.elim
  | _ :: _, [], h => h.elim

theorem all2_sort {α : Type} {lt : ByteArray → ByteArray → Bool} {nm : α → ByteArray} {R : α → α → Prop} (hR : ∀ a b, R a b → nm a = nm b) {l r : List α} (h : all2 R l r) : all2 R (sortL lt nm l) (sortL lt nm r) := by
  have : ∀ (l r p q : List α), all2 R l r → all2 R p q → all2 R (l.foldl (fun acc x => insR lt nm x acc) p) (r.foldl (fun acc x => insR lt nm x acc) q) := by
    intro l
    induction l with
    | nil => intro r p q h1 h2; cases r with
      | nil => exact h2
      | cons => exact h1.elim
    | cons a l ih => intro r p q h1 h2; cases r with
      | nil => exact h1.elim
      | cons b r => exact ih r _ _ h1.2 (all2_ins hR h1.1 h2)
  exact all2_rev (this l r [] [] h trivial)

end Go.Vt.Al
set_option maxRecDepth 100000
namespace Go.Vt.Al

theorem goS_all2 {A B : List Int} : ∀ {l r : List (ByteArray × Stx)}, alSt.goS A B l r ↔ all2 (fun a b => a.1 = b.1 ∧ alSt A B a.2 b.2) l r
  | [], [] => by rw [alSt.goS]; simp [all2]
  | [], _ :: _ => by rw [alSt.goS]; simp [all2]
  | (s, x) :: l, [] => by rw [alSt.goS]; simp [all2]
  | (s, x) :: l, (s', x') :: r => by
    rw [alSt.goS]
    simp only [all2, ← goS_all2 (l := l) (r := r), List.cons.injEq, Prod.mk.injEq]
    constructor
    · rintro ⟨_, _, ⟨⟨rfl, rfl⟩, rfl⟩, h1, h2⟩; exact ⟨⟨rfl, h1⟩, h2⟩
    · rintro ⟨⟨rfl, h1⟩, h2⟩; exact ⟨_, _, ⟨⟨rfl, rfl⟩, rfl⟩, h1, h2⟩

def rF (A B : List Int) (a b : ByteArray × List Int × Stx × List Int × Stx) : Prop := a.1 = b.1 ∧ a.2.1.length = b.2.1.length ∧ a.2.2.2.1.length = b.2.2.2.1.length ∧ alSt (A ++ a.2.1) (B ++ b.2.1) a.2.2.1 b.2.2.1 ∧ alSt (A ++ a.2.1 ++ a.2.2.2.1) (B ++ b.2.1 ++ b.2.2.2.1) a.2.2.2.2 b.2.2.2.2
def rG (A B : List Int) (a b : ByteArray × List Int × Stx) : Prop := a.1 = b.1 ∧ a.2.1.length = b.2.1.length ∧ alSt (A ++ a.2.1) (B ++ b.2.1) a.2.2 b.2.2

theorem goF_all2 {A B : List Int} : ∀ {l r : List (ByteArray × List Int × Stx × List Int × Stx)}, alSt.goF A B l r ↔ all2 (rF A B) l r
  | [], [] => by rw [alSt.goF]; simp [all2]
  | [], _ :: _ => by rw [alSt.goF]; simp [all2]
  | (s, p, x, q, y) :: l, [] => by rw [alSt.goF]; simp [all2]
  | (s, p, x, q, y) :: l, (s', p', x', q', y') :: r => by
    rw [alSt.goF]
    simp only [all2, ← goF_all2 (l := l) (r := r), List.cons.injEq, Prod.mk.injEq, rF]
    constructor
    · rintro ⟨_, _, _, _, _, ⟨⟨rfl, rfl, rfl, rfl, rfl⟩, rfl⟩, h1, h2, h3, h4, h5⟩; exact ⟨⟨rfl, h1, h2, h3, h4⟩, h5⟩
    · rintro ⟨⟨rfl, h1, h2, h3, h4⟩, h5⟩; exact ⟨_, _, _, _, _, ⟨⟨rfl, rfl, rfl, rfl, rfl⟩, rfl⟩, h1, h2, h3, h4, h5⟩

theorem goG_all2 {A B : List Int} : ∀ {l r : List (ByteArray × List Int × Stx)}, alSt.goG A B l r ↔ all2 (rG A B) l r
  | [], [] => by rw [alSt.goG]; simp [all2]
  | [], _ :: _ => by rw [alSt.goG]; simp [all2]
  | (s, q, y) :: l, [] => by rw [alSt.goG]; simp [all2]
  | (s, q, y) :: l, (s', q', y') :: r => by
    rw [alSt.goG]
    simp only [all2, ← goG_all2 (l := l) (r := r), List.cons.injEq, Prod.mk.injEq, rG]
    constructor
    · rintro ⟨_, _, _, ⟨⟨rfl, rfl, rfl⟩, rfl⟩, h1, h2, h3⟩; exact ⟨⟨rfl, h1, h2⟩, h3⟩
    · rintro ⟨⟨rfl, h1, h2⟩, h3⟩; exact ⟨_, _, _, ⟨⟨rfl, rfl, rfl⟩, rfl⟩, h1, h2, h3⟩

theorem sortS_map (lt : ByteArray → ByteArray → Bool) : ∀ l, sortSt.goS lt l = l.map fun a => (a.1, sortSt lt a.2)
  | [] => rfl
  | (s, x) :: l => by simp only [sortSt.goS, sortS_map lt l, List.map_cons]
theorem sortF_map (lt : ByteArray → ByteArray → Bool) : ∀ l, sortSt.goF lt l = l.map fun a => (a.1, a.2.1, sortSt lt a.2.2.1, a.2.2.2.1, sortSt lt a.2.2.2.2)
  | [] => rfl
  | (s, p, x, q, y) :: l => by simp only [sortSt.goF, sortF_map lt l, List.map_cons]
theorem sortG_map (lt : ByteArray → ByteArray → Bool) : ∀ l, sortSt.goG lt l = l.map fun a => (a.1, a.2.1, sortSt lt a.2.2)
  | [] => rfl
  | (s, q, y) :: l => by simp only [sortSt.goG, sortG_map lt l, List.map_cons]

theorem all2_map {α : Type} {R Q : α → α → Prop} {f : α → α} : ∀ {l r : List α}, (∀ a ∈ l, ∀ b, R a b → Q (f a) (f b)) → all2 R l r → all2 Q (l.map f) (r.map f)
  | [], [], _, _ => trivial
  | a :: l, b :: r, h, ⟨h1, h2⟩ => ⟨h a (by simp) b h1, all2_map (fun x hx => h x (by simp [hx])) h2⟩
  | [], _ :: _, _, h => h.elim
  | _ :: _, [], _, h => h.elim

theorem al_sort (lt : ByteArray → ByteArray → Bool) : ∀ (s s' : Stx) (A B : List Int), alSt A B s s' → alSt A B (sortSt lt s) (sortSt lt s') := by
  intro s
  induction s using Stx.ind with
  | h ts vs ss fs gs i1 i2 i3 =>
  rintro ⟨ts', vs', ss', fs', gs'⟩ A B hst
  rw [alSt] at hst
  obtain ⟨h1, h2, h3, h4, h5⟩ := hst
  simp only [sortSt]
  rw [alSt]
  refine ⟨all2_sort (fun a b h => h.1) h1, all2_sort (fun a b h => h.1) h2, goS_all2.2 (all2_sort (fun a b h => h.1) ?_), goF_all2.2 (all2_sort (fun a b h => h.1) ?_), goG_all2.2 (all2_sort (fun a b h => h.1) ?_)⟩
  · rw [sortS_map, sortS_map]
    exact all2_map (fun a ha b h => ⟨h.1, i1 a ha _ _ _ h.2⟩) (goS_all2.1 h3)
  · rw [sortF_map, sortF_map]
    exact all2_map (fun a ha b h => ⟨h.1, h.2.1, h.2.2.1, (i2 a ha).1 _ _ _ h.2.2.2.1, (i2 a ha).2 _ _ _ h.2.2.2.2⟩) (goF_all2.1 h4)
  · rw [sortG_map, sortG_map]
    exact all2_map (fun a ha b h => ⟨h.1, h.2.1, i3 a ha _ _ _ h.2.2⟩) (goG_all2.1 h5)

def alAbs (a b : List Int × Stx) : Prop := a.1.length = b.1.length ∧ alSt a.1 b.1 a.2 b.2

theorem al_abs {tk : List Int} {sb : Int → Int} {a b : List Int × Stx} (h : alAbs a b) (w : WS) : absF tk sb [] a w = absF tk sb [] b w := by
  simp only [absF, List.nil_append, ← h.1, al_st tk sb a.2 b.2 a.1 b.1 h.1 h.2]

theorem al_free {a b : List Int × Stx} (h : alAbs a b) : freeF a = freeF b := by unfold freeF; rw [al_abs h]

theorem al_canon {lt : ByteArray → ByteArray → Bool} {a b : List Int × Stx} (h : alAbs a b) : canonF lt a = canonF lt b := by
  unfold canonF
  rw [al_free h, al_abs (a := (a.1, sortSt lt a.2)) (b := (b.1, sortSt lt b.2)) ⟨h.1, al_sort lt _ _ _ _ h.2⟩]

end Go.Vt.Al
set_option maxRecDepth 100000
namespace Go.Vt.Al


def fvTy : Ty → Int → Prop
  | .mk k n l, m => (k = kindStamp ∧ n = m) ∨ go l m
  where
  go : List Ty → Int → Prop
    | [], _ => False
    | t :: r, m => fvTy t m ∨ go r m

theorem fvTys_mem {m : Int} : ∀ {l : List Ty}, fvTy.go l m ↔ ∃ t ∈ l, fvTy t m
  | [] => by simp [fvTy.go]
  | t :: r => by simp [fvTy.go, fvTys_mem (l := r)]

def fvTym (t : Tym) (m : Int) : Prop := fvTy t.t m ∨ ∃ c ∈ t.cts, fvTy.go c.args m

def fvSt : Stx → Int → Prop
  | .mk ts vs ss fs gs, m => (∃ t ∈ ts, fvTym t m) ∨ (∃ v ∈ vs, fvTy v.s.t m) ∨ goS ss m ∨ goF fs m ∨ goG gs m
  where
  goS : List (ByteArray × Stx) → Int → Prop
    | [], _ => False
    | (_, x) :: l, m => fvSt x m ∨ goS l m
  goF : List (ByteArray × List Int × Stx × List Int × Stx) → Int → Prop
    | [], _ => False
    | (_, p, x, q, y) :: l, m => (m ∉ p ∧ (fvSt x m ∨ (m ∉ q ∧ fvSt y m))) ∨ goF l m
  goG : List (ByteArray × List Int × Stx) → Int → Prop
    | [], _ => False
    | (_, q, y) :: l, m => (m ∉ q ∧ fvSt y m) ∨ goG l m


def im (A B : List Int) (n : Int) : Int := match lastIdx A n with
  | some i => B.getD i 0
  | none => n

def renTy (A B : List Int) : Ty → Ty
  | .mk k n l => .mk k (if k = kindStamp then im A B n else n) (go l)
  where
  go : List Ty → List Ty
    | [] => []
    | t :: r => renTy A B t :: go r

def renCt (A B : List Int) (c : Ct) : Ct := ⟨c.name, renTy.go A B c.args⟩
def renTym (A B : List Int) (m : Tym) : Tym := ⟨m.name, renTy A B m.t, m.cts.map (renCt A B)⟩
def renVam (A B : List Int) (m : Vam) : Vam := ⟨m.name, ⟨m.s.gens, renTy A B m.s.t⟩⟩

def bindOk (A B own out : List Int) (F : Int → Prop) : Prop :=
  out.length = own.length ∧ (∀ n, F n → n ∉ own → im A B n ∉ out) ∧ (∀ (i j : Nat) (x y u v : Int), i < j → own[i]? = some x → own[j]? = some y → x ≠ y → out[i]? = some u → out[j]? = some v → u ≠ v)

def renSt (A B : List Int) : Stx → Stx → Prop
  | .mk ts vs ss fs gs, .mk ts' vs' ss' fs' gs' => ts' = ts.map (renTym A B) ∧ vs' = vs.map (renVam A B) ∧ goS A B ss ss' ∧ goF A B fs fs' ∧ goG A B gs gs'
  where
  goS (A B : List Int) : List (ByteArray × Stx) → List (ByteArray × Stx) → Prop
    | [], r => r = []
    | (s, x) :: l, r => ∃ x' r', r = (s, x') :: r' ∧ renSt A B x x' ∧ goS A B l r'
  goF (A B : List Int) : List (ByteArray × List Int × Stx × List Int × Stx) → List (ByteArray × List Int × Stx × List Int × Stx) → Prop
    | [], r => r = []
    | (s, p, x, q, y) :: l, r => ∃ p' x' q' y' r', r = (s, p', x', q', y') :: r' ∧ bindOk A B p p' (fun n => fvSt x n ∨ (n ∉ q ∧ fvSt y n)) ∧ renSt (A ++ p) (B ++ p') x x' ∧ bindOk (A ++ p) (B ++ p') q q' (fvSt y) ∧ renSt (A ++ p ++ q) (B ++ p' ++ q') y y' ∧ goF A B l r'
  goG (A B : List Int) : List (ByteArray × List Int × Stx) → List (ByteArray × List Int × Stx) → Prop
    | [], r => r = []
    | (s, q, y) :: l, r => ∃ q' y' r', r = (s, q', y') :: r' ∧ bindOk A B q q' (fvSt y) ∧ renSt (A ++ q) (B ++ q') y y' ∧ goG A B l r'

def Good (A B : List Int) (F : Int → Prop) : Prop := ∀ n, F n → lf A B n (im A B n)

theorem Good.bind {A B own out : List Int} {F : Int → Prop} (hAB : A.length = B.length) (hb : bindOk A B own out F) (hG : Good A B fun n => F n ∧ n ∉ own) : Good (A ++ own) (B ++ out) F := by
  obtain ⟨hlen, h1, h2⟩ := hb
  intro n hn
  by_cases hm : n ∈ own
  · -- one of the binder's own
    cases e : lastIdx own n with
    | none => exact absurd hm (lastIdx_none.1 e)
    | some j =>
      have hj := lastIdx_iff.1 e
      have hjl := lastIdx_lt e
      have ho : ∃ u, out[j]? = some u := ⟨out[j]'(by omega), List.getElem?_eq_getElem (by omega)⟩
      obtain ⟨u, hu⟩ := ho
      have him : im (A ++ own) (B ++ out) n = u := by
        unfold im
        rw [lastIdx_append, e]
        simp only [List.getD_eq_getElem?_getD]
        rw [hAB, List.getElem?_append_right (by omega), Nat.add_sub_cancel_left, hu]
        rfl
      rw [him]
      have hout : lastIdx out u = some j := by
        refine lastIdx_iff.2 ⟨hu, fun k hk hc => ?_⟩
        have hkl : k < own.length := by
          have := (List.getElem?_eq_some_iff.1 hc).1
          omega
        obtain ⟨y, hy⟩ : ∃ y, own[k]? = some y := ⟨own[k], List.getElem?_eq_getElem hkl⟩
        have hne : n ≠ y := fun g => hj.2 k hk (by rw [hy, g])
        exact h2 j k n y u u hk hj.1 hy hne hu hc rfl
      refine ⟨?_, ?_⟩
      · rw [lastIdx_append, lastIdx_append, e, hout, hAB]
      · intro hc
        rw [lastIdx_append, e] at hc
        cases hc
  · have e := lastIdx_none.2 hm
    have g := hG n ⟨hn, hm⟩
    have hc := h1 n hn hm
    have e2 := lastIdx_none.2 hc
    have him : im (A ++ own) (B ++ out) n = im A B n := by
      unfold im
      rw [lastIdx_append, e]
      simp only
      cases e3 : lastIdx A n with
      | none => rfl
      | some i =>
        have := lastIdx_lt e3
        simp only [List.getD_eq_getElem?_getD]
        rw [List.getElem?_append_left (by omega)]
    rw [him]
    refine ⟨?_, ?_⟩
    · rw [lastIdx_append, lastIdx_append, e, e2]
      exact g.1
    · intro h
      rw [lastIdx_append, e] at h
      exact g.2 h

theorem ren_ty {A B : List Int} : ∀ (t : Ty), Good A B (fvTy t) → alTy A B t (renTy A B t) := by
  intro t
  induction t using Ty.ind with
  | h k n l ih =>
  intro hG
  have hg : ∀ l : List Ty, (∀ t ∈ l, Good A B (fvTy t) → alTy A B t (renTy A B t)) → Good A B (fvTy.go l) → alTy.go A B l (renTy.go A B l) := by
    intro l
    induction l with
    | nil => intro _ _; rfl
    | cons t r ih2 =>
      intro hi hG
      exact ⟨_, _, rfl, hi t (by simp) fun n hn => hG n (.inl hn), ih2 (fun t ht => hi t (by simp [ht])) fun n hn => hG n (.inr hn)⟩
  refine ⟨rfl, ?_, hg l ih fun n hn => hG n (.inr hn)⟩
  by_cases hk : k = kindStamp
  · rw [if_pos hk, if_pos hk]
    exact hG n (.inl ⟨hk, rfl⟩)
  · rw [if_neg hk, if_neg hk]

theorem ren_tys {A B : List Int} : ∀ l : List Ty, Good A B (fvTy.go l) → alTy.go A B l (renTy.go A B l)
  | [], _ => rfl
  | t :: r, hG => ⟨_, _, rfl, ren_ty t fun n hn => hG n (.inl hn), ren_tys r fun n hn => hG n (.inr hn)⟩

theorem all2_mapR {α : Type} {R : α → α → Prop} {f : α → α} : ∀ {l : List α}, (∀ a ∈ l, R a (f a)) → all2 R l (l.map f)
  | [], _ => trivial
  | a :: l, h => ⟨h a (by simp), all2_mapR fun x hx => h x (by simp [hx])⟩

theorem ren_st : ∀ (s s' : Stx) (A B : List Int), A.length = B.length → Good A B (fvSt s) → renSt A B s s' → alSt A B s s' := by
  intro s
  induction s using Stx.ind with
  | h ts vs ss fs gs i1 i2 i3 =>
  rintro ⟨ts', vs', ss', fs', gs'⟩ A B hAB hG hst
  rw [renSt] at hst
  obtain ⟨rfl, rfl, h3, h4, h5⟩ := hst
  simp only [fvSt] at hG
  rw [alSt]
  refine ⟨all2_mapR fun t ht => ⟨rfl, ren_ty _ fun n hn => hG n (.inl ⟨t, ht, .inl hn⟩), all2_mapR fun c hc => ⟨rfl, ren_tys _ fun n hn => hG n (.inl ⟨t, ht, .inr ⟨c, hc, hn⟩⟩)⟩⟩,
    all2_mapR fun v hv => ⟨rfl, rfl, ren_ty _ fun n hn => hG n (.inr (.inl ⟨v, hv, hn⟩))⟩, ?_, ?_, ?_⟩
  · have g : ∀ (l r : List (ByteArray × Stx)), (∀ x ∈ l, ∀ s' A B, A.length = B.length → Good A B (fvSt x.2) → renSt A B x.2 s' → alSt A B x.2 s') → Good A B (fvSt.goS l) → renSt.goS A B l r → alSt.goS A B l r := by
      intro l
      induction l with
      | nil => intro r _ _ h; rw [renSt.goS] at h; rw [alSt.goS]; exact h
      | cons x l ih =>
        obtain ⟨s, x⟩ := x
        intro r hi hG h
        rw [renSt.goS] at h
        obtain ⟨x', r', rfl, k1, k2⟩ := h
        rw [alSt.goS]
        exact ⟨x', r', rfl, hi (s, x) (by simp) x' A B hAB (fun n hn => hG n (.inl hn)) k1, ih r' (fun y hy => hi y (by simp [hy])) (fun n hn => hG n (.inr hn)) k2⟩
    exact g ss ss' i1 (fun n hn => hG n (.inr (.inr (.inl hn)))) h3
  · have g : ∀ (l r : List (ByteArray × List Int × Stx × List Int × Stx)), (∀ x ∈ l, (∀ s' A B, A.length = B.length → Good A B (fvSt x.2.2.1) → renSt A B x.2.2.1 s' → alSt A B x.2.2.1 s') ∧ (∀ s' A B, A.length = B.length → Good A B (fvSt x.2.2.2.2) → renSt A B x.2.2.2.2 s' → alSt A B x.2.2.2.2 s')) → Good A B (fvSt.goF l) → renSt.goF A B l r → alSt.goF A B l r := by
      intro l
      induction l with
      | nil => intro r _ _ h; rw [renSt.goF] at h; rw [alSt.goF]; exact h
      | cons x l ih =>
        obtain ⟨s, p, x, q, y⟩ := x
        intro r hi hG h
        rw [renSt.goF] at h
        obtain ⟨p', x', q', y', r', rfl, b1, k1, b2, k2, k3⟩ := h
        have k := hi (s, p, x, q, y) (by simp)
        have g1 := Good.bind hAB b1 fun n hn => hG n (.inl ⟨hn.2, hn.1⟩)
        have hAB2 : (A ++ p).length = (B ++ p').length := by simp [hAB, b1.1]
        have g2 := Good.bind hAB2 b2 fun n hn => g1 n (.inr ⟨hn.2, hn.1⟩)
        rw [alSt.goF]
        exact ⟨p', x', q', y', r', rfl, b1.1.symm, b2.1.symm, k.1 x' _ _ hAB2 (fun n hn => g1 n (.inl hn)) k1, k.2 y' _ _ (by simp [hAB, b1.1, b2.1]) g2 k2, ih r' (fun y hy => hi y (by simp [hy])) (fun n hn => hG n (.inr hn)) k3⟩
    exact g fs fs' i2 (fun n hn => hG n (.inr (.inr (.inr (.inl hn))))) h4
  · have g : ∀ (l r : List (ByteArray × List Int × Stx)), (∀ x ∈ l, ∀ s' A B, A.length = B.length → Good A B (fvSt x.2.2) → renSt A B x.2.2 s' → alSt A B x.2.2 s') → Good A B (fvSt.goG l) → renSt.goG A B l r → alSt.goG A B l r := by
      intro l
      induction l with
      | nil => intro r _ _ h; rw [renSt.goG] at h; rw [alSt.goG]; exact h
      | cons x l ih =>
        obtain ⟨s, q, y⟩ := x
        intro r hi hG h
        rw [renSt.goG] at h
        obtain ⟨q', y', r', rfl, b2, k2, k3⟩ := h
        have g2 := Good.bind hAB b2 fun n hn => hG n (.inl ⟨hn.2, hn.1⟩)
        rw [alSt.goG]
        exact ⟨q', y', r', rfl, b2.1.symm, hi (s, q, y) (by simp) y' _ _ (by simp [hAB, b2.1]) g2 k2, ih r' (fun y hy => hi y (by simp [hy])) (fun n hn => hG n (.inr hn)) k3⟩
    exact g gs gs' i3 (fun n hn => hG n (.inr (.inr (.inr (.inr hn))))) h5

end Go.Vt.Al
set_option maxRecDepth 100000
namespace Go.Vt.Al

def Sub2 (A B A' B' : List Int) : Prop := ∀ n m, lf A B n m → lf A' B' n m

theorem Sub2.ext {A B A' B' p q : List Int} (hAB : A.length = B.length) (hAB' : A'.length = B'.length) (h : Sub2 A B A' B') : Sub2 (A ++ p) (B ++ q) (A' ++ p) (B' ++ q) := by
  intro n m
  unfold lf
  rw [lastIdx_append, lastIdx_append, lastIdx_append, lastIdx_append]
  cases e1 : lastIdx p n with
  | some i =>
    cases e2 : lastIdx q m with
    | some j =>
      simp only [Option.some.injEq, reduceCtorEq, false_implies, and_true]
      omega
    | none =>
      simp only [reduceCtorEq, false_implies, and_true]
      intro hc
      have := lastIdx_lt hc.symm
      omega
  | none =>
    cases e2 : lastIdx q m with
    | some j =>
      simp only
      rintro ⟨hc, _⟩
      have := lastIdx_lt hc
      omega
    | none => exact fun hh => h n m hh

theorem sc_ty {A B A' B' : List Int} (h : Sub2 A B A' B') : ∀ (t t' : Ty), alTy A B t t' → alTy A' B' t t' := by
  intro t
  induction t using Ty.ind with
  | h k n l ih =>
  rintro ⟨k', n', l'⟩ ⟨h1, h2, h3⟩
  have g : ∀ (l l' : List Ty), (∀ t ∈ l, ∀ t', alTy A B t t' → alTy A' B' t t') → alTy.go A B l l' → alTy.go A' B' l l' := by
    intro l
    induction l with
    | nil => intro l' _ h; exact h
    | cons t r ih2 =>
      rintro l' hi ⟨t', r', rfl, h1, h2⟩
      exact ⟨t', r', rfl, hi t (by simp) t' h1, ih2 r' (fun t ht => hi t (by simp [ht])) h2⟩
  refine ⟨h1, ?_, g l l' ih h3⟩
  by_cases hk : k = kindStamp
  · rw [if_pos hk] at h2 ⊢
    exact h _ _ h2
  · rw [if_neg hk] at h2 ⊢
    exact h2

theorem sc_tys {A B A' B' : List Int} (h : Sub2 A B A' B') : ∀ (l l' : List Ty), alTy.go A B l l' → alTy.go A' B' l l'
  | [], _, h => h
  | t :: r, _, ⟨t', r', e, h1, h2⟩ => ⟨t', r', e, sc_ty h t t' h1, sc_tys h r r' h2⟩

theorem all2_mono {α : Type} {R Q : α → α → Prop} : ∀ {l r : List α}, (∀ a b, R a b → Q a b) → all2 R l r → all2 Q l r
  | [], [], _, _ => trivial
  | a :: _, b :: _, h, ⟨h1, h2⟩ => ⟨h a b h1, all2_mono h h2⟩
  | [], _ :: _, _, h => h.elim
  | _ :: _, [], _, h => h.elim

theorem sc_st : ∀ (s s' : Stx) (A B A' B' : List Int), A.length = B.length → A'.length = B'.length → Sub2 A B A' B' → alSt A B s s' → alSt A' B' s s' := by
  intro s
  induction s using Stx.ind with
  | h ts vs ss fs gs i1 i2 i3 =>
  rintro ⟨ts', vs', ss', fs', gs'⟩ A B A' B' hAB hAB' hS hst
  rw [alSt] at hst ⊢
  obtain ⟨h1, h2, h3, h4, h5⟩ := hst
  refine ⟨all2_mono (fun a b h => ⟨h.1, sc_ty hS _ _ h.2.1, all2_mono (fun c d g => ⟨g.1, sc_tys hS _ _ g.2⟩) h.2.2⟩) h1, all2_mono (fun a b h => ⟨h.1, h.2.1, sc_ty hS _ _ h.2.2⟩) h2, ?_, ?_, ?_⟩
  · have g : ∀ (l r : List (ByteArray × Stx)), (∀ x ∈ l, ∀ s' A B A' B', A.length = B.length → A'.length = B'.length → Sub2 A B A' B' → alSt A B x.2 s' → alSt A' B' x.2 s') → alSt.goS A B l r → alSt.goS A' B' l r := by
      intro l
      induction l with
      | nil => intro r _ h; rw [alSt.goS] at h ⊢; exact h
      | cons x l ih =>
        obtain ⟨s, x⟩ := x
        intro r hi h
        rw [alSt.goS] at h ⊢
        obtain ⟨x', r', rfl, k1, k2⟩ := h
        exact ⟨x', r', rfl, hi (s, x) (by simp) x' A B A' B' hAB hAB' hS k1, ih r' (fun y hy => hi y (by simp [hy])) k2⟩
    exact g ss ss' i1 h3
  · have g : ∀ (l r : List (ByteArray × List Int × Stx × List Int × Stx)), (∀ x ∈ l, (∀ s' A B A' B', A.length = B.length → A'.length = B'.length → Sub2 A B A' B' → alSt A B x.2.2.1 s' → alSt A' B' x.2.2.1 s') ∧ (∀ s' A B A' B', A.length = B.length → A'.length = B'.length → Sub2 A B A' B' → alSt A B x.2.2.2.2 s' → alSt A' B' x.2.2.2.2 s')) → alSt.goF A B l r → alSt.goF A' B' l r := by
      intro l
      induction l with
      | nil => intro r _ h; rw [alSt.goF] at h ⊢; exact h
      | cons x l ih =>
        obtain ⟨s, p, x, q, y⟩ := x
        intro r hi h
        rw [alSt.goF] at h ⊢
        obtain ⟨p', x', q', y', r', rfl, e1, e2, k1, k2, k3⟩ := h
        have k := hi (s, p, x, q, y) (by simp)
        exact ⟨p', x', q', y', r', rfl, e1, e2, k.1 x' _ _ _ _ (by simp [hAB, e1]) (by simp [hAB', e1]) (hS.ext hAB hAB') k1, k.2 y' _ _ _ _ (by simp [hAB, e1, e2]) (by simp [hAB', e1, e2]) ((hS.ext hAB hAB').ext (by simp [hAB, e1]) (by simp [hAB', e1])) k2, ih r' (fun y hy => hi y (by simp [hy])) k3⟩
    exact g fs fs' i2 h4
  · have g : ∀ (l r : List (ByteArray × List Int × Stx)), (∀ x ∈ l, ∀ s' A B A' B', A.length = B.length → A'.length = B'.length → Sub2 A B A' B' → alSt A B x.2.2 s' → alSt A' B' x.2.2 s') → alSt.goG A B l r → alSt.goG A' B' l r := by
      intro l
      induction l with
      | nil => intro r _ h; rw [alSt.goG] at h ⊢; exact h
      | cons x l ih =>
        obtain ⟨s, q, y⟩ := x
        intro r hi h
        rw [alSt.goG] at h ⊢
        obtain ⟨q', y', r', rfl, e1, k1, k2⟩ := h
        exact ⟨q', y', r', rfl, e1, hi (s, q, y) (by simp) y' _ _ _ _ (by simp [hAB, e1]) (by simp [hAB', e1]) (hS.ext hAB hAB') k1, ih r' (fun y hy => hi y (by simp [hy])) k2⟩
    exact g gs gs' i3 h5


def Once (l : List Int) : Prop := ∀ (i j : Nat) (x : Int), l[i]? = some x → l[j]? = some x → i = j

theorem Once.idx {l : List Int} (h : Once l) {n : Int} {i : Nat} : lastIdx l n = some i ↔ l[i]? = some n :=
  ⟨fun e => (lastIdx_iff.1 e).1, fun e => lastIdx_iff.2 ⟨e, fun j hj hc => by have := h i j n e hc; omega⟩⟩

theorem Once.rev {l : List Int} (h : Once l) : Once l.reverse := by
  intro i j x hi hj
  have li := (List.getElem?_eq_some_iff.1 hi).1
  have lj := (List.getElem?_eq_some_iff.1 hj).1
  simp only [List.length_reverse] at li lj
  rw [List.getElem?_reverse li] at hi
  rw [List.getElem?_reverse lj] at hj
  have := h _ _ x hi hj
  omega

theorem once_sub {A B : List Int} (hA : Once A) (hB : Once B) (hAB : A.length = B.length) : Sub2 A.reverse B.reverse A B := by
  rintro n m ⟨h1, h2⟩
  cases e : lastIdx A.reverse n with
  | some i =>
    rw [e] at h1
    have g1 := hA.rev.idx.1 e
    have g2 := hB.rev.idx.1 h1.symm
    have li := (List.getElem?_eq_some_iff.1 g1).1
    simp only [List.length_reverse] at li
    rw [List.getElem?_reverse li] at g1
    rw [List.getElem?_reverse (by omega)] at g2
    have k1 := hA.idx.2 g1
    have k2 := hB.idx.2 g2
    unfold lf
    rw [k1, k2, hAB]
    exact ⟨rfl, fun hc => by cases hc⟩
  | none =>
    rw [e] at h1
    have n1 : n ∉ A := fun hc => lastIdx_none.1 e (by simpa using hc)
    have n2 : m ∉ B := fun hc => lastIdx_none.1 h1.symm (by simpa using hc)
    unfold lf
    rw [lastIdx_none.2 n1, lastIdx_none.2 n2]
    exact ⟨rfl, fun _ => h2 e⟩

theorem once_good {A B : List Int} {F : Int → Prop} (hA : Once A) (hB : Once B) (hAB : A.length = B.length) (hF : ∀ n, F n → n ∉ B) : Good A.reverse B.reverse F := by
  intro n hn
  unfold im
  cases e : lastIdx A.reverse n with
  | some i =>
    have li := lastIdx_lt e
    simp only [List.length_reverse] at li
    obtain ⟨u, hu⟩ : ∃ u, B.reverse[i]? = some u := ⟨B.reverse[i]'(by simp; omega), List.getElem?_eq_getElem (by simp; omega)⟩
    simp only [List.getD_eq_getElem?_getD, hu, Option.getD_some]
    unfold lf
    rw [e, hB.rev.idx.2 hu]
    exact ⟨rfl, fun hc => by cases hc⟩
  | none =>
    have n2 : n ∉ B.reverse := fun hc => hF n hn (by simpa using hc)
    unfold lf
    rw [e, lastIdx_none.2 n2]
    exact ⟨rfl, fun _ => rfl⟩

theorem al_fresh {A B : List Int} {y y' : Stx} (hA : Once A) (hB : Once B) (hAB : A.length = B.length) (hF : ∀ n, fvSt y n → n ∉ B) (hr : renSt A.reverse B.reverse y y') : alAbs (A, y) (B, y') :=
  ⟨hAB, sc_st y y' A.reverse B.reverse A B (by simp [hAB]) hAB (once_sub hA hB hAB) (ren_st y y' _ _ (by simp [hAB]) (once_good hA hB hAB hF) hr)⟩

end Go.Vt.Al
set_option maxRecDepth 100000
namespace Go.Vt.Al
variable {tk : List Int} {sb : Int → Int}

theorem fr_stamp {A : List Int} {n m : Int} {w : WS} (h : m ∈ w.free ∨ (n = m ∧ m ∉ A)) : m ∈ (stampF tk sb A n w).2.free := by
  unfold stampF
  split
  · rename_i i e
    have hm : m ∈ w.free := h.elim id fun h => by
      have : m ∈ A := by
        have := (lastIdx_iff.1 e).1
        rw [h.1] at this
        exact List.mem_of_getElem? this
      exact absurd this h.2
    split <;> exact hm
  · show m ∈ putF w.free n
    rw [mem_putF]
    exact h.elim .inr fun h => .inl h.1.symm

theorem fr_map {α β : Type} {f : α → WS → β × WS} {P : α → Int → Prop} : ∀ {l : List α}, (∀ a ∈ l, ∀ w m, (m ∈ w.free ∨ P a m) → m ∈ (f a w).2.free) → ∀ w m, (m ∈ w.free ∨ ∃ a ∈ l, P a m) → m ∈ (mapW f l w).2.free
  | [], _, w, m, h => h.elim id fun ⟨a, ha, _⟩ => by cases ha
  | a :: l, hf, w, m, h => by
    show m ∈ (mapW f l (f a w).2).2.free
    refine fr_map (fun b hb => hf b (by simp [hb])) _ m ?_
    rcases h with h | ⟨b, hb, hp⟩
    · exact .inl (hf a (by simp) w m (.inl h))
    · rcases List.mem_cons.1 hb with rfl | hb
      · exact .inl (hf b (by simp) w m (.inr hp))
      · exact .inr ⟨b, hb, hp⟩

theorem fr_ty {A : List Int} : ∀ (t : Ty) (w : WS) (m : Int), (m ∈ w.free ∨ (fvTy t m ∧ m ∉ A)) → m ∈ (tyF tk sb A t w).2.free := by
  intro t
  induction t using Ty.ind with
  | h k n l ih =>
  intro w m h
  have g : ∀ (l : List Ty), (∀ t ∈ l, ∀ (w : WS) (m : Int), (m ∈ w.free ∨ (fvTy t m ∧ m ∉ A)) → m ∈ (tyF tk sb A t w).2.free) → ∀ (w : WS) (m : Int), (m ∈ w.free ∨ (fvTy.go l m ∧ m ∉ A)) → m ∈ (tyF.go tk sb A l w).2.free := by
    intro l
    induction l with
    | nil => intro _ w m h; exact h.elim id fun h => h.1.elim
    | cons t r ih2 =>
      intro hi w m h
      show m ∈ (tyF.go tk sb A r (tyF tk sb A t w).2).2.free
      refine ih2 (fun t ht => hi t (by simp [ht])) _ m ?_
      rcases h with h | ⟨h | h, hA⟩
      · exact .inl (hi t (by simp) w m (.inl h))
      · exact .inl (hi t (by simp) w m (.inr ⟨h, hA⟩))
      · exact .inr ⟨h, hA⟩
  show m ∈ (tyF.go tk sb A l (if k = kindStamp then (stampF tk sb A n w).2 else w)).2.free
  refine g l ih _ m ?_
  by_cases hk : k = kindStamp
  · rw [if_pos hk]
    rcases h with h | ⟨⟨_, h⟩ | h, hA⟩
    · exact .inl (fr_stamp (.inl h))
    · exact .inl (fr_stamp (.inr ⟨h, hA⟩))
    · exact .inr ⟨h, hA⟩
  · rw [if_neg hk]
    rcases h with h | ⟨⟨h, _⟩ | h, hA⟩
    · exact .inl h
    · exact absurd h hk
    · exact .inr ⟨h, hA⟩

theorem fr_tys {A : List Int} : ∀ (l : List Ty) (w : WS) (m : Int), (m ∈ w.free ∨ (fvTy.go l m ∧ m ∉ A)) → m ∈ (tyF.go tk sb A l w).2.free
  | [], w, m, h => h.elim id fun h => h.1.elim
  | t :: r, w, m, h => by
    show m ∈ (tyF.go tk sb A r (tyF tk sb A t w).2).2.free
    refine fr_tys r _ m ?_
    rcases h with h | ⟨h | h, hA⟩
    · exact .inl (fr_ty t w m (.inl h))
    · exact .inl (fr_ty t w m (.inr ⟨h, hA⟩))
    · exact .inr ⟨h, hA⟩

theorem fr_tym {A : List Int} (t : Tym) (w : WS) (m : Int) (h : m ∈ w.free ∨ (fvTym t m ∧ m ∉ A)) : m ∈ (tymF tk sb A t w).2.free := by
  show m ∈ (mapW (ctF tk sb A) t.cts (tyF tk sb A t.t w).2).2.free
  refine fr_map (P := fun c m => fvTy.go c.args m ∧ m ∉ A) (fun c _ w m h => fr_tys c.args w m h) _ m ?_
  rcases h with h | ⟨h | ⟨c, hc, h⟩, hA⟩
  · exact .inl (fr_ty t.t w m (.inl h))
  · exact .inl (fr_ty t.t w m (.inr ⟨h, hA⟩))
  · exact .inr ⟨c, hc, h, hA⟩

theorem fr_st : ∀ (s : Stx) (A : List Int) (w : WS) (m : Int), (m ∈ w.free ∨ (fvSt s m ∧ m ∉ A)) → m ∈ (strF tk sb A s w).2.free := by
  intro s
  induction s using Stx.ind with
  | h ts vs ss fs gs i1 i2 i3 =>
  intro A w m h
  have gS : ∀ (l : List (ByteArray × Stx)), (∀ x ∈ l, ∀ A w m, (m ∈ w.free ∨ (fvSt x.2 m ∧ m ∉ A)) → m ∈ (strF tk sb A x.2 w).2.free) → ∀ w, (m ∈ w.free ∨ (fvSt.goS l m ∧ m ∉ A)) → m ∈ (strF.goS tk sb A l w).2.free := by
    intro l
    induction l with
    | nil => intro _ w h; rw [strF.goS]; exact h.elim id fun h => by simp [fvSt.goS] at h
    | cons x l ih =>
      obtain ⟨s, x⟩ := x
      intro hi w h
      rw [strF.goS]
      refine ih (fun y hy => hi y (by simp [hy])) _ ?_
      rcases h with h | ⟨h, hA⟩
      · exact .inl (hi (s, x) (by simp) A w m (.inl h))
      · rw [fvSt.goS] at h
        rcases h with h | h
        · exact .inl (hi (s, x) (by simp) A w m (.inr ⟨h, hA⟩))
        · exact .inr ⟨h, hA⟩
  have gF : ∀ (l : List (ByteArray × List Int × Stx × List Int × Stx)), (∀ x ∈ l, (∀ A w m, (m ∈ w.free ∨ (fvSt x.2.2.1 m ∧ m ∉ A)) → m ∈ (strF tk sb A x.2.2.1 w).2.free) ∧ (∀ A w m, (m ∈ w.free ∨ (fvSt x.2.2.2.2 m ∧ m ∉ A)) → m ∈ (strF tk sb A x.2.2.2.2 w).2.free)) → ∀ w, (m ∈ w.free ∨ (fvSt.goF l m ∧ m ∉ A)) → m ∈ (strF.goF tk sb A l w).2.free := by
    intro l
    induction l with
    | nil => intro _ w h; rw [strF.goF]; exact h.elim id fun h => by simp [fvSt.goF] at h
    | cons x l ih =>
      obtain ⟨s, p, x, q, y⟩ := x
      intro hi w h
      rw [strF.goF]
      have k := hi (s, p, x, q, y) (by simp)
      refine ih (fun y hy => hi y (by simp [hy])) _ ?_
      have key : m ∈ w.free ∨ (m ∉ A ∧ m ∉ p ∧ (fvSt x m ∨ (m ∉ q ∧ fvSt y m))) → m ∈ (strF tk sb (A ++ p ++ q) y (enterF q.length (strF tk sb (A ++ p) x (enterF p.length w)).2)).2.free := by
        rintro (h | ⟨hA, hp, h | ⟨hq, h⟩⟩)
        · exact k.2 _ _ m (.inl (k.1 _ _ m (.inl h)))
        · exact k.2 _ _ m (.inl (k.1 _ _ m (.inr ⟨h, by simp [hA, hp]⟩)))
        · exact k.2 _ _ m (.inr ⟨h, by simp [hA, hp, hq]⟩)
      rcases h with h | ⟨h, hA⟩
      · exact .inl (key (.inl h))
      · rw [fvSt.goF] at h
        rcases h with h | h
        · exact .inl (key (.inr ⟨hA, h⟩))
        · exact .inr ⟨h, hA⟩
  have gG : ∀ (l : List (ByteArray × List Int × Stx)), (∀ x ∈ l, ∀ A w m, (m ∈ w.free ∨ (fvSt x.2.2 m ∧ m ∉ A)) → m ∈ (strF tk sb A x.2.2 w).2.free) → ∀ w, (m ∈ w.free ∨ (fvSt.goG l m ∧ m ∉ A)) → m ∈ (strF.goG tk sb A l w).2.free := by
    intro l
    induction l with
    | nil => intro _ w h; rw [strF.goG]; exact h.elim id fun h => by simp [fvSt.goG] at h
    | cons x l ih =>
      obtain ⟨s, q, y⟩ := x
      intro hi w h
      rw [strF.goG]
      have k := hi (s, q, y) (by simp)
      refine ih (fun y hy => hi y (by simp [hy])) _ ?_
      rcases h with h | ⟨h, hA⟩
      · exact .inl (k (A ++ q) (enterF q.length w) m (.inl h))
      · rw [fvSt.goG] at h
        rcases h with ⟨hq, h⟩ | h
        · exact .inl (k (A ++ q) (enterF q.length w) m (.inr ⟨h, by simp [hA, hq]⟩))
        · exact .inr ⟨h, hA⟩
  rw [strF]
  refine gG gs i3 _ ?_
  rw [fvSt] at h
  have up : m ∈ w.free ∨ (m ∉ A ∧ ((∃ t ∈ ts, fvTym t m) ∨ (∃ v ∈ vs, fvTy v.s.t m) ∨ fvSt.goS ss m ∨ fvSt.goF fs m)) → m ∈ (strF.goF tk sb A fs (strF.goS tk sb A ss (mapW (vamF tk sb A) vs (mapW (tymF tk sb A) ts w).2).2).2).2.free := by
    have hT := fr_map (P := fun t m => fvTym t m ∧ m ∉ A) (f := tymF tk sb A) (l := ts) (fun t _ w m h => fr_tym t w m h) w m
    have hV := fr_map (P := fun (v : Vam) m => fvTy v.s.t m ∧ m ∉ A) (f := vamF tk sb A) (l := vs) (fun v _ w m h => fr_ty v.s.t w m h) (mapW (tymF tk sb A) ts w).2 m
    rintro (h | ⟨hA, ⟨t, ht, h⟩ | ⟨v, hv, h⟩ | h | h⟩)
    · exact gF fs i2 _ (.inl (gS ss i1 _ (.inl (hV (.inl (hT (.inl h)))))))
    · exact gF fs i2 _ (.inl (gS ss i1 _ (.inl (hV (.inl (hT (.inr ⟨t, ht, h, hA⟩)))))))
    · exact gF fs i2 _ (.inl (gS ss i1 _ (.inl (hV (.inr ⟨v, hv, h, hA⟩)))))
    · exact gF fs i2 _ (.inl (gS ss i1 _ (.inr ⟨h, hA⟩)))
    · exact gF fs i2 _ (.inr ⟨h, hA⟩)
  rcases h with h | ⟨h, hA⟩
  · exact .inl (up (.inl h))
  · rcases h with h | h | h | h | h
    · exact .inl (up (.inr ⟨hA, .inl h⟩))
    · exact .inl (up (.inr ⟨hA, .inr (.inl h)⟩))
    · exact .inl (up (.inr ⟨hA, .inr (.inr (.inl h))⟩))
    · exact .inl (up (.inr ⟨hA, .inr (.inr (.inr h))⟩))
    · exact .inr ⟨h, hA⟩

theorem free_of {s : Stx} {m : Int} (h : fvSt s m) : m ∈ freeF ([], s) := by
  unfold freeF absF
  exact fr_st s ([] ++ []) _ m (.inr ⟨h, by simp⟩)

end Go.Vt.Al
