/- Own framework, part 1b: less is known. -/
import Derived.Test.YthbfemghbckipaaGreatVtBase
namespace Go.Vt

def WkL (l l' : L) : Prop := l = l' ∨ (l = .nils ∧ l' = .d (.sl [])) ∨ l' = .any

def WkLs : List L → List L → Prop
  | [], [] => True
  | l :: r, l' :: r' => WkL l l' ∧ WkLs r r'
  | _, _ => False

def WkV : V → V → Prop
  | .one l, .one l' => WkL l l'
  | .agg ls, .agg ls' => WkLs ls ls'
  | .tup vs, .tup vs' => all vs vs'
  | _, .one .any => True
  | _, _ => False
  where
  all : List V → List V → Prop
    | [], [] => True
    | v :: r, v' :: r' => WkV v v' ∧ all r r'
    | _, _ => False

def WkO : AObj → AObj → Prop
  | .box cs, .box cs' => WkLs cs cs'
  | o, o' => o = o'

def WkH : AHeap → AHeap → Prop
  | [], [] => True
  | o :: r, o' :: r' => WkO o o' ∧ WkH r r'
  | _, _ => False

theorem WkL.refl (l : L) : WkL l l := .inl rfl
theorem WkLs.refl : ∀ ls : List L, WkLs ls ls
  | [] => trivial
  | l :: r => ⟨.inl rfl, WkLs.refl r⟩
mutual
theorem WkV.refl : ∀ v : V, WkV v v
  | .one l => by unfold WkV; exact .inl rfl
  | .agg ls => by unfold WkV; exact WkLs.refl ls
  | .tup vs => by unfold WkV; exact WkV.allRefl vs
theorem WkV.allRefl : ∀ vs : List V, WkV.all vs vs
  | [] => trivial
  | v :: r => ⟨WkV.refl v, WkV.allRefl r⟩
end
theorem WkO.refl (o : AObj) : WkO o o := by cases o <;> first | exact WkLs.refl _ | rfl
theorem WkH.refl : ∀ h : AHeap, WkH h h
  | [] => trivial
  | o :: r => ⟨WkO.refl o, WkH.refl r⟩

variable {w : World} {μ : Pl} {h h1 : AHeap}

theorem WkL.rep {l l' : L} {v : Value} (hw : WkL l l') (hl : RepL w μ h l v) : RepL w μ h l' v := by
  rcases hw with rfl | ⟨rfl, rfl⟩ | rfl
  · exact hl
  · cases hl; exact .d (.sl0 _ _)
  · exact .any

theorem WkLs.get : ∀ {ls ls' : List L}, WkLs ls ls' → ls'.length = ls.length ∧ ∀ (j : Nat) (l' : L), ls'[j]? = some l' → ∃ l, ls[j]? = some l ∧ WkL l l'
  | [], [], _ => ⟨rfl, by simp⟩
  | l :: r, l' :: r', hw => by
    obtain ⟨h1, h2⟩ := WkLs.get hw.2
    refine ⟨by simp [h1], fun j x hj => ?_⟩
    cases j with
    | zero => simp at hj; subst hj; exact ⟨l, rfl, hw.1⟩
    | succ j => obtain ⟨y, a, b⟩ := h2 j x (by simpa using hj); exact ⟨y, by simpa using a, b⟩
  | [], _ :: _, hw => hw.elim
  | _ :: _, [], hw => hw.elim

theorem WkVs.get : ∀ {ls ls' : List V}, WkV.all ls ls' → ls'.length = ls.length ∧ ∀ (j : Nat) (l' : V), ls'[j]? = some l' → ∃ l, ls[j]? = some l ∧ WkV l l'
  | [], [], _ => ⟨rfl, by simp⟩
  | l :: r, l' :: r', hw => by
    obtain ⟨h1, h2⟩ := WkVs.get hw.2
    refine ⟨by simp [h1], fun j x hj => ?_⟩
    cases j with
    | zero => simp at hj; subst hj; exact ⟨l, rfl, hw.1⟩
    | succ j => obtain ⟨y, a, b⟩ := h2 j x (by simpa using hj); exact ⟨y, by simpa using a, b⟩
  | [], _ :: _, hw => hw.elim
  | _ :: _, [], hw => hw.elim

theorem WkV.rep {v v' : V} {x : Value} (hl : RepV w μ h v x) : WkV v v' → RepV w μ h v' x := by
  induction hl generalizing v' with
  | @one l x ho hl =>
    intro hw
    cases v' with
    | one l' => unfold WkV at hw; exact .one ho (hw.rep hl)
    | _ => simp [WkV] at hw
  | top =>
    intro hw
    cases v' with
    | one l' =>
      unfold WkV at hw
      rcases hw with rfl | ⟨e, _⟩ | rfl
      · exact .top
      · cases e
      · exact .top
    | _ => simp [WkV] at hw
  | @agg ls cs e1 e2 e3 =>
    intro hw
    cases v' with
    | one l' =>
      cases l' <;> simp [WkV] at hw
      exact .top
    | agg ls' =>
      unfold WkV at hw
      obtain ⟨a1, a2⟩ := hw.get
      refine .agg (a1.trans e1) (fun j l v hj hv => ?_) e3
      obtain ⟨l0, b1, b2⟩ := a2 j l hj
      exact b2.rep (e2 j l0 v b1 hv)
    | tup _ => simp [WkV] at hw
  | @tup vs cs e1 _ ih =>
    intro hw
    cases v' with
    | one l' =>
      cases l' <;> simp [WkV] at hw
      exact .top
    | tup vs' =>
      unfold WkV at hw
      obtain ⟨a1, a2⟩ := WkVs.get hw
      refine .tup (a1.trans e1) (fun j l v hj hv => ?_)
      obtain ⟨l0, b1, b2⟩ := a2 j l hj
      exact ih j l0 v b1 hv b2
    | agg _ => simp [WkV] at hw

theorem WkH.get : ∀ {h h1 : AHeap}, WkH h h1 → h1.length = h.length ∧ (∀ (j : Nat) (o' : AObj), h1[j]? = some o' → ∃ o, h[j]? = some o ∧ WkO o o') ∧ ∀ (j : Nat) (o : AObj), h[j]? = some o → ∃ o', h1[j]? = some o' ∧ WkO o o'
  | [], [], _ => ⟨rfl, by simp, by simp⟩
  | l :: r, l' :: r', hw => by
    obtain ⟨h1, h2, h3⟩ := WkH.get hw.2
    refine ⟨by simp [h1], fun j x hj => ?_, fun j x hj => ?_⟩
    · cases j with
      | zero => simp at hj; subst hj; exact ⟨l, rfl, hw.1⟩
      | succ j => obtain ⟨y, a, b⟩ := h2 j x (by simpa using hj); exact ⟨y, by simpa using a, b⟩
    · cases j with
      | zero => simp at hj; subst hj; exact ⟨l', rfl, hw.1⟩
      | succ j => obtain ⟨y, a, b⟩ := h3 j x (by simpa using hj); exact ⟨y, by simpa using a, b⟩
  | [], _ :: _, hw => hw.elim
  | _ :: _, [], hw => hw.elim

theorem WkO.live {o o' : AObj} (hw : WkO o o') : o'.live = o.live ∧ o'.there = o.there := by
  cases o <;> cases o' <;> simp_all [WkO, AObj.live, AObj.there]

theorem WkH.lv (hw : WkH h h1) (b : Nat) : Lv μ h1 b ↔ Lv μ h b := by
  obtain ⟨_, h2, h3⟩ := hw.get
  constructor
  · rintro ⟨id, o', a1, a2, a3⟩
    obtain ⟨o, b1, b2⟩ := h2 id o' a1
    exact ⟨id, o, b1, by rw [← b2.live.1]; exact a2, a3⟩
  · rintro ⟨id, o, a1, a2, a3⟩
    obtain ⟨o', b1, b2⟩ := h3 id o a1
    exact ⟨id, o', b1, by rw [b2.live.1]; exact a2, a3⟩

theorem WkH.good (hw : WkH h h1) : Good w μ h w μ h1 := by
  obtain ⟨h0, h2, h3⟩ := hw.get
  refine ⟨rfl, rfl, rfl, Nat.le_refl _, rfl, fun _ _ _ => rfl, fun _ cs _ _ hb => ⟨cs, hb, rfl⟩, fun b hb => .inl ((hw.lv b).1 hb), by omega, ?_, ?_, ?_⟩
  · intro id cells hid
    obtain ⟨o', a1, a2⟩ := h3 id _ hid
    cases o' with
    | box cs' => exact .inr ⟨cs', a1, (WkLs.get a2).1, rfl⟩
    | _ => simp [WkO] at a2
  · intro id fz sz ver xs hid
    obtain ⟨o', a1, a2⟩ := h3 id _ hid
    cases o' with
    | arr => simp [WkO] at a2; obtain ⟨rfl, rfl, rfl, rfl⟩ := a2; exact .inr ⟨_, _, _, _, a1, .inl ⟨rfl, rfl, rfl, rfl⟩⟩
    | _ => simp [WkO] at a2
  · intro id hid
    obtain ⟨o', a1, a2⟩ := h3 id _ hid
    cases o' with
    | dead => exact a1
    | _ => simp [WkO] at a2

theorem WkH.hrep (hw : WkH h h1) (H : HRep w μ h) : HRep w μ h1 := by
  have g : Good w μ h w μ h1 := hw.good
  obtain ⟨h0, h2, h3⟩ := hw.get
  refine ⟨?_, ?_, ?_, ?_, H.old⟩
  · intro id cells hid
    obtain ⟨o, a1, a2⟩ := h2 id _ hid
    cases o with
    | box cs =>
      obtain ⟨b, vs, T, b1, b2, b3, b4, b5⟩ := H.box id cs a1
      obtain ⟨c1, c2⟩ := WkLs.get a2
      refine ⟨b, vs, T, b1, b2, b3.trans c1.symm, b4, fun j l v hj hv => ?_⟩
      obtain ⟨l0, d1, d2⟩ := c2 j l hj
      exact d2.rep ((b5 j l0 v d1 hv).good g)
    | _ => simp [WkO] at a2
  · intro id fz sz ver xs hid
    obtain ⟨o, a1, a2⟩ := h2 id _ hid
    cases o with
    | arr =>
      simp [WkO] at a2
      obtain ⟨rfl, rfl, rfl, rfl⟩ := a2
      rcases H.arr _ _ _ _ _ a1 with hn | ⟨b, cs, T, e1, e2, e3, e4, e5, e6⟩
      · exact .inl hn
      · exact .inr ⟨b, cs, T, e1, e2, e3, e4, e5, fun i j e x hi hj => let ⟨v, p, q⟩ := e6 i j e x hi hj; ⟨v, p, q.good g⟩⟩
    | _ => simp [WkO] at a2
  · intro i j o o' b hi hj hl ht hb hb'
    obtain ⟨p, p1, p2⟩ := h2 i o hi
    obtain ⟨q, q1, q2⟩ := h2 j o' hj
    exact H.apart i j p q b p1 q1 (by rw [← p2.live.1]; exact hl) (by rw [← q2.live.2]; exact ht) hb hb'
  · intro i o b hi ht hb
    obtain ⟨p, p1, p2⟩ := h2 i o hi
    exact H.off i p b p1 (by rw [← p2.live.2]; exact ht) hb

end Go.Vt
