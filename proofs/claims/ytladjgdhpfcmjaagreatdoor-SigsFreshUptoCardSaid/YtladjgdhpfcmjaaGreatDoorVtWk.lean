/- Own framework, part 1b: less is known. -/
import Derived.Test.YtladjgdhpfcmjaaGreatDoorVtBase
import Derived.Test.YtladjgdhpfcmjaaGreatDoorVtVop
namespace Go.Vt

def WkL (l l' : L) : Prop := l = l' ∨ (l = .nils ∧ l' = .d (.sl [])) ∨ l' = .any

def WkLs : List L → List L → Prop
  | [], [] => True
  | l :: r, l' :: r' => WkL l l' ∧ WkLs r r'
  | _, _ => False

def WkV : V → V → Prop
  | .one l, .one l' => WkL l l'
  | .agg ls, .agg ls' => WkLs ls ls'
  | .tup vs, .tup vs' => all vs vs'
  | _, .one .any => True
  | _, _ => False
  where
  all : List V → List V → Prop
    | [], [] => True
    | v :: r, v' :: r' => WkV v v' ∧ all r r'
    | _, _ => False

def WkO : AObj → AObj → Prop
  | .bx ty cs, .bx ty' cs' => (ty' = ty ∨ ty' = none) ∧ WkLs cs cs'
  | o, o' => o = o'

def WkH : AHeap → AHeap → Prop
  | [], [] => True
  | o :: r, o' :: r' => WkO o o' ∧ WkH r r'
  | _, _ => False

theorem WkL.refl (l : L) : WkL l l := .inl rfl
theorem WkLs.refl : ∀ ls : List L, WkLs ls ls
  | [] => trivial
  | _ :: r => ⟨.inl rfl, WkLs.refl r⟩
mutual
theorem WkV.refl : ∀ v : V, WkV v v
  | .one l => by unfold WkV; exact .inl rfl
  | .agg ls => by unfold WkV; exact WkLs.refl ls
  | .tup vs => by unfold WkV; exact WkV.allRefl vs
theorem WkV.allRefl : ∀ vs : List V, WkV.all vs vs
  | [] => trivial
  | v :: r => ⟨WkV.refl v, WkV.allRefl r⟩
end
theorem WkO.refl (o : AObj) : WkO o o := by cases o <;> first | exact ⟨.inl rfl, WkLs.refl _⟩ | rfl
theorem WkH.refl : ∀ h : AHeap, WkH h h
  | [] => trivial
  | o :: r => ⟨WkO.refl o, WkH.refl r⟩

variable {w : World} {μ : Pl} {h h1 : AHeap}

theorem WkL.rep {l l' : L} {v : Value} (hw : WkL l l') (hl : RepL w μ h l v) : RepL w μ h l' v := by
  rcases hw with rfl | ⟨rfl, rfl⟩ | rfl
  · exact hl
  · cases hl; exact .d (.sl0 _ _)
  · exact .any

theorem WkLs.get : ∀ {ls ls' : List L}, WkLs ls ls' → ls'.length = ls.length ∧ ∀ (j : Nat) (l' : L), ls'[j]? = some l' → ∃ l, ls[j]? = some l ∧ WkL l l'
  | [], [], _ => ⟨rfl, by simp⟩
  | l :: r, l' :: r', hw => by
    obtain ⟨h1, h2⟩ := WkLs.get hw.2
    refine ⟨by simp [h1], fun j x hj => ?_⟩
    cases j with
    | zero => simp at hj; subst hj; exact ⟨l, rfl, hw.1⟩
    | succ j => obtain ⟨y, a, b⟩ := h2 j x (by simpa using hj); exact ⟨y, by simpa using a, b⟩
  | [], _ :: _, hw => hw.elim
  | _ :: _, [], hw => hw.elim

theorem WkVs.get : ∀ {ls ls' : List V}, WkV.all ls ls' → ls'.length = ls.length ∧ ∀ (j : Nat) (l' : V), ls'[j]? = some l' → ∃ l, ls[j]? = some l ∧ WkV l l'
  | [], [], _ => ⟨rfl, by simp⟩
  | l :: r, l' :: r', hw => by
    obtain ⟨h1, h2⟩ := WkVs.get hw.2
    refine ⟨by simp [h1], fun j x hj => ?_⟩
    cases j with
    | zero => simp at hj; subst hj; exact ⟨l, rfl, hw.1⟩
    | succ j => obtain ⟨y, a, b⟩ := h2 j x (by simpa using hj); exact ⟨y, by simpa using a, b⟩
  | [], _ :: _, hw => hw.elim
  | _ :: _, [], hw => hw.elim

theorem WkV.rep {v v' : V} {x : Value} (hl : RepV w μ h v x) : WkV v v' → RepV w μ h v' x := by
  induction hl generalizing v' with
  | @one l x ho hl =>
    intro hw
    cases v' with
    | one l' => unfold WkV at hw; exact .one ho (hw.rep hl)
    | _ => simp [WkV] at hw
  | top =>
    intro hw
    cases v' with
    | one l' =>
      unfold WkV at hw
      rcases hw with rfl | ⟨e, _⟩ | rfl
      · exact .top
      · cases e
      · exact .top
    | _ => simp [WkV] at hw
  | @agg ls cs e1 e2 e3 =>
    intro hw
    cases v' with
    | one l' =>
      cases l' <;> simp [WkV] at hw
      exact .top
    | agg ls' =>
      unfold WkV at hw
      obtain ⟨a1, a2⟩ := hw.get
      refine .agg (a1.trans e1) (fun j l v hj hv => ?_) e3
      obtain ⟨l0, b1, b2⟩ := a2 j l hj
      exact b2.rep (e2 j l0 v b1 hv)
    | tup _ => simp [WkV] at hw
  | @tup vs cs e1 _ ih =>
    intro hw
    cases v' with
    | one l' =>
      cases l' <;> simp [WkV] at hw
      exact .top
    | tup vs' =>
      unfold WkV at hw
      obtain ⟨a1, a2⟩ := WkVs.get hw
      refine .tup (a1.trans e1) (fun j l v hj hv => ?_)
      obtain ⟨l0, b1, b2⟩ := a2 j l hj
      exact ih j l0 v b1 hv b2
    | agg _ => simp [WkV] at hw

theorem WkH.get : ∀ {h h1 : AHeap}, WkH h h1 → h1.length = h.length ∧ (∀ (j : Nat) (o' : AObj), h1[j]? = some o' → ∃ o, h[j]? = some o ∧ WkO o o') ∧ ∀ (j : Nat) (o : AObj), h[j]? = some o → ∃ o', h1[j]? = some o' ∧ WkO o o'
  | [], [], _ => ⟨rfl, by simp, by simp⟩
  | l :: r, l' :: r', hw => by
    obtain ⟨h1, h2, h3⟩ := WkH.get hw.2
    refine ⟨by simp [h1], fun j x hj => ?_, fun j x hj => ?_⟩
    · cases j with
      | zero => simp at hj; subst hj; exact ⟨l, rfl, hw.1⟩
      | succ j => obtain ⟨y, a, b⟩ := h2 j x (by simpa using hj); exact ⟨y, by simpa using a, b⟩
    · cases j with
      | zero => simp at hj; subst hj; exact ⟨l', rfl, hw.1⟩
      | succ j => obtain ⟨y, a, b⟩ := h3 j x (by simpa using hj); exact ⟨y, by simpa using a, b⟩
  | [], _ :: _, hw => hw.elim
  | _ :: _, [], hw => hw.elim

theorem WkO.live {o o' : AObj} (hw : WkO o o') : o'.live = o.live ∧ o'.there = o.there := by
  cases o <;> cases o' <;> simp_all [WkO, AObj.live, AObj.there]

theorem WkH.lv (hw : WkH h h1) (b : Nat) : Lv μ h1 b ↔ Lv μ h b := by
  obtain ⟨_, h2, h3⟩ := hw.get
  constructor
  · rintro ⟨id, o', a1, a2, a3⟩
    obtain ⟨o, b1, b2⟩ := h2 id o' a1
    exact ⟨id, o, b1, by rw [← b2.live.1]; exact a2, a3⟩
  · rintro ⟨id, o, a1, a2, a3⟩
    obtain ⟨o', b1, b2⟩ := h3 id o a1
    exact ⟨id, o', b1, by rw [b2.live.1]; exact a2, a3⟩

theorem WkH.good (hw : WkH h h1) : Good w μ h w μ h1 := by
  obtain ⟨h0, h2, h3⟩ := hw.get
  refine ⟨rfl, rfl, rfl, Nat.le_refl _, rfl, fun _ _ _ => rfl, fun _ cs _ _ hb => ⟨cs, _, hb, rfl⟩, fun b hb => .inl ((hw.lv b).1 hb), by omega, ?_, ?_, ?_⟩
  · intro id ty cells hid
    obtain ⟨o', a1, a2⟩ := h3 id _ hid
    cases o' with
    | bx ty cs' => exact .inr ⟨cs', ty, a1, (WkLs.get a2.2).1, rfl⟩
    | _ => simp [WkO] at a2
  · intro id ty fz sz ver xs hid
    obtain ⟨o', a1, a2⟩ := h3 id _ hid
    cases o' with
    | ar => simp [WkO] at a2; obtain ⟨rfl, rfl, rfl, rfl, rfl⟩ := a2; exact .inr ⟨_, _, _, _, _, a1, .inl ⟨rfl, rfl, rfl, rfl⟩⟩
    | _ => simp [WkO] at a2
  · intro id hid
    obtain ⟨o', a1, a2⟩ := h3 id _ hid
    cases o' with
    | dead => exact a1
    | _ => simp [WkO] at a2

theorem WkH.hrep (hw : WkH h h1) (H : HRep w μ h) : HRep w μ h1 := by
  have g : Good w μ h w μ h1 := hw.good
  obtain ⟨h0, h2, h3⟩ := hw.get
  refine ⟨?_, ?_, ?_, ?_, H.old, fun i o b hi hb => by
    obtain ⟨p, p1, p2⟩ := h2 i o hi
    have h0 := H.ty i p b p1 hb
    cases p <;> cases o <;> simp [WkO] at p2
    · rename_i t cs t' cs'
      obtain ⟨e | e, p2⟩ := p2
      · subst e
        have := (WkLs.get p2).1
        cases t' with
        | none => trivial
        | some T => simp only [AObj.tyOk] at h0 ⊢; rw [this]; exact h0
      · subst e; trivial
    · obtain ⟨rfl, rfl, rfl, rfl, rfl⟩ := p2; exact h0
    · exact h0⟩
  · intro id ty cells hid
    obtain ⟨o, a1, a2⟩ := h2 id _ hid
    cases o with
    | bx ty cs =>
      obtain ⟨b, vs, T, b1, b2, b3, b4, b5⟩ := H.box id cs a1
      obtain ⟨c1, c2⟩ := WkLs.get a2.2
      refine ⟨b, vs, T, b1, b2, by omega, b4, fun j l v hj hv => ?_⟩
      obtain ⟨l0, d1, d2⟩ := c2 j l hj
      exact d2.rep ((b5 j l0 v d1 hv).good g)
    | _ => simp [WkO] at a2
  · intro id ty fz sz ver xs hid
    obtain ⟨o, a1, a2⟩ := h2 id _ hid
    cases o with
    | ar =>
      simp [WkO] at a2
      obtain ⟨rfl, rfl, rfl, rfl, rfl⟩ := a2
      rcases H.arr _ _ _ _ _ a1 with hn | ⟨b, cs, T, e1, e2, e3, e4, e5, e6⟩
      · exact .inl hn
      · exact .inr ⟨b, cs, T, e1, e2, e3, e4, e5, fun i j e x hi hj => let ⟨v, p, q⟩ := e6 i j e x hi hj; ⟨v, p, q.good g⟩⟩
    | _ => simp [WkO] at a2
  · intro i j o o' b hi hj hl ht hb hb'
    obtain ⟨p, p1, p2⟩ := h2 i o hi
    obtain ⟨q, q1, q2⟩ := h2 j o' hj
    exact H.apart i j p q b p1 q1 (by rw [← p2.live.1]; exact hl) (by rw [← q2.live.2]; exact ht) hb hb'
  · intro i o b hi ht hb
    obtain ⟨p, p1, p2⟩ := h2 i o hi
    exact H.off i p b p1 (by rw [← p2.live.2]; exact ht) hb

end Go.Vt
namespace Go.Vt

def callable (P : Program) (f : FuncId) : Bool := match P.funcs[f]? with
  | some fn => fn.name != "runtime.NumGoroutine" && fn.body.isSome
  | none => false

def VC (P : Program) (f : FuncId) (avs : List V) (h : AHeap) (Post : V → AHeap → Prop) : Prop :=
  callable P f = true ∧ ∀ (w : World) (μ : Pl) (args : Array Value), HRep w μ h → avs.length = args.size → (∀ (j : Nat) (v : V) (x : Value), avs[j]? = some v → args[j]? = some x → RepV w μ h v x) →
    CallsIn Fence.wide 0 P f args w fun e w' => ∃ r x h' μ', e = .returned x ∧ Post r h' ∧ HRep w' μ' h' ∧ RepV w' μ' h' r x ∧ Good w μ h w' μ' h'

theorem VC.mono {P : Program} {f : FuncId} {avs : List V} {h : AHeap} {Post Post' : V → AHeap → Prop} (hc : VC P f avs h Post) (hp : ∀ r h', Post r h' → Post' r h') : VC P f avs h Post' :=
  ⟨hc.1, fun w μ args H hl ha => (hc.2 w μ args H hl ha).mono fun _ _ ⟨r, x, h', μ', e, p, a, b, c⟩ => ⟨r, x, h', μ', e, hp _ _ p, a, b, c⟩⟩

def idx : List Nat → Nat → Option Nat
  | [], _ => none
  | i :: r, id => if i = id then some 0 else (idx r id).map (· + 1)

def renL (m : Nat → Option Nat) : L → Option L
  | .d x => some (.d x)
  | .nils => some .nils
  | .own id ver len => (m id).map fun k => .own k ver len
  | .ptr id off => (m id).map fun k => .ptr k off
  | .ept id ver i j => (m id).map fun k => .ept k ver i j
  | .ref cells => some (.ref cells)
  | .fn f caps => (renLs m caps).map (.fn f)
  | .nilf => some .nilf
  | .any => some .any
  | .bsl id off len => (m id).map fun k => .bsl k off len
  | .osl id ver off len => (m id).map fun k => .osl k ver off len
  | .nili => some .nili
  | .fb f fst => (renLs m fst).map (.fb f)
  where
  renLs (m : Nat → Option Nat) : List L → Option (List L)
    | [] => some []
    | l :: r => match renL m l, renLs m r with
      | some x, some xs => some (x :: xs)
      | _, _ => none

def lendL (h : AHeap) (ids : List Nat) : L → Option L
  | .own id ver len => match idx ids id with
    | some k => some (.own k ver len)
    | none => match h[id]? with
      | some (.ar ty _ _ ver' xs) => if ver' = ver then some (.d (.sl (xs.take len))) else none
      | _ => none
  | l => renL (idx ids) l

def lendLs (h : AHeap) (ids : List Nat) : List L → Option (List L)
  | [] => some []
  | l :: r => match lendL h ids l, lendLs h ids r with
    | some x, some xs => some (x :: xs)
    | _, _ => none

def lendV (h : AHeap) (ids : List Nat) : V → Option V
  | .one l => (lendL h ids l).map .one
  | .agg ls => (lendLs h ids ls).map .agg
  | .tup _ => none

def lendVs (h : AHeap) (ids : List Nat) : List V → Option (List V)
  | [] => some []
  | v :: r => match lendV h ids v, lendVs h ids r with
    | some x, some xs => some (x :: xs)
    | _, _ => none

def lentL (ids : List Nat) : L → List Nat
  | .own id _ _ => match idx ids id with
    | some _ => []
    | none => [id]
  | _ => []

def lentLs (ids : List Nat) : List L → List Nat
  | [] => []
  | l :: r => lentL ids l ++ lentLs ids r

def lentV (ids : List Nat) : V → List Nat
  | .one l => lentL ids l
  | .agg ls => lentLs ids ls
  | .tup _ => []

def lentVs (ids : List Nat) : List V → List Nat
  | [] => []
  | v :: r => lentV ids v ++ lentVs ids r

def renO (m : Nat → Option Nat) : AObj → Option AObj
  | .bx ty cells => (renL.renLs m cells).map (.bx ty)
  | o => some o

def renV (m : Nat → Option Nat) : V → Option V
  | .one l => (renL m l).map .one
  | .agg ls => (renL.renLs m ls).map .agg
  | .tup vs => (renVs m vs).map .tup
  where
  renVs (m : Nat → Option Nat) : List V → Option (List V)
    | [] => some []
    | v :: r => match renV m v, renVs m r with
      | some x, some xs => some (x :: xs)
      | _, _ => none

def handO (h : AHeap) (m : Nat → Option Nat) : List Nat → Option AHeap
  | [] => some []
  | id :: r => match h[id]? with
    | some o => match renO m o, handO h m r with
      | some x, some xs => some (x :: xs)
      | _, _ => none
    | none => none

def homeId (ids : List Nat) (n : Nat) (k : Nat) : Option Nat := match ids[k]? with
  | some id => some id
  | none => some (n + (k - ids.length))

def renOs (m : Nat → Option Nat) : AHeap → Option AHeap
  | [] => some []
  | o :: r => match renO m o, renOs m r with
    | some x, some xs => some (x :: xs)
    | _, _ => none

def putBack (h : AHeap) : List Nat → AHeap → AHeap
  | id :: r, o :: os => putBack (h.set id o) r os
  | _, _ => h

def fzIds (h : AHeap) : List Nat → AHeap
  | [] => h
  | id :: r => fzIds (fzOne h id) r

def flatL : L → Bool
  | .d (.bool _) => true
  | .d (.int _ _) => true
  | .d (.str _) => true
  | .d .nilp => true
  | .nils => true
  | .nilf => true
  | .nili => true
  | _ => false

def flatV : V → Bool
  | .one l => flatL l
  | .agg ls => ls.all flatL
  | .tup vs => flatVs vs
  where
  flatVs : List V → Bool
    | [] => true
    | v :: r => flatV v && flatVs r

def back (h : AHeap) (ids lent : List Nat) (r : V) (hs : AHeap) : Option (V × AHeap) :=
  if ids.isEmpty && flatV r && hs.isEmpty then some (r, h) else
  match renV (homeId ids h.length) r, renOs (homeId ids h.length) hs with
  | some r', some os => some (r', putBack (fzIds h lent) ids (os.take ids.length) ++ os.drop ids.length)
  | _, _ => none

def nodup : List Nat → Bool
  | [] => true
  | x :: r => !r.contains x && nodup r

def vcall0 (P : Program) (f : FuncId) (avs : List V) (h : AHeap) (K : V → AHeap → Prop) : Prop :=
  ∃ (ids : List Nat) (avs' : List V) (hs : AHeap) (Post : V → AHeap → Prop), nodup ids = true ∧ lendVs h ids avs = some avs' ∧ handO h (idx ids) ids = some hs ∧ VC P f avs' hs Post ∧
    ∀ r hs', Post r hs' → ∃ r' h', back h ids (lentVs ids avs) r hs' = some (r', h') ∧ K r' h'

def nilOwn (h : AHeap) (id k sz : Nat) : Option AHeap := match h[id]? with
  | some (.bx ty cs) => match cs[k]? with
    | some .nils => some ((h ++ [AObj.arr false sz 0 []]).set id (.bx ty (cs.set k (.own h.length 0 0))))
    | _ => none
  | _ => none

def nilOwns (h : AHeap) : List (Nat × Nat × Nat) → Option AHeap
  | [] => some h
  | (id, k, sz) :: r => match nilOwn h id k sz with
    | some h' => nilOwns h' r
    | none => none

def vcall (P : Program) (f : FuncId) (avs : List V) (h : AHeap) (K : V → AHeap → Prop) : Prop :=
  ∃ (bs : List (Nat × Nat × Nat)) (hn : AHeap) (avs1 : List V) (h1 : AHeap), nilOwns h bs = some hn ∧ WkV.all avs avs1 ∧ WkH hn h1 ∧ vcall0 P f avs1 h1 K

end Go.Vt
