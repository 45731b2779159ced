/- What differs in bound stamps alone is as great. -/
import Derived.Test.YtladjgdhpfcmjaaGreatDoorVtW9
import Derived.Test.YtladjgdhpfcmjaaGreatDoorVtA1
set_option maxRecDepth 100000
namespace Go.Vt.Tryz
open Go.Proofs Go.Vt.Al

theorem al_tyn {A B : List Int} : ∀ (t t' : Ty), alTy A B t t' → tyn t' = tyn t := by
  intro t
  induction t using Ty.ind with
  | h k n l ih =>
  rintro ⟨k', n', l'⟩ ⟨_, _, h3⟩
  have g : ∀ (l l' : List Ty), (∀ t ∈ l, ∀ t', alTy A B t t' → tyn t' = tyn t) → alTy.go A B l l' → tyn.go l' = tyn.go l := by
    intro l
    induction l with
    | nil => intro l' _ h; rw [show l' = [] from h]
    | cons t r ih2 =>
      rintro l' hi ⟨t', r', rfl, h1, h2⟩
      simp only [tyn.go]
      rw [hi t (by simp) t' h1, ih2 r' (fun t ht => hi t (by simp [ht])) h2]
  simp only [tyn]
  rw [g l l' ih h3]

theorem al_tyns {A B : List Int} : ∀ (l l' : List Ty), alTy.go A B l l' → tyn.go l' = tyn.go l
  | [], _, h => by rw [show _ = [] from h]
  | t :: r, _, ⟨t', r', e, h1, h2⟩ => by
    subst e
    simp only [tyn.go]
    rw [al_tyn t t' h1, al_tyns r r' h2]

theorem all2_sumN {α : Type} {R : α → α → Prop} {f : α → Nat} : ∀ {l r : List α}, (∀ a b, R a b → f b = f a) → all2 R l r → sumN f r = sumN f l
  | [], [], _, _ => rfl
  | a :: l, b :: r, h, ⟨h1, h2⟩ => by simp only [sumN]; rw [h a b h1, all2_sumN h h2]
  | [], _ :: _, _, h => h.elim
  | _ :: _, [], _, h => h.elim

theorem all2_mem {α : Type} {R : α → α → Prop} : ∀ {l r : List α} {b : α}, all2 R l r → b ∈ r → ∃ a ∈ l, R a b
  | [], [], _, _, h => by cases h
  | a :: l, c :: r, b, ⟨h1, h2⟩, hb => by
    rcases List.mem_cons.1 hb with rfl | hb
    · exact ⟨a, by simp, h1⟩
    · obtain ⟨x, hx, h⟩ := all2_mem h2 hb
      exact ⟨x, by simp [hx], h⟩
  | [], _ :: _, _, h, _ => h.elim
  | _ :: _, [], _, h, _ => h.elim

theorem al_ctn {A B : List Int} {a b : Ct} (h : alCt A B a b) : ctn b = ctn a := by
  unfold ctn
  rw [al_tyns _ _ h.2]
theorem al_tymn {A B : List Int} {a b : Tym} (h : alTym A B a b) : tymn b = tymn a := by
  unfold tymn
  rw [al_tyn _ _ h.2.1, all2_sumN (f := ctn) (fun a b hab => al_ctn hab) h.2.2]
theorem al_vamn {A B : List Int} {a b : Vam} (h : alVam A B a b) : vamn b = vamn a := by
  unfold vamn
  rw [al_tyn _ _ h.2.2]

theorem al_stn : ∀ (s s' : Stx) (A B : List Int), alSt A B s s' → stn s' = stn s := by
  intro s
  induction s using Stx.ind with
  | h ts vs ss fs gs i1 i2 i3 =>
  rintro ⟨ts', vs', ss', fs', gs'⟩ A B hst
  rw [alSt] at hst
  obtain ⟨h1, h2, h3, h4, h5⟩ := hst
  have e3 : stn.goS ss' = stn.goS ss := by
    have g : ∀ (l r : List (ByteArray × Stx)), (∀ x ∈ l, ∀ s' A B, alSt A B x.2 s' → stn s' = stn x.2) → alSt.goS A B l r → stn.goS r = stn.goS l := by
      intro l
      induction l with
      | nil => intro r _ h; rw [alSt.goS] at h; rw [h]
      | cons x l ih =>
        obtain ⟨s, x⟩ := x
        intro r hi h
        rw [alSt.goS] at h
        obtain ⟨x', r', rfl, k1, k2⟩ := h
        simp only [stn.goS]
        rw [hi (s, x) (by simp) x' A B k1, ih r' (fun y hy => hi y (by simp [hy])) k2]
    exact g ss ss' i1 h3
  have e4 : stn.goF fs' = stn.goF fs := by
    have g : ∀ (l r : List (ByteArray × List Int × Stx × List Int × Stx)), (∀ x ∈ l, (∀ s' A B, alSt A B x.2.2.1 s' → stn s' = stn x.2.2.1) ∧ (∀ s' A B, alSt A B x.2.2.2.2 s' → stn s' = stn x.2.2.2.2)) → alSt.goF A B l r → stn.goF r = stn.goF l := by
      intro l
      induction l with
      | nil => intro r _ h; rw [alSt.goF] at h; rw [h]
      | cons x l ih =>
        obtain ⟨s, p, x, q, y⟩ := x
        intro r hi h
        rw [alSt.goF] at h
        obtain ⟨p', x', q', y', r', rfl, e1, e2, k1, k2, k3⟩ := h
        have k := hi (s, p, x, q, y) (by simp)
        simp only [stn.goF]
        rw [k.1 x' _ _ k1, k.2 y' _ _ k2, ih r' (fun y hy => hi y (by simp [hy])) k3, e1, e2]
    exact g fs fs' i2 h4
  have e5 : stn.goG gs' = stn.goG gs := by
    have g : ∀ (l r : List (ByteArray × List Int × Stx)), (∀ x ∈ l, ∀ s' A B, alSt A B x.2.2 s' → stn s' = stn x.2.2) → alSt.goG A B l r → stn.goG r = stn.goG l := by
      intro l
      induction l with
      | nil => intro r _ h; rw [alSt.goG] at h; rw [h]
      | cons x l ih =>
        obtain ⟨s, q, y⟩ := x
        intro r hi h
        rw [alSt.goG] at h
        obtain ⟨q', y', r', rfl, e1, k1, k2⟩ := h
        simp only [stn.goG]
        rw [hi (s, q, y) (by simp) y' _ _ k1, ih r' (fun y hy => hi y (by simp [hy])) k2, e1]
    exact g gs gs' i3 h5
  simp only [stn]
  rw [all2_sumN (f := tymn) (fun a b hab => al_tymn hab) h1, all2_sumN (f := vamn) (fun a b hab => al_vamn hab) h2, e3, e4, e5]

theorem al_nm : ∀ (s s' : Stx) (A B : List Int), alSt A B s s' → nmOk s → nmOk s' := by
  intro s
  induction s using Stx.ind with
  | h ts vs ss fs gs i1 i2 i3 =>
  rintro ⟨ts', vs', ss', fs', gs'⟩ A B hst hn
  rw [alSt] at hst
  obtain ⟨h1, h2, h3, h4, h5⟩ := hst
  simp only [nmOk] at hn ⊢
  obtain ⟨n1, n2, n3, n4, n5⟩ := hn
  refine ⟨fun m hm => ?_, fun m hm => ?_, ?_, ?_, ?_⟩
  · obtain ⟨a, ha, h⟩ := all2_mem h1 hm
    rw [← h.1]
    exact n1 a ha
  · obtain ⟨a, ha, h⟩ := all2_mem h2 hm
    rw [← h.1]
    exact n2 a ha
  · have g : ∀ (l r : List (ByteArray × Stx)), (∀ x ∈ l, ∀ s' A B, alSt A B x.2 s' → nmOk x.2 → nmOk s') → alSt.goS A B l r → nmOk.goS l → nmOk.goS r := by
      intro l
      induction l with
      | nil => intro r _ h _; rw [alSt.goS] at h; rw [h]; trivial
      | cons x l ih =>
        obtain ⟨s, x⟩ := x
        intro r hi h hn
        rw [alSt.goS] at h
        obtain ⟨x', r', rfl, k1, k2⟩ := h
        simp only [nmOk.goS] at hn ⊢
        exact ⟨hn.1, hi (s, x) (by simp) x' A B k1 hn.2.1, ih r' (fun y hy => hi y (by simp [hy])) k2 hn.2.2⟩
    exact g ss ss' i1 h3 n3
  · have g : ∀ (l r : List (ByteArray × List Int × Stx × List Int × Stx)), (∀ x ∈ l, (∀ s' A B, alSt A B x.2.2.1 s' → nmOk x.2.2.1 → nmOk s') ∧ (∀ s' A B, alSt A B x.2.2.2.2 s' → nmOk x.2.2.2.2 → nmOk s')) → alSt.goF A B l r → nmOk.goF l → nmOk.goF r := by
      intro l
      induction l with
      | nil => intro r _ h _; rw [alSt.goF] at h; rw [h]; trivial
      | cons x l ih =>
        obtain ⟨s, p, x, q, y⟩ := x
        intro r hi h hn
        rw [alSt.goF] at h
        obtain ⟨p', x', q', y', r', rfl, e1, e2, k1, k2, k3⟩ := h
        have k := hi (s, p, x, q, y) (by simp)
        simp only [nmOk.goF] at hn ⊢
        exact ⟨hn.1, k.1 x' _ _ k1 hn.2.1, k.2 y' _ _ k2 hn.2.2.1, ih r' (fun y hy => hi y (by simp [hy])) k3 hn.2.2.2⟩
    exact g fs fs' i2 h4 n4
  · have g : ∀ (l r : List (ByteArray × List Int × Stx)), (∀ x ∈ l, ∀ s' A B, alSt A B x.2.2 s' → nmOk x.2.2 → nmOk s') → alSt.goG A B l r → nmOk.goG l → nmOk.goG r := by
      intro l
      induction l with
      | nil => intro r _ h _; rw [alSt.goG] at h; rw [h]; trivial
      | cons x l ih =>
        obtain ⟨s, q, y⟩ := x
        intro r hi h hn
        rw [alSt.goG] at h
        obtain ⟨q', y', r', rfl, e1, k1, k2⟩ := h
        simp only [nmOk.goG] at hn ⊢
        exact ⟨hn.1, hi (s, q, y) (by simp) y' _ _ k1 hn.2.1, ih r' (fun y hy => hi y (by simp [hy])) k2 hn.2.2⟩
    exact g gs gs' i3 h5 n5

end Go.Vt.Tryz
