/- Own framework, part 18b: fewer objects. -/
import Derived.Test.YtladjgdhpfcmjaaGreatDoorVtOrd4
namespace Go.Vt

def lendR (h : AHeap) (ids : List Nat) : V → Option V
  | .tup vs => (lendVs h ids vs).map .tup
  | v => lendV h ids v

def fin (n : Nat) (ids : List Nat) (h : AHeap) (r : V) : Option (V × AHeap) :=
  if nodup ids = true ∧ ids.take n = List.range n then
    match handO h (idx ids) ids, lendR h ids r with
    | some hs, some r' => some (r', hs)
    | _, _ => none
  else none

variable {P : Program} {w w0 : World} {μ μ0 : Pl} {h h0 : AHeap} {T : Sl} {a : Act} {N : Nat} {df : List Deferred}

theorem lendR_rep {ids lent : List Nat} {hs : AHeap} (H : HRep w μ h) (hh : handO h (idx ids) ids = some hs) {v v' : V} {x : Value} (hx : RepV w μ h v x) (hr : lendR h ids v = some v') (hsub : ∀ id o, h[id]? = some o → id ∈ lent) : RepV w (lendPl μ h ids lent) hs v' x := by
  have one : ∀ {v v' : V} {x : Value}, RepV w μ h v x → lendV h ids v = some v' → RepV w (lendPl μ h ids lent) hs v' x := by
    intro v v' x hx hr
    refine lendV_rep H hh hx hr fun id hi => ?_
    have hlent := lendVs_lent (h := h) (ids := ids) (vs := [v]) (vs' := [v']) (by simp [lendVs, hr]) id (by simp [lentVs, hi])
    obtain ⟨_, ty, fz, sz, ver, xs, hid⟩ := hlent
    exact hsub id _ hid
  cases hx with
  | @tup vs cs e1 e2 =>
    simp only [lendR] at hr
    cases hl : lendVs h ids vs with
    | none => simp [hl] at hr
    | some vs' =>
      simp [hl] at hr
      subst hr
      obtain ⟨a1, a2⟩ := lendVs_get hl
      refine .tup (a1.trans e1) fun j l v hj hv => ?_
      obtain ⟨v0, b1, b2, _⟩ := a2 j l hj
      exact one (e2 j v0 v b1 hv) b2
  | one ho hl => exact one (.one ho hl) hr
  | top => exact one .top hr
  | agg e1 e2 e3 => exact one (.agg e1 e2 e3) hr

theorem keep_sound {ids : List Nat} {hs : AHeap} (H : HRep w μ h) (G : Good w0 μ0 h0 w μ h) (hn : nodup ids = true) (htk : ids.take h0.length = List.range h0.length) (hh : handO h (idx ids) ids = some hs) :
    ∃ μ', HRep w μ' hs ∧ (∀ r r' x, RepV w μ h r x → lendR h ids r = some r' → RepV w μ' hs r' x) ∧ Good w0 μ0 h0 w μ' hs := by
  have hX : (lendPl μ h ids (List.range h.length)).X = μ.X := by
    funext b
    apply propext
    constructor
    · rintro (hb | ⟨id, o, h1, _, _, _, h2⟩)
      · exact hb
      · exact absurd (List.mem_range.2 (List.getElem?_eq_some_iff.1 h1).1) h2
    · exact .inl
  have hid : ∀ id, id < h0.length → ids[id]? = some id := by
    intro id hlt
    have : (ids.take h0.length)[id]? = some id := by rw [htk]; simp [hlt]
    rw [List.getElem?_take] at this
    simpa [hlt] using this
  have hget : ∀ {id : Nat} {o : AObj}, id < h0.length → h[id]? = some o → ∃ o', hs[id]? = some o' ∧ renO (idx ids) o = some o' ∧ (lendPl μ h ids (List.range h.length)) id = μ id := by
    intro id o hlt ho
    exact lend_obj hh (idx_of hn (hid id hlt)) ho
  refine ⟨lendPl μ h ids (List.range h.length), lend_hrep hn H hh, fun r r' x hx hr => lendR_rep H hh hx hr (fun id o ho => List.mem_range.2 (List.getElem?_eq_some_iff.1 ho).1), ?_⟩
  refine ⟨G.os, G.tape, G.output, G.size, hX.trans G.out, G.block, G.shape, ?_, ?_, ?_, ?_, ?_⟩
  · intro b hb
    obtain ⟨k, id, o, _, a1, a2, a3⟩ := lend_lv hh hb
    exact G.fresh b ⟨id, o, a1, a2, a3⟩
  · rw [(handO_get hh).1]
    have : (ids.take h0.length).length = h0.length := by rw [htk]; simp
    rw [List.length_take] at this
    omega
  · intro id ty cells hb
    have hlt := (List.getElem?_eq_some_iff.1 hb).1
    rcases G.boxes id cells hb with hd | ⟨c1, y1, h1, e1, m1⟩
    · obtain ⟨o', a1, a2, a3⟩ := hget hlt hd
      cases a2
      exact .inl a1
    · obtain ⟨o', a1, a2, a3⟩ := hget hlt h1
      simp only [renO] at a2
      cases hc : renL.renLs (idx ids) c1 with
      | none => simp [hc] at a2
      | some c2 =>
        simp [hc] at a2
        subst a2
        exact .inr ⟨c2, _, a1, (renLs_get hc).1.trans e1, a3.trans m1⟩
  · intro id ty fz sz ver xs hb
    have hlt := (List.getElem?_eq_some_iff.1 hb).1
    rcases G.arrs id fz sz ver xs hb with hd | ⟨f1, s1, v1, x1, y1, h1, e1⟩
    · obtain ⟨o', a1, a2, a3⟩ := hget hlt hd
      cases a2
      exact .inl a1
    · obtain ⟨o', a1, a2, a3⟩ := hget hlt h1
      cases a2
      refine .inr ⟨f1, s1, v1, x1, _, a1, ?_⟩
      rcases e1 with ⟨b1, b2, b3, b4⟩ | e1
      · exact .inl ⟨b1, b2, b3, a3.trans b4⟩
      · exact .inr e1
  · intro id hb
    have hlt := (List.getElem?_eq_some_iff.1 hb).1
    obtain ⟨o', a1, a2, a3⟩ := hget hlt (G.deads id hb)
    cases a2
    exact a1

theorem fin_sound {ids : List Nat} {r r' : V} {hs : AHeap} {x : Value} (H : HRep w μ h) (G : Good w0 μ0 h0 w μ h) (hx : RepV w μ h r x) (hf : fin h0.length ids h r = some (r', hs)) :
    ∃ μ', HRep w μ' hs ∧ RepV w μ' hs r' x ∧ Good w0 μ0 h0 w μ' hs := by
  unfold fin at hf
  split at hf
  · rename_i hc
    split at hf
    · rename_i hs' r1 hh hr
      cases hf
      obtain ⟨μ', a, b, c⟩ := keep_sound H G hc.1 hc.2 hh
      exact ⟨μ', a, b _ _ _ hx hr, c⟩
    · cases hf
  · cases hf

end Go.Vt
