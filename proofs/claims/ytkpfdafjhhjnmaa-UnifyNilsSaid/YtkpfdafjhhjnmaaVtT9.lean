/- UnifyNils: on a nil store every method answers as the document says, for every input. -/
import Derived.Test.YtkpfdafjhhjnmaaVtT8
import Derived.Test.YtkpfdafjhhjnmaaRows
import Derived.ProofKit
set_option maxRecDepth 100000
namespace Go.Proofs.Ytkpfdafjhhjnmaa
open Go.ChangeShapes Go.WideShapes Go.ChangeAt Go.RowKit Go.Vt Go.Vt.Try

theorem Try.own : ownKnob Try.prog.godebug = none := by kernel_rfl
theorem Try.laidOut : laidOutB Try.prog = true := by kernel_rfl
theorem c29 : Try.prog.cellsOf 29 = 3 := by kernel_rfl
theorem c3 : Try.prog.cellsOf 3 = 1 := by kernel_rfl
theorem c27 : Try.prog.cellsOf 27 = 1 := by kernel_rfl

section
variable {H : Type} {enc : TypeId × Value → H} {w : World} {sp : Nat → Bool} {held : Bool}

theorem trod3 {fuel : Nat} {c : Value} {x : DataW H × List MemPlace} (h : DataW.trod enc Try.prog w 0 sp held fuel 3 [c] = some x) : ∃ n, c = .int .i64 n := by
  cases fuel with
  | zero => simp [DataW.trod] at h
  | succ fuel =>
    unfold DataW.trod at h
    rw [Try.underlying3] at h
    cases c <;> simp at h
    exact ⟨_, by rw [h.1.1]⟩

theorem trod27 {fuel : Nat} {c : Value} {x : DataW H × List MemPlace} (h : DataW.trod enc Try.prog w 0 sp held fuel 27 [c] = some x) : c.oneCell' = true := by
  cases fuel with
  | zero => simp [DataW.trod] at h
  | succ fuel =>
    unfold DataW.trod at h
    rw [Try.underlying27] at h
    cases c <;> first | rfl | simp at h

theorem open29 {v : Value} {d : DataW H} {ps : List MemPlace} (h : DataW.Trod enc Try.prog w 0 sp held 29 v d ps) : ∃ (k n : Int) (s : Value), v.cells.toList = [.int .i64 k, .int .i64 n, s] ∧ s.oneCell' = true := by
  obtain ⟨fuel, h⟩ := h
  generalize v.cells.toList = cs at h
  cases fuel with
  | zero => simp [DataW.trod] at h
  | succ fuel =>
    unfold DataW.trod at h
    rw [Try.underlying29] at h
    simp only [c29, c3, c27] at h
    split at h
    · rename_i hl
      match cs, hl with
      | [a, b, c], _ =>
        simp only [List.mapM_cons, List.mapM_nil, List.drop, List.take, c3, c27] at h
        cases h1 : DataW.trod enc Try.prog w 0 sp held fuel 3 [a] with
        | none => simp [h1] at h
        | some x1 =>
          cases h2 : DataW.trod enc Try.prog w 0 sp held fuel 3 [b] with
          | none => simp [h1, h2] at h
          | some x2 =>
            cases h3 : DataW.trod enc Try.prog w 0 sp held fuel 27 [c] with
            | none => simp [h1, h2, h3] at h
            | some x3 =>
              obtain ⟨k, rfl⟩ := trod3 h1
              obtain ⟨n, rfl⟩ := trod3 h2
              exact ⟨k, n, c, rfl, trod27 h3⟩
    · cases h

theorem any_rep {μ : Pl} {h : AHeap} {v : Value} {k n : Int} {s : Value} {cs : Array Value} (hv : v = .agg cs) (hc : v.cells.toList = [.int .i64 k, .int .i64 n, s]) (hs : s.oneCell' = true) : RepV w μ h anyV v := by
  subst hv
  have hcs : cs = #[.int .i64 k, .int .i64 n, s] := by
    apply Array.toList_inj.1
    exact hc
  subst hcs
  refine .agg rfl (fun j l v hj hv => ?_) (fun v hv => ?_)
  · have : l = .any := by
      match j, hj with
      | 0, hj => simp at hj; exact hj.symm
      | 1, hj => simp at hj; exact hj.symm
      | 2, hj => simp at hj; exact hj.symm
      | _ + 3, hj => simp at hj
    subst this
    exact .any
  · simp at hv
    rcases hv with rfl | rfl | rfl
    · rfl
    · rfl
    · exact hs
end

/-- The world as the call finds it: no objects; nothing that may be written. -/
def pl0 : Pl := { at_ := fun _ => none, X := fun _ => False }
theorem hrep0 (w : World) : HRep w pl0 [] := ⟨by simp, by simp, by simp, by simp, fun b h => h.elim⟩

theorem below_of {w w' : World} {μ' : Pl} {h' : AHeap} (g : Go.Vt.Good w pl0 [] w' μ' h') : Below w.heap.size w w' :=
  ⟨g.os, g.tape, g.output, g.size, fun b hb => g.block b hb (by rintro ⟨id, o, h1, _⟩; simp at h1)⟩

theorem post_of_below {H : Type} {enc : TypeId × Value → H} {P : Program} {f : Func} {s : ChangeSpec} {apart fresh handsOn again : Bool} {W W' : World} {args : Array Value} {v : Value} {ds gs : List (DataW H)} {before pa pv : List MemPlace}
    (hW : DataW.Whole enc P f.params.toList s.vars apart W args.toList ds gs before) (hb : Below W.heap.size W W')
    (hres : ∀ (b : Nat) (sp : Nat → Bool) (hd : Bool), DataW.TrodAll enc P W' b sp hd f.resultTypes.toList (v.resultList f.resultTypes.size) (s.fn H (ds ++ gs)).results [])
    (hargs : ∀ sp : Nat → Bool, (∀ p ∈ before, sp p.block = true) → DataW.TrodAll enc P W' 0 sp true f.params.toList args.toList (s.fn H (ds ++ gs)).args pa)
    (hvars : ∀ sp : Nat → Bool, (∀ p ∈ before, sp p.block = true) → DataW.TrodVars enc P W' sp s.vars (s.fn H (ds ++ gs)).vars pv)
    (hps : before = pa ++ pv)
    (hok : ∀ (j : Nat) (t : TypeId) (r : Value), f.resultTypes[j]? = some t → (v.resultList f.resultTypes.size)[j]? = some r → Value.okWide P W' .any 0 t r) :
    s.post enc P f apart fresh handsOn again W args v W' := by
  have hold : ∀ p ∈ before, (fun b => decide (b < W.heap.size)) p.block = true := fun p hp => by simpa using hW.lt p hp
  have hlt := hW.lt
  refine ⟨ds, gs, before, [], pa, pv, hW, hres _ _ _, hargs _ hold, hvars _ hold, World.keptBut_mono (fun p hp => ⟨hp, ?_⟩) (hb.frame (· ∈ before)), fun _ => ?_⟩
  · rw [hps, List.mem_append] at hp
    exact Or.inr hp
  · obtain ⟨_, _, _, _, _, hz, hn⟩ := hW
    refine ⟨hok, _, _, ([] ++ pa) ++ pv, ⟨[] ++ pa, pv, trodAll_append (hargs _ (fun _ _ => rfl)) (hres _ _ _), hvars _ (fun _ _ => rfl), rfl, ?_, ?_⟩, ?_⟩
    · intro b off hp
      have hp' : MemPlace.cell b off ∈ before := by rw [hps]; simpa using hp
      rw [hb.frozen (p := ⟨b, off, none⟩) (hlt _ hp')]
      exact hz b off hp'
    · intro ha
      have := hn ha
      rw [hps] at this
      simpa using this
    · intro p hp _
      rw [hps]
      simpa using hp

set_option maxRecDepth 100000 in
theorem unifyNils_lifted (os : Os) (started : os.Started) (H : Type) (enc : TypeId × Value → H) :
    ReturnsInHanded {} Try.checked os 7 .any (Rows.unifyNilsSpec.pre6 enc Try.prog Try.f7 Rows.unifyNilsRow.domain false) (Rows.unifyNilsSpec.post enc Try.prog Try.f7 false true false false) := by
  refine returnsInHanded_of_change (C := Try.checked) Try.own started (by kernel_rfl) Try.func7
    (ChangeSpec.witness6 (enc := enc) (C := Try.checked) false ⟨#[], #[.agg #[.int .i64 0, .int .i64 0, .slice none 0 0], .agg #[.int .i64 0, .int .i64 0, .slice none 0 0]], []⟩ 8 (by kernel_rfl) (by kernel_rfl) (by kernel_rfl) (by kernel_rfl)) ?_
  intro W base args ds gs before hval0 hW hcnd _
  have hval : ∀ (j : Nat) t v, Try.f7.params[j]? = some t → args[j]? = some v → Value.okWide Try.prog W .any base t v := hval0
  have hW' := hW
  obtain ⟨p, q, hA0, hV, rfl, hfz, hnd⟩ := hW
  have hA : DataW.TrodAll enc Try.prog W 0 (fun _ => true) true Try.f7.params.toList args.toList ds p := hA0
  rw [Try.params7] at hA hval
  obtain ⟨v0, v1, d0, d1, p0, p1, rfl, rfl, rfl, h0, h1⟩ := trodAll_two hA
  obtain ⟨rfl, rfl⟩ := trodVars_none hV
  have hv0 := hval 0 29 v0 rfl rfl
  have hv1 := hval 1 29 v1 rfl rfl
  unfold Value.okWide at hv0 hv1
  rw [Try.underlying29] at hv0 hv1
  obtain ⟨c0, e0, _, _⟩ := hv0
  obtain ⟨c1, e1, _, _⟩ := hv1
  obtain ⟨k0, n0, s0, o0, q0⟩ := open29 h0
  obtain ⟨k1, n1, s1, o1, q1⟩ := open29 h1
  clear hA0 hval0
  simp only [List.append_nil] at hW'
  have hlt := hW'.lt
  have hcall := vc_nils.2 W pl0 #[v0, v1] (hrep0 W) rfl (fun j v x hj hx => by
    match j, hj, hx with
    | 0, hj, hx => simp at hj hx; subst hj; subst hx; exact any_rep e0 o0 q0
    | 1, hj, hx => simp at hj hx; subst hj; subst hx; exact any_rep e1 o1 q1
    | _ + 2, hj, _ => simp at hj)
  refine (callsIn_wide.1 hcall).mono fun e W' ⟨r, x, h', μ', he, hp, Hr, hx, g⟩ => ?_
  obtain ⟨rfl, rfl⟩ := hp
  have hxb : x = .bool true := by
    cases hx with
    | one _ hl => cases hl with | d hd => cases hd; rfl
  subst hxb
  have hb := below_of g
  refine ⟨_, he, post_of_below (pa := p0 ++ p1) (pv := []) hW' hb (fun _ _ _ => trodAll_mk1 (shut_bool Try.underlying4 true)) (fun sp hsp => ?_) (fun _ _ => rfl) (by simp) ?_⟩
  · refine trodAll_mk2 ?_ ?_
    · exact WideElems.Trod_stays Try.laidOut (by kernel_rfl) (of_decide_eq_true (by kernel_rfl)) h0 (fun x hx => hb.same (hlt x (by simp [hx]))) (fun x hx => hsp x (by simp [hx]))
    · exact WideElems.Trod_stays Try.laidOut (by kernel_rfl) (of_decide_eq_true (by kernel_rfl)) h1 (fun x hx => hb.same (hlt x (by simp [hx]))) (fun x hx => hsp x (by simp [hx]))
  · exact ok_one (by kernel_rfl) rfl (okWide_bool_mk Try.underlying4 true)

theorem unifyNils_holds : Rows.UnifyNilsSaid :=
  OpenClaim.holds_of_wide 7 Try.f7 rfl rfl rfl rfl rfl rfl rfl ⟨rfl, rfl, rfl, rfl, rfl⟩ rfl rfl rfl rfl rfl (by kernel_rfl) Try.func7 (by kernel_rfl)
    (of_decide_eq_true (by kernel_rfl)) (by unfold Func.isWrapper; first | (rw [if_pos (by decide +kernel)]; kernel_rfl) | (rw [if_neg (by decide +kernel)]; exact ⟨rfl, rfl⟩))
    (fun os started H enc _ => unifyNils_lifted os started H enc)

#print axioms unifyNils_holds
end Go.Proofs.Ytkpfdafjhhjnmaa
