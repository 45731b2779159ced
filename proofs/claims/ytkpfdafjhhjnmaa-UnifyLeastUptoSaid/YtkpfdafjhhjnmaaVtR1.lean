/- The laws' arguments, read as types and operations. -/
import Derived.Test.YtkpfdafjhhjnmaaVtL2
import Derived.Test.YtkpfdafjhhjnmaaVtRead
import Derived.Test.YtkpfdafjhhjnmaaRows
import Derived.ProofKit
import Derived.JoinedCond
set_option maxRecDepth 100000
namespace Go.Proofs.Ytkpfdafjhhjnmaa
open Go.ChangeShapes Go.WideShapes Go.ChangeAt Go.RowKit Go.Vt Go.Vt.Try

theorem Try.own : ownKnob Try.prog.godebug = none := by kernel_rfl
theorem Try.laidOut : laidOutB Try.prog = true := by kernel_rfl
theorem c29 : Try.prog.cellsOf 29 = 3 := by kernel_rfl
theorem c3 : Try.prog.cellsOf 3 = 1 := by kernel_rfl
theorem c27 : Try.prog.cellsOf 27 = 1 := by kernel_rfl
theorem c22 : Try.prog.cellsOf 22 = 1 := by kernel_rfl
theorem c39 : Try.prog.cellsOf 39 = 7 := by kernel_rfl

def plain11 : List TypeId := [3, 27, 29, 22, 39]
theorem plain11_ok : plain11.all (plainT Try.prog plain11) = true := by kernel_rfl

theorem bulk_mem {H : Type} {d : DataW H} {l : List (DataW H)} (h : d ∈ l) : Rows.uptoBulk d ≤ Rows.uptoBulkAll l := by
  induction l with
  | nil => cases h
  | cons x r ih =>
    simp only [Rows.uptoBulkAll]
    cases List.mem_cons.1 h with
    | inl e => subst e; omega
    | inr e => have := ih e; omega

section
variable {H : Type} {enc : TypeId × Value → H} {w : World} {base : Nat} {sp : Nat → Bool} {held : Bool}

theorem rd_types : ∀ (l : List (DataW H)), (∀ x ∈ l, ∃ t : Ty, rdD x = Try.enc t ∧ nodes t ≤ Rows.uptoBulk x) → ∃ ts : List Ty, rdRows l = Try.enc.encs ts ∧ nodesL ts ≤ Rows.uptoBulkAll l
  | [], _ => ⟨[], by simp [rdRows, Try.enc.encs], by simp [nodesL]⟩
  | d :: r, h => by
    obtain ⟨t, h1, h2⟩ := h d (by simp)
    obtain ⟨ts, h3, h4⟩ := rd_types r fun x hx => h x (by simp [hx])
    refine ⟨t :: ts, by simp [rdRows, Try.enc.encs, h1, h3], ?_⟩
    simp only [nodesL, Rows.uptoBulkAll]
    omega

theorem rd_ty : ∀ (fuel : Nat), (∀ (cs : List Value) (d : DataW H) (ps : List MemPlace), DataW.trod enc Try.prog w base sp held fuel 29 cs = some (d, ps) → ∃ t : Ty, rdD d = Try.enc t ∧ nodes t ≤ Rows.uptoBulk d) ∧
    (∀ (cs : List Value) (d : DataW H) (ps : List MemPlace), DataW.trod enc Try.prog w base sp held fuel 27 cs = some (d, ps) → ∃ l : List Ty, rdD d = [.sl (Try.enc.encs l)] ∧ nodesL l + 1 ≤ Rows.uptoBulk d) := by
  intro fuel
  induction fuel with
  | zero => exact ⟨fun cs d ps h => by simp [DataW.trod] at h, fun cs d ps h => by simp [DataW.trod] at h⟩
  | succ fuel ih =>
    refine ⟨fun cs d ps h => ?_, fun cs d ps h => ?_⟩
    · obtain ⟨hl, xs, hxs, rfl⟩ := trod_struct Try.underlying29 h
      rw [c29] at hl
      match cs, hl with
      | [a, b, c], _ =>
        simp only [List.mapM_cons, List.mapM_nil, List.drop, List.take, c3, c27] at hxs
        cases h1 : DataW.trod enc Try.prog w base sp held fuel 3 [a] with
        | none => simp [h1] at hxs
        | some x1 =>
          cases h2 : DataW.trod enc Try.prog w base sp held fuel 3 [b] with
          | none => simp [h1, h2] at hxs
          | some x2 =>
            cases h3 : DataW.trod enc Try.prog w base sp held fuel 27 [c] with
            | none => simp [h1, h2, h3] at hxs
            | some x3 =>
              simp [h1, h2, h3] at hxs
              subst hxs
              obtain ⟨x1, p1⟩ := x1
              obtain ⟨x2, p2⟩ := x2
              obtain ⟨x3, p3⟩ := x3
              obtain ⟨k, _, rfl, _⟩ := trod_int Try.underlying3 h1
              obtain ⟨n, _, rfl, _⟩ := trod_int Try.underlying3 h2
              obtain ⟨l, e1, e2⟩ := ih.2 _ _ _ h3
              refine ⟨.mk k n l, ?_, ?_⟩
              · simp [rdD, rdCat, e1, Try.enc]
              · simp only [List.map_cons, List.map_nil, nodes, Rows.uptoBulk, Rows.uptoBulkAll]
                omega
    · rcases trod_slice Try.underlying27 h with ⟨rfl, _⟩ | ⟨elems, rest, rfl, _, hx⟩
      · exact ⟨[], by simp [rdD, Try.enc.encs], by simp [nodesL, Rows.uptoBulk]⟩
      · obtain ⟨ts, h1, h2⟩ := rd_types elems fun x hxm => by
          obtain ⟨cs', ps', htr⟩ := hx x hxm
          exact ih.1 _ _ _ htr
        refine ⟨ts, by simp [rdD, h1], ?_⟩
        simp only [Rows.uptoBulk]
        omega

theorem rd_op (fuel : Nat) (cs : List Value) (d : DataW H) (ps : List MemPlace) (h : DataW.trod enc Try.prog w base sp held fuel 39 cs = some (d, ps)) : ∃ o : OpS, rdD d = encOp o ∧ nodes o.a + nodes o.b + 1 ≤ Rows.uptoBulk d := by
  cases fuel with
  | zero => simp [DataW.trod] at h
  | succ fuel =>
    obtain ⟨hl, xs, hxs, rfl⟩ := trod_struct Try.underlying39 h
    rw [c39] at hl
    match cs, hl with
    | [a, b, c, d, e, f, g], _ =>
      simp only [List.mapM_cons, List.mapM_nil, List.drop, List.take, c3, c29] at hxs
      cases h1 : DataW.trod enc Try.prog w base sp held fuel 3 [a] with
      | none => simp [h1] at hxs
      | some x1 =>
        cases h2 : DataW.trod enc Try.prog w base sp held fuel 29 [b, c, d] with
        | none => simp [h1, h2] at hxs
        | some x2 =>
          cases h3 : DataW.trod enc Try.prog w base sp held fuel 29 [e, f, g] with
          | none => simp [h1, h2, h3] at hxs
          | some x3 =>
            simp [h1, h2, h3] at hxs
            subst hxs
            obtain ⟨x1, p1⟩ := x1
            obtain ⟨x2, p2⟩ := x2
            obtain ⟨x3, p3⟩ := x3
            obtain ⟨k, _, rfl, _⟩ := trod_int Try.underlying3 h1
            obtain ⟨ta, e1, e2⟩ := (rd_ty fuel).1 _ _ _ h2
            obtain ⟨tb, e3, e4⟩ := (rd_ty fuel).1 _ _ _ h3
            refine ⟨⟨k, ta, tb⟩, ?_, ?_⟩
            · simp [rdD, rdCat, e1, e3, encOp]
            · simp only [List.map_cons, List.map_nil, Rows.uptoBulk, Rows.uptoBulkAll]
              omega

theorem rd_ops {fuel : Nat} {cs : List Value} {d : DataW H} {ps : List MemPlace} (h : DataW.trod enc Try.prog w base sp held fuel 22 cs = some (d, ps)) : ∃ l : List OpS, rdD d = [.sl (l.map encOp)] ∧ 3 * l.length ≤ Rows.uptoBulk d ∧ ∀ o ∈ l, nodes o.a + nodes o.b ≤ Rows.uptoBulk d := by
  cases fuel with
  | zero => simp [DataW.trod] at h
  | succ fuel =>
    rcases trod_slice Try.underlying22 h with ⟨rfl, _⟩ | ⟨elems, rest, rfl, _, hx⟩
    · exact ⟨[], by simp [rdD], by simp, by simp⟩
    · have key : ∀ (l : List (DataW H)), (∀ x ∈ l, ∃ o : OpS, rdD x = encOp o ∧ nodes o.a + nodes o.b + 1 ≤ Rows.uptoBulk x) → ∃ os : List OpS, rdRows l = os.map encOp ∧ 3 * os.length ≤ Rows.uptoBulkAll l ∧ ∀ o ∈ os, nodes o.a + nodes o.b ≤ Rows.uptoBulkAll l := by
        intro l
        induction l with
        | nil => intro _; exact ⟨[], by simp [rdRows], by simp, by simp⟩
        | cons d r ih =>
          intro h
          obtain ⟨o, h1, h2⟩ := h d (by simp)
          obtain ⟨os, h3, h4, h5⟩ := ih fun x hx => h x (by simp [hx])
          have p1 := nodes_pos o.a
          have p2 := nodes_pos o.b
          refine ⟨o :: os, by simp [rdRows, h1, h3], by simp only [List.length_cons, Rows.uptoBulkAll]; omega, fun o' ho => ?_⟩
          simp only [Rows.uptoBulkAll]
          rcases List.mem_cons.1 ho with rfl | ho
          · omega
          · have := h5 o' ho; omega
      obtain ⟨os, h1, h2, h3⟩ := key elems fun x hxm => by
        obtain ⟨cs', ps', htr⟩ := hx x hxm
        exact rd_op _ _ _ _ htr
      refine ⟨os, by simp [rdD, h1], by simp only [Rows.uptoBulk]; omega, fun o ho => ?_⟩
      have := h3 o ho
      simp only [Rows.uptoBulk]
      omega
end

/-- The world as the call finds it: no objects; nothing that may be written. -/
def pl0 : Pl := { at_ := fun _ => none, X := fun _ => False }
theorem hrep0 (w : World) : HRep w pl0 [] := ⟨by simp, by simp, by simp, by simp, fun b h => h.elim⟩

theorem mut0 : Mut pl0 [] = fun _ => False := by
  funext b
  apply propext
  constructor
  · rintro (⟨id, o, h1, _⟩ | h)
    · simp at h1
    · exact h
  · intro h; exact h.elim

/-- One cell, read: a value of the walk. -/
theorem rep_one {H : Type} {enc : TypeId × Value → H} {w : World} {sp : Nat → Bool} {held : Bool} {t : TypeId} (ht : t ∈ plain11) {v : Value} {d : DataW H} {ps : List MemPlace} {x : D} (hv : v.cells.toList = [v])
    {fuel : Nat} (h : DataW.trod enc Try.prog w 0 sp held fuel t v.cells.toList = some (d, ps)) (hx : rdD d = [x]) : RepV w pl0 [] (.one (.d x)) v := by
  have hr := rd_ok plain11_ok fuel t _ d ps ht h
  rw [hv, hx] at hr
  have := hr.2.2 0 x v rfl rfl
  refine .one this.oneCell (.d ?_)
  rw [mut0]
  exact this

theorem below_of {w w' : World} {μ' : Pl} {h' : AHeap} (g : Go.Vt.Good w pl0 [] w' μ' h') : Below w.heap.size w w' :=
  ⟨g.os, g.tape, g.output, g.size, fun b hb => g.block b hb (by rintro ⟨id, o, h1, _⟩; simp at h1)⟩

theorem post_of_below {H : Type} {enc : TypeId × Value → H} {P : Program} {f : Func} {s : ChangeSpec} {apart fresh handsOn again : Bool} {W W' : World} {args : Array Value} {v : Value} {ds gs : List (DataW H)} {before pa pv : List MemPlace}
    (hW : DataW.Whole enc P f.params.toList s.vars apart W args.toList ds gs before) (hb : Below W.heap.size W W')
    (hres : ∀ (b : Nat) (sp : Nat → Bool) (hd : Bool), DataW.TrodAll enc P W' b sp hd f.resultTypes.toList (v.resultList f.resultTypes.size) (s.fn H (ds ++ gs)).results [])
    (hargs : ∀ sp : Nat → Bool, (∀ p ∈ before, sp p.block = true) → DataW.TrodAll enc P W' 0 sp true f.params.toList args.toList (s.fn H (ds ++ gs)).args pa)
    (hvars : ∀ sp : Nat → Bool, (∀ p ∈ before, sp p.block = true) → DataW.TrodVars enc P W' sp s.vars (s.fn H (ds ++ gs)).vars pv)
    (hps : before = pa ++ pv)
    (hok : ∀ (j : Nat) (t : TypeId) (r : Value), f.resultTypes[j]? = some t → (v.resultList f.resultTypes.size)[j]? = some r → Value.okWide P W' .any 0 t r) :
    s.post enc P f apart fresh handsOn again W args v W' := by
  have hold : ∀ p ∈ before, (fun b => decide (b < W.heap.size)) p.block = true := fun p hp => by simpa using hW.lt p hp
  have hlt := hW.lt
  refine ⟨ds, gs, before, [], pa, pv, hW, hres _ _ _, hargs _ hold, hvars _ hold, World.keptBut_mono (fun p hp => ⟨hp, ?_⟩) (hb.frame (· ∈ before)), fun _ => ?_⟩
  · rw [hps, List.mem_append] at hp
    exact Or.inr hp
  · obtain ⟨_, _, _, _, _, hz, hn⟩ := hW
    refine ⟨hok, _, _, ([] ++ pa) ++ pv, ⟨[] ++ pa, pv, trodAll_append (hargs _ (fun _ _ => rfl)) (hres _ _ _), hvars _ (fun _ _ => rfl), rfl, ?_, ?_⟩, ?_⟩
    · intro b off hp
      have hp' : MemPlace.cell b off ∈ before := by rw [hps]; simpa using hp
      rw [hb.frozen (p := ⟨b, off, none⟩) (hlt _ hp')]
      exact hz b off hp'
    · intro ha
      have := hn ha
      rw [hps] at this
      simpa using this
    · intro p hp _
      rw [hps]
      simpa using hp

end Go.Proofs.Ytkpfdafjhhjnmaa
