/- The laws' arguments, read as patterns and values. -/
import Derived.Test.YthbfemghbckipaaGreatVtP4
import Derived.Test.YthbfemghbckipaaGreatVtRead
import Derived.Test.YthbfemghbckipaaGreatRows
import Derived.ProofKit
import Derived.JoinedCond
set_option maxRecDepth 100000
namespace Go.Proofs.YthbfemghbckipaaGreat
open Go.ChangeShapes Go.WideShapes Go.ChangeAt Go.RowKit Go.Vt Go.Vt.Tryz

theorem Tryz.own : ownKnob Tryz.prog.godebug = none := by kernel_rfl
theorem Tryz.laidOut : laidOutB Tryz.prog = true := by kernel_rfl
theorem c25 : Tryz.prog.cellsOf 25 = 5 := by kernel_rfl
theorem c28 : Tryz.prog.cellsOf 28 = 4 := by kernel_rfl
theorem c3 : Tryz.prog.cellsOf 3 = 1 := by kernel_rfl
theorem c2 : Tryz.prog.cellsOf 2 = 1 := by kernel_rfl
theorem c9 : Tryz.prog.cellsOf 9 = 1 := by kernel_rfl
theorem c22 : Tryz.prog.cellsOf 22 = 1 := by kernel_rfl
theorem c23 : Tryz.prog.cellsOf 23 = 1 := by kernel_rfl
theorem c26 : Tryz.prog.cellsOf 26 = 1 := by kernel_rfl

def plain15 : List TypeId := [2, 3, 9, 22, 23, 25, 26, 28]
theorem plain15_ok : plain15.all (plainT Tryz.prog plain15) = true := by kernel_rfl

section
variable {H : Type} {enc : TypeId × Value → H} {w : World} {base : Nat} {sp : Nat → Bool} {held : Bool}

theorem trod_str {t : TypeId} (hu : Tryz.prog.underlying t = some .string) {fuel : Nat} {cs : List Value} {d : DataW H} {ps : List MemPlace} (h : DataW.trod enc Tryz.prog w base sp held fuel t cs = some (d, ps)) : ∃ s : ByteArray, rdD d = [.str s] := by
  cases fuel with
  | zero => simp [DataW.trod] at h
  | succ fuel =>
    unfold DataW.trod at h
    rw [hu] at h
    match cs with
    | [] => simp at h
    | _ :: _ :: _ => simp at h
    | [v] =>
      cases v <;> simp at h
      obtain ⟨_, rfl, _⟩ := h
      exact ⟨_, rfl⟩

theorem rd_txts {fuel : Nat} {cs : List Value} {d : DataW H} {ps : List MemPlace} (h : DataW.trod enc Tryz.prog w base sp held fuel 22 cs = some (d, ps)) : ∃ l : List ByteArray, rdD d = [.sl (txts l)] ∧ l.length + 1 ≤ Rows.uptoBulk d := by
  cases fuel with
  | zero => simp [DataW.trod] at h
  | succ fuel =>
    rcases trod_slice Tryz.underlying22 h with ⟨rfl, _⟩ | ⟨elems, rest, rfl, _, hx⟩
    · exact ⟨[], by simp [rdD, txts], by simp [Rows.uptoBulk]⟩
    · have key : ∀ (l : List (DataW H)), (∀ x ∈ l, ∃ s : ByteArray, rdD x = [.str s]) → (∀ x ∈ l, 1 ≤ Rows.uptoBulk x) → ∃ ss : List ByteArray, rdRows l = txts ss ∧ ss.length ≤ Rows.uptoBulkAll l := by
        intro l
        induction l with
        | nil => intro _ _; exact ⟨[], by simp [rdRows, txts], by simp⟩
        | cons d r ih =>
          intro h g
          obtain ⟨s, h1⟩ := h d (by simp)
          obtain ⟨ss, h2, h3⟩ := ih (fun x hx => h x (by simp [hx])) (fun x hx => g x (by simp [hx]))
          have := g d (by simp)
          refine ⟨s :: ss, by simp [rdRows, h1, h2, txts], ?_⟩
          simp only [List.length_cons, Rows.uptoBulkAll]
          omega
      obtain ⟨ss, h1, h2⟩ := key elems (fun x hxm => by
        obtain ⟨cs', ps', htr⟩ := hx x hxm
        exact trod_str Tryz.underlying9 htr) (fun x _ => by cases x with
          | lit l => cases l <;> simp [Rows.uptoBulk]
          | _ => simp [Rows.uptoBulk])
      exact ⟨ss, by simp [rdD, h1], by simp only [Rows.uptoBulk]; omega⟩

theorem rd_ps : ∀ (l : List (DataW H)), (∀ x ∈ l, ∃ t : Pa, rdD x = encP t ∧ pn t ≤ Rows.uptoBulk x) → ∃ ts : List Pa, rdRows l = encP.encs ts ∧ pns ts ≤ Rows.uptoBulkAll l
  | [], _ => ⟨[], by simp [rdRows, encP.encs], by simp [pns]⟩
  | d :: r, h => by
    obtain ⟨t, h1, h2⟩ := h d (by simp)
    obtain ⟨ts, h3, h4⟩ := rd_ps r fun x hx => h x (by simp [hx])
    refine ⟨t :: ts, by simp [rdRows, encP.encs, h1, h3], ?_⟩
    simp only [pns, Rows.uptoBulkAll]
    omega

theorem rd_vs : ∀ (l : List (DataW H)), (∀ x ∈ l, ∃ t : Va, rdD x = encV t ∧ vn t ≤ Rows.uptoBulk x) → ∃ ts : List Va, rdRows l = encV.encs ts ∧ vn.vns ts ≤ Rows.uptoBulkAll l
  | [], _ => ⟨[], by simp [rdRows, encV.encs], by simp [vn.vns]⟩
  | d :: r, h => by
    obtain ⟨t, h1, h2⟩ := h d (by simp)
    obtain ⟨ts, h3, h4⟩ := rd_vs r fun x hx => h x (by simp [hx])
    refine ⟨t :: ts, by simp [rdRows, encV.encs, h1, h3], ?_⟩
    simp only [vn.vns, Rows.uptoBulkAll]
    omega

theorem rd_pa : ∀ (fuel : Nat), (∀ (cs : List Value) (d : DataW H) (ps : List MemPlace), DataW.trod enc Tryz.prog w base sp held fuel 25 cs = some (d, ps) → ∃ t : Pa, rdD d = encP t ∧ pn t ≤ Rows.uptoBulk d) ∧
    (∀ (cs : List Value) (d : DataW H) (ps : List MemPlace), DataW.trod enc Tryz.prog w base sp held fuel 23 cs = some (d, ps) → ∃ l : List Pa, rdD d = [.sl (encP.encs l)] ∧ pns l + 1 ≤ Rows.uptoBulk d) := by
  intro fuel
  induction fuel with
  | zero => exact ⟨fun cs d ps h => by simp [DataW.trod] at h, fun cs d ps h => by simp [DataW.trod] at h⟩
  | succ fuel ih =>
    refine ⟨fun cs d ps h => ?_, fun cs d ps h => ?_⟩
    · obtain ⟨hl, xs, hxs, rfl⟩ := trod_struct Tryz.underlying25 h
      rw [c25] at hl
      match cs, hl with
      | [a, b, c, e, f], _ =>
        simp only [List.mapM_cons, List.mapM_nil, List.drop, List.take, c3, c9, c22, c2, c23] at hxs
        cases h1 : DataW.trod enc Tryz.prog w base sp held fuel 3 [a] with
        | none => simp [h1] at hxs
        | some x1 =>
          cases h2 : DataW.trod enc Tryz.prog w base sp held fuel 9 [b] with
          | none => simp [h1, h2] at hxs
          | some x2 =>
            cases h3 : DataW.trod enc Tryz.prog w base sp held fuel 22 [c] with
            | none => simp [h1, h2, h3] at hxs
            | some x3 =>
              cases h4 : DataW.trod enc Tryz.prog w base sp held fuel 2 [e] with
              | none => simp [h1, h2, h3, h4] at hxs
              | some x4 =>
                cases h5 : DataW.trod enc Tryz.prog w base sp held fuel 23 [f] with
                | none => simp [h1, h2, h3, h4, h5] at hxs
                | some x5 =>
                  simp [h1, h2, h3, h4, h5] at hxs
                  subst hxs
                  obtain ⟨x1, p1⟩ := x1
                  obtain ⟨x2, p2⟩ := x2
                  obtain ⟨x3, p3⟩ := x3
                  obtain ⟨x4, p4⟩ := x4
                  obtain ⟨x5, p5⟩ := x5
                  obtain ⟨k, _, rfl, _⟩ := trod_int Tryz.underlying3 h1
                  obtain ⟨s, e2⟩ := trod_str Tryz.underlying9 h2
                  obtain ⟨path, e3, b3⟩ := rd_txts h3
                  obtain ⟨n, _, rfl, _⟩ := trod_int Tryz.underlying2 h4
                  obtain ⟨l, e5, b5⟩ := ih.2 _ _ _ h5
                  refine ⟨.mk k s path n l, ?_, ?_⟩
                  · simp [rdD, rdCat, e2, e3, e5, encP]
                  · simp only [List.map_cons, List.map_nil, pn, Rows.uptoBulk, Rows.uptoBulkAll]
                    omega
    · rcases trod_slice Tryz.underlying23 h with ⟨rfl, _⟩ | ⟨elems, rest, rfl, _, hx⟩
      · exact ⟨[], by simp [rdD, encP.encs], by simp [pns, Rows.uptoBulk]⟩
      · obtain ⟨ts, h1, h2⟩ := rd_ps elems fun x hxm => by
          obtain ⟨cs', ps', htr⟩ := hx x hxm
          exact ih.1 _ _ _ htr
        refine ⟨ts, by simp [rdD, h1], ?_⟩
        simp only [Rows.uptoBulk]
        omega

theorem rd_va : ∀ (fuel : Nat), (∀ (cs : List Value) (d : DataW H) (ps : List MemPlace), DataW.trod enc Tryz.prog w base sp held fuel 28 cs = some (d, ps) → ∃ t : Va, rdD d = encV t ∧ vn t ≤ Rows.uptoBulk d) ∧
    (∀ (cs : List Value) (d : DataW H) (ps : List MemPlace), DataW.trod enc Tryz.prog w base sp held fuel 26 cs = some (d, ps) → ∃ l : List Va, rdD d = [.sl (encV.encs l)] ∧ vn.vns l + 1 ≤ Rows.uptoBulk d) := by
  intro fuel
  induction fuel with
  | zero => exact ⟨fun cs d ps h => by simp [DataW.trod] at h, fun cs d ps h => by simp [DataW.trod] at h⟩
  | succ fuel ih =>
    refine ⟨fun cs d ps h => ?_, fun cs d ps h => ?_⟩
    · obtain ⟨hl, xs, hxs, rfl⟩ := trod_struct Tryz.underlying28 h
      rw [c28] at hl
      match cs, hl with
      | [a, b, c, e], _ =>
        simp only [List.mapM_cons, List.mapM_nil, List.drop, List.take, c3, c9, c2, c26] at hxs
        cases h1 : DataW.trod enc Tryz.prog w base sp held fuel 3 [a] with
        | none => simp [h1] at hxs
        | some x1 =>
          cases h2 : DataW.trod enc Tryz.prog w base sp held fuel 2 [b] with
          | none => simp [h1, h2] at hxs
          | some x2 =>
            cases h3 : DataW.trod enc Tryz.prog w base sp held fuel 9 [c] with
            | none => simp [h1, h2, h3] at hxs
            | some x3 =>
              cases h4 : DataW.trod enc Tryz.prog w base sp held fuel 26 [e] with
              | none => simp [h1, h2, h3, h4] at hxs
              | some x4 =>
                simp [h1, h2, h3, h4] at hxs
                subst hxs
                obtain ⟨x1, p1⟩ := x1
                obtain ⟨x2, p2⟩ := x2
                obtain ⟨x3, p3⟩ := x3
                obtain ⟨x4, p4⟩ := x4
                obtain ⟨k, _, rfl, _⟩ := trod_int Tryz.underlying3 h1
                obtain ⟨n, _, rfl, _⟩ := trod_int Tryz.underlying2 h2
                obtain ⟨s, e3⟩ := trod_str Tryz.underlying9 h3
                obtain ⟨l, e4, b4⟩ := ih.2 _ _ _ h4
                refine ⟨.mk k n s l, ?_, ?_⟩
                · simp [rdD, rdCat, e3, e4, encV]
                · simp only [List.map_cons, List.map_nil, vn, Rows.uptoBulk, Rows.uptoBulkAll]
                  omega
    · rcases trod_slice Tryz.underlying26 h with ⟨rfl, _⟩ | ⟨elems, rest, rfl, _, hx⟩
      · exact ⟨[], by simp [rdD, encV.encs], by simp [vn.vns, Rows.uptoBulk]⟩
      · obtain ⟨ts, h1, h2⟩ := rd_vs elems fun x hxm => by
          obtain ⟨cs', ps', htr⟩ := hx x hxm
          exact ih.1 _ _ _ htr
        refine ⟨ts, by simp [rdD, h1], ?_⟩
        simp only [Rows.uptoBulk]
        omega
end

/-- The world as the call finds it: no objects; nothing that may be written. -/
def pl0 : Pl := { at_ := fun _ => none, X := fun _ => False }
theorem hrep0 (w : World) : HRep w pl0 [] := ⟨by simp, by simp, by simp, by simp, fun b h => h.elim⟩

theorem mut0 : Mut pl0 [] = fun _ => False := by
  funext b
  apply propext
  constructor
  · rintro (⟨id, o, h1, _⟩ | h)
    · simp at h1
    · exact h
  · intro h; exact h.elim

/-- The cells of a struct, read: a value of the walk. -/
theorem rep_agg {H : Type} {enc : TypeId × Value → H} {w : World} {sp : Nat → Bool} {held : Bool} {t : TypeId} (ht : t ∈ plain15) {v : Value} {d : DataW H} {ps : List MemPlace} {xs : List D}
    {fuel : Nat} (h : DataW.trod enc Tryz.prog w 0 sp held fuel t v.cells.toList = some (d, ps)) (hx : rdD d = xs) (h1 : xs.length ≠ 1) : RepV w pl0 [] (.agg (xs.map .d)) v := by
  have hr := rd_ok plain15_ok fuel t _ d ps ht h
  rw [hx] at hr
  obtain ⟨r1, r2, r3⟩ := hr
  have key : ∀ cs : Array Value, v = .agg cs → RepV w pl0 [] (.agg (xs.map .d)) v := by
    rintro cs rfl
    have r1' : cs.size = Tryz.prog.cellsOf t := by simpa [Value.cells] using r1
    have r3' : ∀ (j : Nat) (x : D) (v : Value), xs[j]? = some x → cs[j]? = some v → RepD w (fun _ => False) x v := fun j x v a b => r3 j x v a (by simpa [Value.cells] using b)
    refine .agg (by simp; omega) (fun j l v hj hv => ?_) (fun v hv => ?_)
    · rw [List.getElem?_map] at hj
      obtain ⟨x, hx, rfl⟩ := Option.map_eq_some_iff.1 hj
      refine .d ?_
      rw [mut0]
      exact r3' j x v hx hv
    · obtain ⟨j, hj, hv⟩ := Array.mem_iff_getElem.1 hv
      exact (r3' j (xs[j]'(by omega)) v (List.getElem?_eq_getElem _) (by rw [← hv]; exact Array.getElem?_eq_getElem hj)).oneCell
  cases v with
  | agg cs => exact key cs rfl
  | _ => exfalso; apply h1; rw [r2, ← r1]; rfl

theorem rep_pa {H : Type} {enc : TypeId × Value → H} {w : World} {sp : Nat → Bool} {held : Bool} {v : Value} {d : DataW H} {ps : List MemPlace} {t : Pa}
    {fuel : Nat} (h : DataW.trod enc Tryz.prog w 0 sp held fuel 25 v.cells.toList = some (d, ps)) (hx : rdD d = encP t) : RepV w pl0 [] (paV t) v :=
  rep_agg (by decide) h hx (by cases t; simp [encP])

theorem rep_va {H : Type} {enc : TypeId × Value → H} {w : World} {sp : Nat → Bool} {held : Bool} {v : Value} {d : DataW H} {ps : List MemPlace} {t : Va}
    {fuel : Nat} (h : DataW.trod enc Tryz.prog w 0 sp held fuel 28 v.cells.toList = some (d, ps)) (hx : rdD d = encV t) : RepV w pl0 [] (vaV t) v :=
  rep_agg (by decide) h hx (by cases t; simp [encV])

theorem fitL_sub : ∀ (l : List Pa), (∀ p ∈ l, ∀ v, ∀ u ∈ (fitS p v).2, vn u.2 ≤ vn v) → ∀ q, ∀ u ∈ (fitL l q).2, vn u.2 ≤ vn.vns q
  | [], _, q, u, h => by cases q <;> simp [fitL] at h
  | p :: r, hh, q, u, h => by
    cases q with
    | nil => simp [fitL] at h
    | cons v q =>
      have a := hh p (by simp) v u
      have b := fitL_sub r (fun p hp => hh p (by simp [hp])) q u
      simp only [fitL] at h
      simp only [vn.vns]
      split at h
      · rcases List.mem_append.1 h with h | h
        · have := a h; omega
        · have := b h; omega
      · have := a h; omega

theorem fitS_sub : ∀ (p : Pa) (v : Va), ∀ u ∈ (fitS p v).2, vn u.2 ≤ vn v := by
  intro p
  induction p using Pa.ind with
  | h k s path n kids ih =>
  intro v u h
  have hl := fitL_sub kids ih v.kids u
  have hv : vn.vns v.kids ≤ vn v := by cases v; simp [Va.kids, vn]
  simp only [fitS] at h
  repeat' split at h
  all_goals first
    | (simp at h; done)
    | (simp only [List.mem_singleton] at h; subst h; exact Nat.le_refl _)
    | (exact Nat.le_trans (hl h) hv)

theorem trodAll_more {H : Type} {enc : TypeId × Value → H} {P : Program} {w : World} {base : Nat} {sp : Nat → Bool} {held : Bool} {t : TypeId} {ts : List TypeId} {v : Value} {vs : List Value} {d : DataW H} {ds : List (DataW H)} {p p' : List MemPlace}
    (h : DataW.Trod enc P w base sp held t v d p) (hs : DataW.TrodAll enc P w base sp held ts vs ds p') : DataW.TrodAll enc P w base sp held (t :: ts) (v :: vs) (d :: ds) (p ++ p') := ⟨p, p', h, hs, rfl⟩

theorem below_of {w w' : World} {μ' : Pl} {h' : AHeap} (g : Go.Vt.Good w pl0 [] w' μ' h') : Below w.heap.size w w' :=
  ⟨g.os, g.tape, g.output, g.size, fun b hb => g.block b hb (by rintro ⟨id, o, h1, _⟩; simp at h1)⟩

theorem post_of_below {H : Type} {enc : TypeId × Value → H} {P : Program} {f : Func} {s : ChangeSpec} {apart fresh handsOn again : Bool} {W W' : World} {args : Array Value} {v : Value} {ds gs : List (DataW H)} {before pa pv : List MemPlace}
    (hW : DataW.Whole enc P f.params.toList s.vars apart W args.toList ds gs before) (hb : Below W.heap.size W W')
    (hres : ∀ (b : Nat) (sp : Nat → Bool) (hd : Bool), DataW.TrodAll enc P W' b sp hd f.resultTypes.toList (v.resultList f.resultTypes.size) (s.fn H (ds ++ gs)).results [])
    (hargs : ∀ sp : Nat → Bool, (∀ p ∈ before, sp p.block = true) → DataW.TrodAll enc P W' 0 sp true f.params.toList args.toList (s.fn H (ds ++ gs)).args pa)
    (hvars : ∀ sp : Nat → Bool, (∀ p ∈ before, sp p.block = true) → DataW.TrodVars enc P W' sp s.vars (s.fn H (ds ++ gs)).vars pv)
    (hps : before = pa ++ pv)
    (hok : ∀ (j : Nat) (t : TypeId) (r : Value), f.resultTypes[j]? = some t → (v.resultList f.resultTypes.size)[j]? = some r → Value.okWide P W' .any 0 t r) :
    s.post enc P f apart fresh handsOn again W args v W' := by
  have hold : ∀ p ∈ before, (fun b => decide (b < W.heap.size)) p.block = true := fun p hp => by simpa using hW.lt p hp
  have hlt := hW.lt
  refine ⟨ds, gs, before, [], pa, pv, hW, hres _ _ _, hargs _ hold, hvars _ hold, World.keptBut_mono (fun p hp => ⟨hp, ?_⟩) (hb.frame (· ∈ before)), fun _ => ?_⟩
  · rw [hps, List.mem_append] at hp
    exact Or.inr hp
  · obtain ⟨_, _, _, _, _, hz, hn⟩ := hW
    refine ⟨hok, _, _, ([] ++ pa) ++ pv, ⟨[] ++ pa, pv, trodAll_append (hargs _ (fun _ _ => rfl)) (hres _ _ _), hvars _ (fun _ _ => rfl), rfl, ?_, ?_⟩, ?_⟩
    · intro b off hp
      have hp' : MemPlace.cell b off ∈ before := by rw [hps]; simpa using hp
      rw [hb.frozen (p := ⟨b, off, none⟩) (hlt _ hp')]
      exact hz b off hp'
    · intro ha
      have := hn ha
      rw [hps] at this
      simpa using this
    · intro p hp _
      rw [hps]
      simpa using hp


end Go.Proofs.YthbfemghbckipaaGreat
