/- Own framework, part 15: operations of a region in any order that the region allows. -/
import Derived.Test.YthbfemghbckipaaGreatVtStep
import Derived.OrdersIn
namespace Go.Vt

theorem opd_lookup {T T' : Sl} (h : ∀ i, T.lookup i = T'.lookup i) (x : Operand) : opd T x = opd T' x := by
  cases x <;> first | exact h _ | rfl

theorem opds_congr {T T' : Sl} : ∀ {xs : List Operand}, (∀ x ∈ xs, opd T x = opd T' x) → opds T xs = opds T' xs
  | [], _ => rfl
  | x :: r, h => by
    unfold opds
    rw [h x (by simp), opds_congr fun y hy => h y (by simp [hy])]

theorem opdPairs_congr {T T' : Sl} : ∀ {xs : List (Nat × Operand)}, (∀ x ∈ xs, opd T x.2 = opd T' x.2) → opdPairs T xs = opdPairs T' xs
  | [], _ => rfl
  | (k, x) :: r, h => by
    unfold opdPairs
    rw [h (k, x) (by simp), opdPairs_congr fun y hy => h y (by simp [hy])]

theorem vop_congr {P : Program} {T T' : Sl} {h : AHeap} {o : Oper} (he : ∀ x ∈ o.op.operands, opd T x = opd T' x) : vop P T h o = vop P T' h o := by
  obtain ⟨dst, op, type, pos, after, guard⟩ := o
  cases op <;> simp only [Op.operands] at he
  case build t ps =>
    simp only [vop]
    rw [opdPairs_congr (T := T) (T' := T') fun x hx => he x.2 (by simpa using ⟨x.1, by simpa using hx⟩)]
  case makeFunc fn first caps =>
    cases fn <;> try rfl
    simp only [vop]
    rw [opds_congr (T := T) (T' := T') fun x hx => he x (by simp at hx ⊢; exact .inr hx)]
  case slice t x lo hi mx =>
    cases mx with
    | some m => rfl
    | none => cases lo <;> cases hi <;> simp_all [vop, opdO]
  case call c =>
    obtain ⟨callee, args, ats⟩ := c
    simp only [Call.operands] at he
    cases callee with
    | builtin b =>
      have hargs : ∀ x ∈ args.toList, opd T x = opd T' x := fun x hx => he x (by simpa using hx)
      cases b <;> (try rfl)
      · simp only [vop]
        split
        · rename_i x t e1 e2
          rw [hargs x (by rw [e1]; simp)]
        · rfl
      · simp only [vop]
        split
        · rename_i x y e1
          rw [hargs x (by rw [e1]; simp), hargs y (by rw [e1]; simp)]
        · rfl
      · simp only [vop]
        split
        · rename_i x y e1
          rw [hargs x (by rw [e1]; simp), hargs y (by rw [e1]; simp)]
        · rfl
    | value f => rfl
    | invoke r m => rfl
  all_goals first | rfl | (simp_all [vop]; done)

theorem vmem_congr {P : Program} {T T' : Sl} {h : AHeap} {o : Oper} (he : ∀ x ∈ o.op.operands, opd T x = opd T' x) : vmem P T h o = vmem P T' h o := by
  obtain ⟨dst, op, type, pos, after, guard⟩ := o
  cases op <;> simp only [Op.operands] at he
  case buildSlice t n ps =>
    simp only [vmem]
    rw [opdPairs_congr (T := T) (T' := T') fun x hx => he x.2 (by simpa using ⟨x.1, by simpa using hx⟩)]
  case call c =>
    obtain ⟨callee, args, ats⟩ := c
    simp only [Call.operands] at he
    cases callee with
    | builtin b =>
      have hargs : ∀ x ∈ args.toList, opd T x = opd T' x := fun x hx => he x (by simpa using hx)
      cases b <;> (try rfl)
      · simp only [vmem]
        split
        · rename_i x y t t' e1 e2
          rw [hargs x (by rw [e1]; simp), hargs y (by rw [e1]; simp)]
        · rfl
      · simp only [vmem]
        split
        · rename_i x y t t' e1 e2
          rw [hargs x (by rw [e1]; simp), hargs y (by rw [e1]; simp)]
        · rfl
    | value f => rfl
    | invoke r m => rfl
  all_goals first | rfl | (simp_all [vmem]; done)

theorem vother_congr {P : Program} {T T' : Sl} {h : AHeap} {o : Oper} {K : V → AHeap → Prop} (he : ∀ x ∈ o.op.operands, opd T x = opd T' x) : vother P T h o K = vother P T' h o K := by
  unfold vother
  split
  · rename_i f args ats ho
    rw [ho] at he
    simp only [Op.operands, Call.operands] at he
    rw [he f (by simp), opds_congr (T := T) (T' := T') fun x hx => he x (by simp; exact .inr (by simpa using hx))]
  · rename_i op t x yt ho
    rw [ho] at he
    rw [he x (by simp [Op.operands])]
  · rfl

theorem vstep_congr {P : Program} {T T' : Sl} {h : AHeap} {o : Oper} {K : V → AHeap → Prop} (he : ∀ x ∈ o.op.operands, opd T x = opd T' x) : vstep P T h o K = vstep P T' h o K := by
  unfold vstep
  rw [vop_congr he, vmem_congr he, vother_congr he]

/-- Slots that agree in what an operation looks at. -/
def Agree (ops : List Oper) (o : Oper) (T T' : Sl) : Prop := (∀ x ∈ o.op.operands, opd T x = opd T' x) ∧ ∀ g b, o.guard = some (g, b) → gval ops T g = gval ops T' g

theorem Agree.symm {ops : List Oper} {o : Oper} {T T' : Sl} (h : Agree ops o T T') : Agree ops o T' T := ⟨fun x hx => (h.1 x hx).symm, fun g b hg => (h.2 g b hg).symm⟩

theorem gval_lookup {ops : List Oper} {T T' : Sl} (h : ∀ i, T.lookup i = T'.lookup i) (g : Nat) : gval ops T g = gval ops T' g := by
  unfold gval
  split
  · split
    · rw [h]
    · rfl
  · rfl

theorem Agree.all {ops : List Oper} {o : Oper} {T T' : Sl} (h : ∀ i, T.lookup i = T'.lookup i) : Agree ops o T T' := ⟨fun x _ => opd_lookup h x, fun g _ _ => gval_lookup h g⟩

theorem Agree.put {ops : List Oper} {o : Oper} {T : Sl} {d : Option Tmp} {v : V} (h : ∀ t, d = some t → t ∉ o.looksAt ops.toArray) : Agree ops o (tput T d v) T := by
  cases d with
  | none => exact ⟨fun _ _ => rfl, fun _ _ _ => rfl⟩
  | some t =>
    have ht := h t rfl
    have hne : ∀ i, i ≠ t → (tput T (some t) v).lookup i = T.lookup i := by
      intro i hi
      show List.lookup i ((t, v) :: T) = _
      rw [List.lookup_cons]
      have : (i == t) = false := by simpa using hi
      rw [this]
    refine ⟨fun x hx => ?_, fun g b hg => ?_⟩
    · cases x with
      | tmp i =>
        refine hne i fun e => ht ?_
        subst e
        exact List.mem_append_left _ (List.mem_filterMap.2 ⟨.tmp i, by simpa using hx, rfl⟩)
      | _ => rfl
    · unfold gval
      split
      · rename_i og hog
        split
        · rename_i dg hdg
          rw [hne dg]
          intro e
          subst e
          refine ht (List.mem_append_right _ ?_)
          rw [hg]
          simp [hog, hdg]
        · rfl
      · rfl

theorem vgo_congr {P : Program} {ops : List Oper} {o : Oper} {T T' : Sl} {h : AHeap} {K K' : Sl → AHeap → Prop} (ha : Agree ops o T T') (hk : ∀ v h', K (tput T o.dst v) h' → K' (tput T' o.dst v) h') (hv : vgo P ops o T h K) : vgo P ops o T' h K' := by
  unfold vgo at *
  split at hv
  · rw [vstep_congr ha.1] at hv
    exact vstep_mono hv hk
  · rename_i g want hg
    rw [ha.2 _ _ hg] at hv
    split at hv
    · refine ⟨fun e => ?_, fun e => hk _ _ (hv.2 e)⟩
      have := hv.1 e
      rw [vstep_congr ha.1] at this
      exact vstep_mono this hk
    · exact hv

/-- Operations that turn nothing in memory. -/
def ro : Op → Bool
  | .move _ | .assign _ | .pick .. | .build .. | .load .. | .nilCheck _ | .unOp .. | .convert .. | .fieldAddr .. | .field .. | .indexAddr .. | .index .. | .extract .. | .makeFunc .. | .slice .. => true
  | .binOp _ _ _ y _ => match y with
    | .const (.slice none 0 0) => false
    | _ => true
  | .call { callee := .builtin b, .. } => match b with
    | .len | .max | .min => true
    | _ => false
  | _ => false

theorem ro_vop {P : Program} {T : Sl} {h h' : AHeap} {o : Oper} {v : V} (hr : ro o.op = true) (hv : vop P T h o = some (v, h')) : h' = h := by
  unfold vop at hv
  split at hv <;> rename_i ho <;> first | (cases hv; done) | (rw [ho] at hr; simp [ro] at hr; done) | skip
  all_goals ((repeat' split at hv) <;> first | (cases hv; done) | (cases hv; rfl))

theorem ro_vmem {P : Program} {T : Sl} {h : AHeap} {o : Oper} (hr : ro o.op = true) : vmem P T h o = none := by
  unfold vmem
  split <;> rename_i ho <;> first | rfl | (rw [ho] at hr; simp [ro] at hr; done)

theorem ro_vother {P : Program} {T : Sl} {h : AHeap} {o : Oper} {K : V → AHeap → Prop} (hr : ro o.op = true) : ¬ vother P T h o K := by
  unfold vother
  split <;> rename_i ho <;> first | exact id | (rw [ho] at hr; simp [ro] at hr; done)

theorem ro_vstep {P : Program} {T : Sl} {h : AHeap} {o : Oper} {K : V → AHeap → Prop} (hr : ro o.op = true) : vstep P T h o K ↔ ∃ v, vop P T h o = some (v, h) ∧ K v h := by
  unfold vstep
  cases hv : vop P T h o with
  | some x =>
    obtain ⟨v, h'⟩ := x
    have := ro_vop hr hv
    subst this
    exact ⟨fun hk => ⟨v, rfl, hk⟩, fun ⟨v', e, hk⟩ => by cases e; exact hk⟩
  | none =>
    rw [ro_vmem hr]
    exact ⟨fun hk => (ro_vother hr hk).elim, fun ⟨v', e, _⟩ => by cases e⟩

/-- An operation that turns nothing, with its guard. -/
def Ran (P : Program) (ops : List Oper) (o : Oper) (T : Sl) (h : AHeap) (v : V) : Prop :=
  match o.guard with
  | none => vop P T h o = some (v, h)
  | some (g, want) => match gval ops T g with
    | some b => (b = some want → vop P T h o = some (v, h)) ∧ (b ≠ some want → v = vundef)
    | none => False

theorem vgo_ro {P : Program} {ops : List Oper} {o : Oper} {T : Sl} {h : AHeap} {K : Sl → AHeap → Prop} (hr : ro o.op = true) : vgo P ops o T h K ↔ ∃ v, Ran P ops o T h v ∧ K (tput T o.dst v) h := by
  unfold vgo Ran
  cases hg : o.guard with
  | none => exact ro_vstep hr
  | some gw =>
    obtain ⟨g, want⟩ := gw
    simp only
    cases hb : gval ops T g with
    | none => simp
    | some b =>
      simp only
      constructor
      · rintro ⟨h1, h2⟩
        by_cases e : b = some want
        · obtain ⟨v, a, c⟩ := (ro_vstep hr).1 (h1 e)
          exact ⟨v, ⟨fun _ => a, fun hn => absurd e hn⟩, c⟩
        · exact ⟨vundef, ⟨fun he => absurd he e, fun _ => rfl⟩, h2 e⟩
      · rintro ⟨v, ⟨h1, h2⟩, hk⟩
        exact ⟨fun e => (ro_vstep hr).2 ⟨v, h1 e, hk⟩, fun e => by rw [← h2 e]; exact hk⟩

end Go.Vt
