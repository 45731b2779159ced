/- Own framework, part 15: operations of a region in any order that the region allows. -/
import Derived.Test.YtladjgdhpfcmjaaGreatDoorVtStep
import Derived.OrdersIn
namespace Go.Vt

theorem opd_lookup {T T' : Sl} (h : ∀ i, T.lookup i = T'.lookup i) (x : Operand) : opd T x = opd T' x := by
  cases x <;> first | exact h _ | rfl

theorem opds_congr {T T' : Sl} : ∀ {xs : List Operand}, (∀ x ∈ xs, opd T x = opd T' x) → opds T xs = opds T' xs
  | [], _ => rfl
  | x :: r, h => by
    unfold opds
    rw [h x (by simp), opds_congr fun y hy => h y (by simp [hy])]

theorem opdPairs_congr {T T' : Sl} : ∀ {xs : List (Nat × Operand)}, (∀ x ∈ xs, opd T x.2 = opd T' x.2) → opdPairs T xs = opdPairs T' xs
  | [], _ => rfl
  | (k, x) :: r, h => by
    unfold opdPairs
    rw [h (k, x) (by simp), opdPairs_congr fun y hy => h y (by simp [hy])]

theorem vop_congr {P : Program} {T T' : Sl} {h : AHeap} {o : Oper} (he : ∀ x ∈ o.op.operands, opd T x = opd T' x) : vop P T h o = vop P T' h o := by
  obtain ⟨dst, op, type, pos, after, guard⟩ := o
  cases op <;> simp only [Op.operands] at he
  case build t ps =>
    simp only [vop]
    rw [opdPairs_congr (T := T) (T' := T') fun x hx => he x.2 (by simpa using ⟨x.1, by simpa using hx⟩)]
  case makeFunc fn first caps =>
    cases fn <;> try rfl
    simp only [vop]
    rw [opds_congr (T := T) (T' := T') (xs := caps.toList) fun x hx => he x (by simp at hx ⊢; exact .inr hx), opds_congr (T := T) (T' := T') (xs := first.toList) fun x hx => he x (by simp at hx ⊢; exact .inl hx)]
  case slice t x lo hi mx =>
    cases mx with
    | some m => cases lo <;> cases hi <;> simp_all [vop]
    | none => cases lo <;> cases hi <;> simp_all [vop, opdO]
  case call c =>
    obtain ⟨callee, args, ats⟩ := c
    simp only [Call.operands] at he
    cases callee with
    | builtin b =>
      have hargs : ∀ x ∈ args.toList, opd T x = opd T' x := fun x hx => he x (by simpa using hx)
      cases b <;> (try rfl)
      · simp only [vop]
        split
        · rename_i x t e1 e2
          rw [hargs x (by rw [e1]; simp)]
        · rfl
      · simp only [vop]
        split
        · rename_i x y e1
          rw [hargs x (by rw [e1]; simp), hargs y (by rw [e1]; simp)]
        · rfl
      · simp only [vop]
        split
        · rename_i x y e1
          rw [hargs x (by rw [e1]; simp), hargs y (by rw [e1]; simp)]
        · rfl
    | value f => rfl
    | invoke r m => rfl
  all_goals first | rfl | (simp_all [vop]; done)

theorem vmem_congr {P : Program} {T T' : Sl} {h : AHeap} {o : Oper} (he : ∀ x ∈ o.op.operands, opd T x = opd T' x) : vmem P T h o = vmem P T' h o := by
  obtain ⟨dst, op, type, pos, after, guard⟩ := o
  cases op <;> simp only [Op.operands] at he
  case buildSlice t n ps =>
    simp only [vmem]
    rw [opdPairs_congr (T := T) (T' := T') fun x hx => he x.2 (by simpa using ⟨x.1, by simpa using hx⟩)]
  case call c =>
    obtain ⟨callee, args, ats⟩ := c
    simp only [Call.operands] at he
    cases callee with
    | builtin b =>
      have hargs : ∀ x ∈ args.toList, opd T x = opd T' x := fun x hx => he x (by simpa using hx)
      cases b <;> (try rfl)
      · simp only [vmem]
        split
        · rename_i x y t t' e1 e2
          rw [hargs x (by rw [e1]; simp), hargs y (by rw [e1]; simp)]
        · rfl
      · simp only [vmem]
        split
        · rename_i x y t t' e1 e2
          rw [hargs x (by rw [e1]; simp), hargs y (by rw [e1]; simp)]
        · rfl
      · simp only [vmem]
        split
        · rename_i x e1
          rw [hargs x (by rw [e1]; simp)]
        · rfl
      · simp only [vmem]
        split
        · rename_i x y t t' e1 e2
          rw [hargs x (by rw [e1]; simp), hargs y (by rw [e1]; simp)]
        · rfl
    | value f =>
      cases f <;> first | rfl | skip
      rename_i f
      have hargs : ∀ x ∈ args.toList, opd T x = opd T' x := fun x hx => he x (by simp; exact .inr (by simpa using hx))
      simp only [vmem]
      split
      · split
        · rename_i x e1
          rw [hargs x (by rw [e1]; simp)]
        · rfl
      · rfl
    | invoke r m => rfl
  all_goals first | rfl | (simp_all [vmem]; done)

theorem vother_congr {P : Program} {T T' : Sl} {h : AHeap} {o : Oper} {K : V → AHeap → Prop} (he : ∀ x ∈ o.op.operands, opd T x = opd T' x) : vother P T h o K = vother P T' h o K := by
  unfold vother
  split
  · rename_i f args ats ho
    rw [ho] at he
    simp only [Op.operands, Call.operands] at he
    rw [he f (by simp), opds_congr (T := T) (T' := T') fun x hx => he x (by simp; exact .inr (by simpa using hx))]
  · rename_i op t x yt ho
    rw [ho] at he
    rw [he x (by simp [Op.operands])]
  · rfl

theorem vstep_congr {P : Program} {T T' : Sl} {h : AHeap} {o : Oper} {K : V → AHeap → Prop} (he : ∀ x ∈ o.op.operands, opd T x = opd T' x) : vstep P T h o K = vstep P T' h o K := by
  unfold vstep
  rw [vop_congr he, vmem_congr he, vother_congr he]

def Agree (ops : List Oper) (o : Oper) (T T' : Sl) : Prop := (∀ x ∈ o.op.operands, opd T x = opd T' x) ∧ ∀ g b, o.guard = some (g, b) → gval ops T g = gval ops T' g

theorem Agree.symm {ops : List Oper} {o : Oper} {T T' : Sl} (h : Agree ops o T T') : Agree ops o T' T := ⟨fun x hx => (h.1 x hx).symm, fun g b hg => (h.2 g b hg).symm⟩

theorem gval_lookup {ops : List Oper} {T T' : Sl} (h : ∀ i, T.lookup i = T'.lookup i) (g : Nat) : gval ops T g = gval ops T' g := by
  unfold gval
  split
  · split
    · rw [h]
    · rfl
  · rfl

theorem Agree.all {ops : List Oper} {o : Oper} {T T' : Sl} (h : ∀ i, T.lookup i = T'.lookup i) : Agree ops o T T' := ⟨fun x _ => opd_lookup h x, fun g _ _ => gval_lookup h g⟩

theorem Agree.put {ops : List Oper} {o : Oper} {T : Sl} {d : Option Tmp} {v : V} (h : ∀ t, d = some t → t ∉ o.looksAt ops.toArray) : Agree ops o (tput T d v) T := by
  cases d with
  | none => exact ⟨fun _ _ => rfl, fun _ _ _ => rfl⟩
  | some t =>
    have ht := h t rfl
    have hne : ∀ i, i ≠ t → (tput T (some t) v).lookup i = T.lookup i := by
      intro i hi
      show List.lookup i ((t, v) :: T) = _
      rw [List.lookup_cons]
      have : (i == t) = false := by simpa using hi
      rw [this]
    refine ⟨fun x hx => ?_, fun g b hg => ?_⟩
    · cases x with
      | tmp i =>
        refine hne i fun e => ht ?_
        subst e
        exact List.mem_append_left _ (List.mem_filterMap.2 ⟨.tmp i, by simpa using hx, rfl⟩)
      | _ => rfl
    · unfold gval
      split
      · rename_i og hog
        split
        · rename_i dg hdg
          rw [hne dg]
          intro e
          subst e
          refine ht (List.mem_append_right _ ?_)
          rw [hg]
          simp [hog, hdg]
        · rfl
      · rfl

theorem vgo_congr {P : Program} {ops : List Oper} {o : Oper} {T T' : Sl} {h : AHeap} {K K' : Sl → AHeap → Prop} (ha : Agree ops o T T') (hk : ∀ v h', K (tput T o.dst v) h' → K' (tput T' o.dst v) h') (hv : vgo P ops o T h K) : vgo P ops o T' h K' := by
  unfold vgo at *
  split at hv
  · rw [vstep_congr ha.1] at hv
    exact vstep_mono hv hk
  · rename_i g want hg
    rw [ha.2 _ _ hg] at hv
    split at hv
    · refine ⟨fun e => ?_, fun e => hk _ _ (hv.2 e)⟩
      have := hv.1 e
      rw [vstep_congr ha.1] at this
      exact vstep_mono this hk
    · exact hv

def ro : Op → Bool
  | .move _ | .assign _ | .pick .. | .build .. | .load .. | .nilCheck _ | .unOp .. | .convert .. | .fieldAddr .. | .field .. | .indexAddr .. | .index .. | .extract .. | .makeFunc .. | .slice .. => true
  | .binOp _ _ _ y _ => match y with
    | .const (.slice none 0 0) => false
    | _ => true
  | .call { callee := .builtin b, .. } => match b with
    | .len | .max | .min => true
    | _ => false
  | _ => false

theorem ro_vop {P : Program} {T : Sl} {h h' : AHeap} {o : Oper} {v : V} (hr : ro o.op = true) (hv : vop P T h o = some (v, h')) : h' = h := by
  unfold vop at hv
  split at hv <;> rename_i ho <;> first | (cases hv; done) | (rw [ho] at hr; simp [ro] at hr; done) | skip
  all_goals ((repeat' split at hv) <;> first | (cases hv; done) | (cases hv; rfl))

theorem ro_vmem {P : Program} {T : Sl} {h : AHeap} {o : Oper} (hr : ro o.op = true) : vmem P T h o = none := by
  unfold vmem
  split <;> rename_i ho <;> first | rfl | (rw [ho] at hr; simp [ro] at hr; done)

theorem ro_vother {P : Program} {T : Sl} {h : AHeap} {o : Oper} {K : V → AHeap → Prop} (hr : ro o.op = true) : ¬ vother P T h o K := by
  unfold vother
  split <;> rename_i ho <;> first | exact id | (rw [ho] at hr; simp [ro] at hr; done)

theorem ro_vstep {P : Program} {T : Sl} {h : AHeap} {o : Oper} {K : V → AHeap → Prop} (hr : ro o.op = true) : vstep P T h o K ↔ ∃ v, vop P T h o = some (v, h) ∧ K v h := by
  unfold vstep
  cases hv : vop P T h o with
  | some x =>
    obtain ⟨v, h'⟩ := x
    have := ro_vop hr hv
    subst this
    exact ⟨fun hk => ⟨v, rfl, hk⟩, fun ⟨v', e, hk⟩ => by cases e; exact hk⟩
  | none =>
    rw [ro_vmem hr]
    exact ⟨fun hk => (ro_vother hr hk).elim, fun ⟨v', e, _⟩ => by cases e⟩

def Ran (P : Program) (ops : List Oper) (o : Oper) (T : Sl) (h : AHeap) (v : V) : Prop :=
  match o.guard with
  | none => vop P T h o = some (v, h)
  | some (g, want) => match gval ops T g with
    | some b => (b = some want → vop P T h o = some (v, h)) ∧ (b ≠ some want → v = vundef)
    | none => False

theorem vgo_ro {P : Program} {ops : List Oper} {o : Oper} {T : Sl} {h : AHeap} {K : Sl → AHeap → Prop} (hr : ro o.op = true) : vgo P ops o T h K ↔ ∃ v, Ran P ops o T h v ∧ K (tput T o.dst v) h := by
  unfold vgo Ran
  cases hg : o.guard with
  | none => exact ro_vstep hr
  | some gw =>
    obtain ⟨g, want⟩ := gw
    simp only
    cases hb : gval ops T g with
    | none => simp
    | some b =>
      simp only
      constructor
      · rintro ⟨h1, h2⟩
        by_cases e : b = some want
        · obtain ⟨v, a, c⟩ := (ro_vstep hr).1 (h1 e)
          exact ⟨v, ⟨fun _ => a, fun hn => absurd e hn⟩, c⟩
        · exact ⟨vundef, ⟨fun he => absurd he e, fun _ => rfl⟩, h2 e⟩
      · rintro ⟨v, ⟨h1, h2⟩, hk⟩
        exact ⟨fun e => (ro_vstep hr).2 ⟨v, h1 e, hk⟩, fun e => by rw [← h2 e]; exact hk⟩

end Go.Vt
namespace Go.Vt

def heapless (P : Program) : Op → Bool
  | .convert _ t _ => match ti P t with
    | some j => match j.kd with
      | .int _ => true
      | .str => true
      | _ => false
    | none => false
  | .move _ | .assign _ | .pick .. | .build .. | .unOp .. | .field .. | .index .. | .extract .. | .makeFunc .. => true
  | .binOp _ t _ y _ => match y with
    | .const (.slice none 0 0) => false
    | _ => match ti P t with
      | some i => match i.kd with
        | .ptr => false
        | _ => true
      | none => false
  | .call { callee := .builtin b, .. } => match b with
    | .max | .min => true
    | _ => false
  | _ => false

theorem vbin_heapless {h h' : AHeap} {kd : TK} {op : BinOp} {u v : V} (hk : kd ≠ .ptr) : vbin h kd op u v = vbin h' kd op u v := by
  unfold vbin
  split <;> first | rfl | skip
  cases kd <;> first | rfl | exact absurd rfl hk

theorem vbin2_heapless {P : Program} {h h' : AHeap} {t : TypeId} {kd : TK} {op : BinOp} {u v : V} (hk : kd ≠ .ptr) : vbin2 P h t kd op u v = vbin2 P h' t kd op u v := by
  unfold vbin2
  rw [vbin_heapless (h' := h') hk]
  split
  · rfl
  · cases kd <;> first | rfl | exact absurd rfl hk

theorem heapless_vop {P : Program} {T : Sl} {h h2 : AHeap} {o : Oper} {v : V} (hr : heapless P o.op = true) (hv : vop P T h o = some (v, h)) : vop P T h2 o = some (v, h2) := by
  obtain ⟨dst, op, type, pos, after, guard⟩ := o
  cases op <;> simp only [heapless] at hr <;> try (cases hr; done)
  case binOp op t x y yt =>
    split at hr
    · cases hr
    · split at hr
      · rename_i i hi
        split at hr
        · cases hr
        · rename_i hk
          have hb : ∀ u v, vbin2 P h t i.kd op u v = vbin2 P h2 t i.kd op u v := fun u v => vbin2_heapless fun e => hk e
          simp only [vop, hi] at hv ⊢
          cases hx : opd T x <;> cases hy : opd T y <;> simp only [hx, hy] at hv ⊢ <;> first | (cases hv; done) | skip
          rw [hb] at hv
          split at hv
          · cases hv; simp_all
          · cases hv
      · cases hr
  case convert s t x =>
    split at hr
    · rename_i j hj
      simp only [vop, hj] at hv ⊢
      generalize opd T x = ox at hv ⊢
      generalize ti P s = os at hv ⊢
      rcases os with _ | os
      · cases hv
      rcases ox with _ | ⟨l | _ | _⟩ <;> first | (cases hv; done) | skip
      cases l <;> first | (cases hv; done) | skip
      · rename_i d
        cases d <;> first | (cases hv; done) | skip
        · simp only at hv ⊢
          split at hv <;> first | (cases hv; done) | (cases hv; simp_all)
        · simp only at hv ⊢
          split at hv <;> first | (cases hv; done) | (cases hv; simp_all)
      · simp only at hv
        split at hr <;> rename_i e4 <;> first | (cases hr; done) | (simp only [e4] at hv; cases hv)
    · cases hr
  case makeFunc fn first caps =>
    cases fn <;> simp only [vop] at hv ⊢ <;> first | (cases hv; done) | skip
    (repeat' split at hv) <;> first | (cases hv; done) | (cases hv; simp_all)
  case call c =>
    obtain ⟨callee, args, ats⟩ := c
    cases callee with
    | builtin b =>
      cases b <;> simp only at hr <;> (try (cases hr; done))
      all_goals
        simp only [vop] at hv ⊢
        split at hv
        · rename_i x y e1
          try simp only [e1]
          split at hv
          · rename_i k a k' b e2 e3
            try simp only [e2, e3]
            cases hv
            rfl
          · cases hv
        · cases hv
    | value f => cases hr
    | invoke r m => cases hr
  all_goals (simp only [vop] at hv ⊢; (repeat' split at hv) <;> first | (cases hv; done) | (cases hv; simp_all; done))

theorem Ran.heapless {P : Program} {ops : List Oper} {T : Sl} {h h2 : AHeap} {o : Oper} {v : V} (hr : Vt.heapless P o.op = true) (hv : Ran P ops o T h v) : Ran P ops o T h2 v := by
  unfold Ran at *
  split at hv
  · exact heapless_vop hr hv
  · split at hv
    · exact ⟨fun e => heapless_vop hr (hv.1 e), hv.2⟩
    · exact hv

theorem Ran.agree {P : Program} {ops : List Oper} {T T' : Sl} {h : AHeap} {o : Oper} {v : V} (ha : Agree ops o T T') (hv : Ran P ops o T h v) : Ran P ops o T' h v := by
  unfold Ran at *
  split at hv
  · rw [← vop_congr ha.1]; exact hv
  · rename_i g want hg
    rw [← ha.2 _ _ hg]
    split at hv
    · rw [← vop_congr ha.1]; exact hv
    · exact hv

abbrev Watch := List (Nat × (AHeap → Prop))

def vrunS (P : Program) (ops : List Oper) (ob : Nat → List Nat) : List Nat → Watch → Sl → AHeap → (Sl → AHeap → Prop) → Prop
  | [], _, T, h, K => K T h
  | i :: R, W, T, h, K => match ops[i]? with
    | none => False
    | some o =>
      if ro o.op = true then vgo P ops o T h fun T' h' => vrunS P ops ob R ((i, fun h2 => vgo P ops o T h2 fun T2 _ => T2 = T') :: W) T' h' K
      else vgo P ops o T h fun T' h' => (∀ x ∈ W, x.1 ∈ ob i → x.2 h') ∧ vrunS P ops ob R W T' h' K

variable {P : Program} {ops : List Oper} {ob : Nat → List Nat}

def SameT (T T' : Sl) : Prop := ∀ i, T.lookup i = T'.lookup i

theorem SameT.put {T T' : Sl} (h : SameT T T') (d : Option Tmp) (v : V) : SameT (tput T d v) (tput T' d v) := by
  cases d with
  | none => exact h
  | some d => intro i; show List.lookup i ((d, v) :: T) = List.lookup i ((d, v) :: T'); simp only [List.lookup_cons, h i]

theorem put_comm {T : Sl} {d e : Option Tmp} (u v : V) (hne : ∀ t, d = some t → e ≠ some t) : SameT (tput (tput T d v) e u) (tput (tput T e u) d v) := by
  cases d with
  | none => intro i; rfl
  | some d => cases e with
    | none => intro i; rfl
    | some e =>
      intro i
      show List.lookup i ((e, u) :: (d, v) :: T) = List.lookup i ((d, v) :: (e, u) :: T)
      have hde : e ≠ d := fun h => hne d rfl (by rw [h])
      simp only [List.lookup_cons]
      by_cases h1 : i = e
      · subst h1
        have : (i == d) = false := by simpa using hde
        simp [this]
      · have : (i == e) = false := by simpa using h1
        simp [this]

def WLe (W W' : Watch) : Prop := ∀ x' ∈ W', ∃ x ∈ W, x.1 = x'.1 ∧ ∀ h, x.2 h → x'.2 h

theorem WLe.refl (W : Watch) : WLe W W := fun x hx => ⟨x, hx, rfl, fun _ h => h⟩
theorem WLe.cons {W W' : Watch} (h : WLe W W') {i : Nat} {p p' : AHeap → Prop} (hp : ∀ h, p h → p' h) : WLe ((i, p) :: W) ((i, p') :: W') := by
  intro x hx
  rcases List.mem_cons.1 hx with rfl | hx
  · exact ⟨(i, p), by simp, rfl, hp⟩
  · obtain ⟨y, a, b, c⟩ := h x hx
    exact ⟨y, by simp [a], b, c⟩

theorem tput_inj {T T' : Sl} {d : Option Tmp} {u v : V} (h : tput T d u = tput T d v) : tput T' d u = tput T' d v := by
  cases d with
  | none => rfl
  | some d =>
    have : (d, u) :: T = (d, v) :: T := h
    simp at this
    rw [this]

theorem watch_agree {o : Oper} {T T' : Sl} {h2 : AHeap} {v : V} (ha : Agree ops o T T') (h : vgo P ops o T h2 fun T2 _ => T2 = tput T o.dst v) : vgo P ops o T' h2 fun T2 _ => T2 = tput T' o.dst v :=
  vgo_congr ha (fun _ _ e => tput_inj e) h

theorem vrunS_congr : ∀ (R : List Nat) {W W' : Watch} {T T' : Sl} {h : AHeap} {K K' : Sl → AHeap → Prop}, SameT T T' → WLe W W' → (∀ T T' h, SameT T T' → K T h → K' T' h) → vrunS P ops ob R W T h K → vrunS P ops ob R W' T' h K'
  | [], W, W', T, T', h, K, K', hT, _, hK, hv => hK _ _ _ hT hv
  | i :: R, W, W', T, T', h, K, K', hT, hW, hK, hv => by
    unfold vrunS at hv ⊢
    cases ho : ops[i]? with
    | none => simp [ho] at hv
    | some o =>
      simp only [ho] at hv ⊢
      have ha : Agree ops o T T' := Agree.all hT
      split
      · rename_i hr
        rw [if_pos hr] at hv
        exact vgo_congr ha (fun v h' hv' => vrunS_congr R (hT.put _ _) (hW.cons fun h2 hp => watch_agree ha hp) hK hv') hv
      · rename_i hr
        rw [if_neg hr] at hv
        refine vgo_congr ha (fun v h' hv' => ⟨fun x hx hm => ?_, vrunS_congr R (hT.put _ _) hW hK hv'.2⟩) hv
        obtain ⟨y, a, b, c⟩ := hW x hx
        exact c _ (hv'.1 y a (by rw [b]; exact hm))

def okSwap (P : Program) (ops : List Oper) (ob : Nat → List Nat) (i j : Nat) : Bool := match ops[i]?, ops[j]? with
  | some x, some y => ro x.op && x.apart ops.toArray y && (ro y.op || heapless P x.op || (ob j).contains i)
  | _, _ => false

theorem vrunS_swap {i j : Nat} {R : List Nat} {W : Watch} {T : Sl} {h : AHeap} {K : Sl → AHeap → Prop} (hs : okSwap P ops ob i j = true) (hK : ∀ T T' h, SameT T T' → K T h → K T' h)
    (hv : vrunS P ops ob (i :: j :: R) W T h K) : vrunS P ops ob (j :: i :: R) W T h K := by
  unfold okSwap at hs
  split at hs
  · rename_i x y hx hy
    simp only [Bool.and_eq_true, Bool.or_eq_true, List.contains_eq_mem, decide_eq_true_eq] at hs
    obtain ⟨⟨hrx, hap⟩, hs⟩ := hs
    obtain ⟨a1, a2, a3⟩ := Oper.apart_spec hap
    rw [vrunS] at hv
    simp only [hx, if_pos hrx] at hv
    obtain ⟨v, hran, hv⟩ := (vgo_ro hrx).1 hv
    -- the second reads as if the first had not been
    have ay : Agree ops y (tput T x.dst v) T := Agree.put a1
    have ax : ∀ u, Agree ops x (tput T y.dst u) T := fun u => Agree.put a3
    have wx : ∀ u h2, (vgo P ops x T h2 fun T2 _ => T2 = tput T x.dst v) → vgo P ops x (tput T y.dst u) h2 fun T2 _ => T2 = tput (tput T y.dst u) x.dst v := fun u h2 hp => watch_agree (ax u).symm hp
    rw [vrunS] at hv ⊢
    simp only [hy] at hv ⊢
    by_cases hry : ro y.op = true
    · rw [if_pos hry] at hv ⊢
      obtain ⟨u, hru, hv⟩ := (vgo_ro hry).1 hv
      refine (vgo_ro hry).2 ⟨u, hru.agree ay, ?_⟩
      rw [vrunS]
      simp only [hx, if_pos hrx]
      refine (vgo_ro hrx).2 ⟨v, hran.agree (ax u).symm, ?_⟩
      refine vrunS_congr R (put_comm u v fun t ht => a2 t ht) ?_ hK hv
      intro p hp
      rcases List.mem_cons.1 hp with rfl | hp
      · exact ⟨_, List.mem_cons_of_mem _ List.mem_cons_self, rfl, fun h2 hp => wx u h2 hp⟩
      rcases List.mem_cons.1 hp with rfl | hp
      · exact ⟨_, List.mem_cons_self, rfl, fun h2 hp => watch_agree ay hp⟩
      · exact ⟨p, List.mem_cons_of_mem _ (List.mem_cons_of_mem _ hp), rfl, fun _ h => h⟩
    · rw [if_neg hry] at hv ⊢
      refine vgo_congr ay (fun u h2 hv' => ⟨fun p hp hm => hv'.1 p (List.mem_cons_of_mem _ hp) hm, ?_⟩) hv
      have hx2 : ∃ v2, Ran P ops x T h2 v2 ∧ tput T x.dst v2 = tput T x.dst v := by
        rcases hs with (hs | hs) | hs
        · exact absurd hs hry
        · exact ⟨v, hran.heapless hs, rfl⟩
        · have : vgo P ops x T h2 fun T2 _ => T2 = tput T x.dst v := hv'.1 _ List.mem_cons_self hs
          exact (vgo_ro hrx).1 this
      obtain ⟨v2, hx2, e2⟩ := hx2
      rw [vrunS]
      simp only [hx, if_pos hrx]
      refine (vgo_ro hrx).2 ⟨v2, hx2.agree (ax u).symm, ?_⟩
      rw [tput_inj (T' := tput T y.dst u) e2]
      refine vrunS_congr R (put_comm u v fun t ht => a2 t ht) ?_ hK hv'.2
      exact (WLe.refl W).cons fun h2 hp => wx u h2 hp
  · cases hs

end Go.Vt
