/- Own framework, part 14: one operation with its guard and its slot; it is sound. -/
import Derived.Test.YtladjgdhpfcmjaaGreatDoorVtMem4
import Derived.Laws.Cover3
namespace Go.Vt

section
variable {P : Program} {w : World} {μ : Pl} {h : AHeap}

theorem nilOwn_sound {id k sz : Nat} {h' : AHeap} (H : HRep w μ h) (hn : nilOwn h id k sz = some h') : ∃ μ', HRep w μ' h' ∧ Good w μ h w μ' h' := by
  unfold nilOwn at hn
  split at hn
  · rename_i ty cs hid
    split at hn
    · rename_i hk
      cases hn
      have H1 := H.pushNone sz
      have g1 := Good.pushNone w μ h sz
      have hlt := (List.getElem?_eq_some_iff.1 hid).1
      have hid1 : (h ++ [AObj.arr false sz 0 []])[id]? = some (.bx ty cs) := push_get _ hid
      obtain ⟨b, vs, T, b1, b2, b3, b4, b5⟩ := H1.box id cs hid1
      have g2 : Good w (μ.put h.length none) (h ++ [AObj.arr false sz 0 []]) w (μ.put h.length none) ((h ++ [AObj.arr false sz 0 []]).set id (.bx ty (cs.set k (.own h.length 0 0)))) :=
        Good.row (o' := .bx ty (cs.set k (.own h.length 0 0))) hid1 rfl (by simp [Fits]) b1 b2 ⟨rfl, rfl, rfl, rfl, fun _ _ => rfl, b2⟩ rfl
      refine ⟨_, H1.row (o' := .bx ty (cs.set k (.own h.length 0 0))) hid1 rfl (by simp [Fits]) b1 b2 ⟨rfl, rfl, rfl, rfl, fun _ _ => rfl, b2⟩ rfl ⟨by simp [b3], b4, ?_⟩, g1.trans g2⟩
      intro j l v hj hv
      have hklt := (List.getElem?_eq_some_iff.1 hk).1
      by_cases e : j = k
      · subst e
        simp [hklt] at hj
        subst hj
        have := b5 j .nils v hk hv
        cases this
        refine .ownNil (ty := none) (fz := false) (sz := sz) (xs := []) ?_ (Pl.put_same _ _ _)
        rw [List.getElem?_set_ne (by omega)]
        simp
      · rw [List.getElem?_set_ne (Ne.symm e)] at hj
        exact (b5 j l v hj hv).good g2
    · cases hn
  · cases hn

theorem nilOwns_sound : ∀ {gs : List (Nat × Nat × Nat)} {h h' : AHeap} {μ : Pl}, HRep w μ h → nilOwns h gs = some h' → ∃ μ', HRep w μ' h' ∧ Good w μ h w μ' h'
  | [], h, h', μ, H, hn => by cases hn; exact ⟨μ, H, Good.refl _ _ _⟩
  | (id, k, sz) :: r, h, h', μ, H, hn => by
    unfold nilOwns at hn
    split at hn
    · rename_i h1 h1e
      obtain ⟨μ1, H1, g1⟩ := nilOwn_sound H h1e
      obtain ⟨μ2, H2, g2⟩ := nilOwns_sound H1 hn
      exact ⟨μ2, H2, g1.trans g2⟩
    · cases hn

theorem vcall_sound {f : FuncId} {avs : List V} {K : V → AHeap → Prop} (hv : vcall P f avs h K) (H : HRep w μ h) {args : Array Value} (ha : avs.length = args.size) (hr : ∀ (j : Nat) (v : V) (x : Value), avs[j]? = some v → args[j]? = some x → RepV w μ h v x) :
    CallsIn Fence.wide 0 P f args w fun e w' => ∃ r x h' μ', e = .returned x ∧ K r h' ∧ HRep w' μ' h' ∧ RepV w' μ' h' r x ∧ Good w μ h w' μ' h' := by
  obtain ⟨bs, hn, avs1, h1, k0, k1, k2, hv⟩ := hv
  obtain ⟨μ1, H1, g1⟩ := nilOwns_sound H k0
  have g : Good w μ h w μ1 h1 := g1.trans k2.good
  obtain ⟨a1, a2⟩ := WkVs.get k1
  refine (vcall0_sound hv (k2.hrep H1) (a1.trans ha) fun j v x hj hx => ?_).mono ?_
  · obtain ⟨v0, b1, b2⟩ := a2 j v hj
    exact b2.rep ((hr j v0 x b1 hx).good g)
  · rintro e w' ⟨r, x, h', μ', e1, e2, e3, e4, e5⟩
    exact ⟨r, x, h', μ', e1, e2, e3, e4, g.trans e5⟩

end

def FW (r : Option Nat) : Fence := { Fence.wide with round := r }

def vnil (h : AHeap) (l : L) (K : Bool → Prop) : Prop :=
  match l with
  | .nils => K true
  | .d (.sl xs) => ∀ b : Bool, (b = true → xs = []) → K b
  | .own id ver len => match h[id]? with
    | some (.ar ty _ _ ver' _) => ver' = ver ∧ ∀ b : Bool, (b = true → len = 0) → K b
    | _ => False
  | _ => False

def capOk (h : AHeap) : L → Bool
  | .own id ver _ => match h[id]? with
    | some (.ar ty _ _ ver' _) => ver' == ver
    | _ => false
  | .ept id ver _ _ => match h[id]? with
    | some (.ar ty _ _ ver' _) => ver' == ver
    | _ => false
  | .ptr id _ => match h[id]? with
    | some (.bx ty _) => true
    | _ => false
  | .bsl id _ _ => match h[id]? with
    | some (.bx ty _) => true
    | _ => false
  | .osl id ver _ _ => match h[id]? with
    | some (.ar ty _ _ ver' _) => ver' == ver
    | _ => false
  | _ => true

def vother (P : Program) (T : Sl) (h : AHeap) (o : Oper) (K : V → AHeap → Prop) : Prop :=
  match o.op with
  | .call { callee := .value f, args, .. } => match opd T f, opds T args.toList with
    | some (.one (.fn f caps)), some vs => caps.all (capOk h) = true ∧ vcall P f (vs ++ caps.map .one) h K
    | some (.one (.fb f fst)), some vs => fst.all (capOk h) = true ∧ vcall P f (fst.map .one ++ (vs ++ [])) h K
    | _, _ => False
  | .binOp op t x (.const (.slice none 0 0)) _ => match ti P t, opd T x with
    | some i, some (.one l) => match i.kd, op with
      | .slice, .eql => vnil h l fun b => K (.one (.d (.bool b))) h
      | .slice, .neq => vnil h l fun b => K (.one (.d (.bool (!b)))) h
      | _, _ => False
    | _, _ => False
  | _ => False

def vstep (P : Program) (T : Sl) (h : AHeap) (o : Oper) (K : V → AHeap → Prop) : Prop :=
  match vop P T h o with
  | some (v, h') => K v h'
  | none => match vmem P T h o with
    | some (v, h') => K v h'
    | none => vother P T h o K

def tput (T : Sl) (d : Option Tmp) (v : V) : Sl := match d with
  | some d => (d, v) :: T
  | none => T

def vundef : V := .tup []

def gbool : Option V → Option (Option Bool)
  | some (.one (.d (.bool b))) => some (some b)
  | some (.tup []) => some none
  | _ => none

def gval (ops : List Oper) (T : Sl) (g : Nat) : Option (Option Bool) := match ops[g]? with
  | some o => match o.dst with
    | some d => gbool (T.lookup d)
    | none => none
  | none => none

def vgo (P : Program) (ops : List Oper) (o : Oper) (T : Sl) (h : AHeap) (K : Sl → AHeap → Prop) : Prop :=
  match o.guard with
  | none => vstep P T h o fun v h' => K (tput T o.dst v) h'
  | some (g, want) => match gval ops T g with
    | some b => (b = some want → vstep P T h o fun v h' => K (tput T o.dst v) h') ∧ (b ≠ some want → K (tput T o.dst vundef) h)
    | none => False

theorem vcall_mono {P : Program} {f : FuncId} {avs : List V} {h : AHeap} {K K' : V → AHeap → Prop} (hv : vcall P f avs h K) (hk : ∀ v h', K v h' → K' v h') : vcall P f avs h K' := by
  obtain ⟨bs, hn, avs1, h1, k0, k1, k2, ids, avs', hs, Post, a, b, c, d, e⟩ := hv
  exact ⟨bs, hn, avs1, h1, k0, k1, k2, ids, avs', hs, Post, a, b, c, d, fun r hs' hp => let ⟨r', h', x, y⟩ := e r hs' hp; ⟨r', h', x, hk _ _ y⟩⟩

theorem vnil_mono {h : AHeap} {l : L} {K K' : Bool → Prop} (hv : vnil h l K) (hk : ∀ b, K b → K' b) : vnil h l K' := by
  unfold vnil at *
  split at hv <;> first | exact hk _ hv | exact fun b hb => hk b (hv b hb) | skip
  · split at hv
    · exact ⟨hv.1, fun b hb => hk b (hv.2 b hb)⟩
    · exact hv
  · exact hv

theorem vother_mono {P : Program} {T : Sl} {h : AHeap} {o : Oper} {K K' : V → AHeap → Prop} (hv : vother P T h o K) (hk : ∀ v h', K v h' → K' v h') : vother P T h o K' := by
  unfold vother at *
  split at hv
  · split at hv
    · exact ⟨hv.1, vcall_mono hv.2 hk⟩
    · exact ⟨hv.1, vcall_mono hv.2 hk⟩
    · exact hv
  · split at hv
    · split at hv
      · exact vnil_mono hv fun b hb => hk _ _ hb
      · exact vnil_mono hv fun b hb => hk _ _ hb
      · exact hv
    · exact hv
  · exact hv

theorem vstep_mono {P : Program} {T : Sl} {h : AHeap} {o : Oper} {K K' : V → AHeap → Prop} (hv : vstep P T h o K) (hk : ∀ v h', K v h' → K' v h') : vstep P T h o K' := by
  unfold vstep at *
  split at hv
  · exact hk _ _ hv
  · split at hv
    · exact hk _ _ hv
    · exact vother_mono hv hk

theorem vgo_mono {P : Program} {ops : List Oper} {T : Sl} {h : AHeap} {o : Oper} {K K' : Sl → AHeap → Prop} (hv : vgo P ops o T h K) (hk : ∀ v h', K v h' → K' v h') : vgo P ops o T h K' := by
  unfold vgo at *
  split at hv
  · exact vstep_mono hv fun _ _ => hk _ _
  · split at hv
    · exact ⟨fun e => vstep_mono (hv.1 e) fun _ _ => hk _ _, fun e => hk _ _ (hv.2 e)⟩
    · exact hv

variable {P : Program} {w : World} {μ : Pl} {h : AHeap} {T : Sl} {a : Act}

theorem opds_get {args : List Operand} {vs : List V} (s : SRep w μ h T a) (ho : opds T args = some vs) : vs.length = args.length ∧ ∀ (j : Nat) (v : V) (x : Operand), vs[j]? = some v → args[j]? = some x → RepV w μ h v (a.eval x) := by
  induction args generalizing vs with
  | nil => cases ho; exact ⟨rfl, by simp⟩
  | cons x r ih =>
    unfold opds at ho
    split at ho
    · rename_i v vs' hx hr
      cases ho
      obtain ⟨h1, h2⟩ := ih hr
      refine ⟨by simp [h1], fun j u y hj hy => ?_⟩
      cases j with
      | zero => simp at hj hy; subst hj; subst hy; exact opd_rep s hx
      | succ j => exact h2 j u y (by simpa using hj) (by simpa using hy)
    · cases ho

def StepTo (P : Program) (o : Oper) (a : Act) (w : World) (μ : Pl) (h : AHeap) (K : V → AHeap → Prop) : Prop :=
  (∃ v h', K v h' ∧ Yields P w μ h (execOp a.eval o) v h') ∨
  ∃ f args, (execOp a.eval o).run P w = .ok (.enter f args) w ∧ CallsIn Fence.wide 0 P f args w fun e w' => ∃ r x h' μ', e = .returned x ∧ K r h' ∧ HRep w' μ' h' ∧ RepV w' μ' h' r x ∧ Good w μ h w' μ' h'

theorem callFunc_run {f : FuncId} (hc : callable P f = true) (args : Array Value) : (callFunc f args).run P w = .ok (.enter f args) w := by
  unfold callable at hc
  split at hc
  · rename_i fn hf
    simp only [Bool.and_eq_true, bne_iff_ne, ne_eq] at hc
    have h2 : fn.body ≠ none := by cases hb : fn.body <;> simp_all
    simp [callFunc, go_sem, hf, hc.1, h2]
  · cases hc

theorem nil_rep {l : L} {x : Value} {K : Bool → Prop} (hl : RepL w μ h l x) (hv : vnil h l K) :
    ∃ b, K b ∧ (∃ p len cap, x = .slice p len cap ∧ b = p.isNone) := by
  unfold vnil at hv
  split at hv
  · cases hl; exact ⟨true, hv, none, 0, 0, rfl, rfl⟩
  · rename_i xs
    cases hl with
    | d hd =>
      cases hd with
      | sl0 p cap => exact ⟨p.isNone, hv _ (fun _ => rfl), p, 0, cap, rfl, rfl⟩
      | sl sz _ b off cap vs hne => exact ⟨false, hv _ (fun hb => by cases hb), _, _, _, rfl, rfl⟩
  · rename_i id ver len
    split at hv
    · rename_i fz sz ver' xs hid
      obtain ⟨rfl, hv⟩ := hv
      cases hl with
      | own hid' => exact ⟨false, hv _ (fun hb => by cases hb), _, _, _, rfl, rfl⟩
      | ownNil hid' => exact ⟨true, hv _ (fun _ => rfl), none, 0, 0, rfl, rfl⟩
      | ownOld hid' hlt => rw [hid] at hid'; cases hid'; omega
      | ownDead hid' => rw [hid] at hid'; cases hid'
    · exact hv.elim
  · exact hv.elim

theorem capOk_one {l : L} {x : Value} (hl : RepL w μ h l x) (hc : capOk h l = true) : RepV w μ h (.one l) x := by
  by_cases hone : x.oneCell' = true
  · exact .one hone hl
  · cases hl with
    | any => exact .top
    | d hd => exact absurd hd.oneCell hone
    | ownOld hid hlt => simp only [capOk, hid, beq_iff_eq] at hc; omega
    | ownDead hid => simp [capOk, hid] at hc
    | eptOld hid hlt => simp only [capOk, hid, beq_iff_eq] at hc; omega
    | eptDead hid => simp [capOk, hid] at hc
    | ptrDead hid => simp [capOk, hid] at hc
    | bslDead hid => simp [capOk, hid] at hc
    | oslOld hid hlt => simp only [capOk, hid, beq_iff_eq] at hc; omega
    | oslDead hid => simp [capOk, hid] at hc
    | _ => exact absurd (by rfl) hone

theorem eql_slice_nil {t e : TypeId} {p : Option Addr} {l c : Nat} (hu : P.underlying t = some (.slice e)) : (binOp .eql t (.slice p l c) (.slice none 0 0)).run P w = .ok (.bool p.isNone) w := by
  simp [binOp, run_equal_slice_nil w t e p l c hu, Result.andThen]

theorem vother_sound {o : Oper} {K : V → AHeap → Prop} (H : HRep w μ h) (s : SRep w μ h T a) (hv : vother P T h o K) : StepTo P o a w μ h K := by
  unfold vother at hv
  split at hv
  · rename_i f args ats ho
    split at hv
    · rename_i f' caps vs hf hargs
      have hfr := opd_rep s hf
      obtain ⟨e1, e2⟩ := opds_get s hargs
      cases hfr with
      | one _ hl =>
        revert hl
        generalize hae : a.eval f = fv
        intro hl
        cases hl with
        | @fn _ _ cs hcl hcr =>
          have hcall := hv.2
          obtain ⟨_, _, _, _, _, _, _, _, _, _, _, _, _, _, hc, _⟩ := hcall
          refine .inr ⟨f', args.map a.eval ++ cs, ?_, vcall_sound hv.2 H ?_ ?_⟩
          · simp only [execOp, ho, Sem.run_bind, resolve, hae, Deferred.ofValue]
            show (invoke _ _).run P w = _
            simp only [invoke]
            rw [callFunc_run hc.1]
            simp
          · simp [e1, hcl]
          · intro j v x hj hx
            have hal : (args.map a.eval).size = vs.length := by simp [e1]
            rcases Nat.lt_or_ge j vs.length with hlt | hge
            · rw [List.getElem?_append_left hlt] at hj
              rw [Array.getElem?_append_left (by omega)] at hx
              simp only [Array.getElem?_map, Option.map_eq_some_iff] at hx
              obtain ⟨y, hy, rfl⟩ := hx
              exact e2 j v y hj (by simpa using hy)
            · rw [List.getElem?_append_right hge] at hj
              rw [Array.getElem?_append_right (by omega)] at hx
              simp only [List.getElem?_map, Option.map_eq_some_iff] at hj
              obtain ⟨l, hl, rfl⟩ := hj
              rw [hal] at hx
              exact capOk_one (hcr _ _ _ hl hx) (List.all_eq_true.1 hv.1 l (List.mem_of_getElem? hl))
    · rename_i f' caps vs hf hargs
      have hfr := opd_rep s hf
      obtain ⟨e1, e2⟩ := opds_get s hargs
      cases hfr with
      | one _ hl =>
        revert hl
        generalize hae : a.eval f = fv
        intro hl
        cases hl with
        | @fb _ _ cs hcl hcr =>
          have hcall := hv.2
          obtain ⟨_, _, _, _, _, _, _, _, _, _, _, _, _, _, hc, _⟩ := hcall
          refine .inr ⟨f', cs ++ args.map a.eval, ?_, vcall_sound hv.2 H ?_ ?_⟩
          · simp only [execOp, ho, Sem.run_bind, resolve, hae, Deferred.ofValue]
            show (invoke _ _).run P w = _
            simp only [invoke]
            rw [callFunc_run hc.1]
            simp
          · simp [e1, hcl]
          · intro j v x hj hx
            rw [List.append_nil] at hj
            have hcs : (caps.map V.one).length = cs.size := by simp [hcl]
            rcases Nat.lt_or_ge j cs.size with hlt | hge
            · rw [List.getElem?_append_left (by omega)] at hj
              rw [Array.getElem?_append_left (by omega)] at hx
              simp only [List.getElem?_map, Option.map_eq_some_iff] at hj
              obtain ⟨l, hl, rfl⟩ := hj
              exact capOk_one (hcr _ _ _ hl hx) (List.all_eq_true.1 hv.1 l (List.mem_of_getElem? hl))
            · rw [List.getElem?_append_right (by omega), hcs] at hj
              rw [Array.getElem?_append_right (by omega)] at hx
              simp only [Array.getElem?_map, Option.map_eq_some_iff] at hx
              obtain ⟨y, hy, rfl⟩ := hx
              exact e2 _ v y hj (by simpa using hy)
    · exact hv.elim
  · rename_i op t x yt ho
    split at hv
    · rename_i i l hi hx
      obtain ⟨I, d, h1, h2, _, _, _, _, h7, _⟩ := ti_spec hi
      have hxr := opd_rep s hx
      have hye : a.eval (.const (.slice none 0 0)) = .slice none 0 0 := rfl
      split at hv
      · rename_i hk
        obtain ⟨e, rfl⟩ := kd_slice (h7.symm.trans hk)
        cases hxr with
        | top => simp [vnil] at hv
        | one _ hl =>
          obtain ⟨b, hb, p, len, cap, hxe, rfl⟩ := nil_rep hl hv
          refine .inl ⟨_, h, hb, Yields.same H (.one rfl (.d (.bool _))) ?_⟩
          simp only [execOp, ho, hye, hxe]
          simp [eqGuard, eql_slice_nil h2, go_sem]
      · rename_i hk
        obtain ⟨e, rfl⟩ := kd_slice (h7.symm.trans hk)
        cases hxr with
        | top => simp [vnil] at hv
        | one _ hl =>
          obtain ⟨b, hb, p, len, cap, hxe, rfl⟩ := nil_rep hl hv
          refine .inl ⟨_, h, hb, Yields.same H (.one rfl (.d (.bool _))) ?_⟩
          simp only [execOp, ho, hye, hxe]
          simp [eqGuard, run_neq_slice_nil _ _ _ _ _ _ h2, go_sem]
      · exact hv.elim
    · exact hv.elim
  · exact hv.elim

theorem vstep_sound {o : Oper} {K : V → AHeap → Prop} (H : HRep w μ h) (s : SRep w μ h T a) (hv : vstep P T h o K) : StepTo P o a w μ h K := by
  unfold vstep at hv
  split at hv
  · rename_i v h' e; exact .inl ⟨v, h', hv, vop_sound H s e⟩
  · split at hv
    · rename_i v h' e; exact .inl ⟨v, h', hv, vmem_sound H s e⟩
    · exact vother_sound H s hv

end Go.Vt
