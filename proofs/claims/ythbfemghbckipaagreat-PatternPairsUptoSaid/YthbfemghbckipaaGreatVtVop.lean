/- Own framework, part 5: one operation, as a function on abstract values; it is sound. -/
import Derived.Test.YthbfemghbckipaaGreatVtSound2
import Derived.Laws.Concat
import Derived.Laws.Slices
import Derived.Laws.Pointers
import Derived.Laws.Small
import Derived.Laws.Strings
namespace Go.Vt

def opdO (T : Sl) : Option Operand → Option (Option V)
  | none => some none
  | some x => match opd T x with
    | some v => some (some v)
    | none => none

/-- A bound of a slice expression. -/
def vbound (n : Nat) : Option V → Option Nat
  | none => some n
  | some (.one (.d (.int _ k))) => if 0 ≤ k then some k.toNat else none
  | _ => none

def allLen (n : Nat) (xs : List (List D)) : Bool := xs.all fun e => e.length == n

def vslice (h : AHeap) (kd : TK) (el : Option EI) (v : V) (lo hi : Option V) : Option V :=
  match kd, v with
  | .slice, .one (.d (.sl xs)) => match vbound 0 lo, vbound xs.length hi, el with
    | some l, some k, some e => if l ≤ k ∧ k ≤ xs.length ∧ (l = 0 ∨ allLen e.size xs = true) then some (.one (.d (.sl ((xs.take k).drop l)))) else none
    | _, _, _ => none
  | .slice, .one (.own id ver len) => match lo, vbound len hi, h[id]?, el with
    | none, some k, some (.arr _ _ ver' _), some _ => if k ≤ len ∧ ver' = ver then some (.one (.own id ver k)) else none
    | _, _, _, _ => none
  | .str, .one (.d (.str s)) => match vbound 0 lo, vbound s.size hi with
    | some l, some k => if l ≤ k ∧ k ≤ s.size then some (.one (.d (.str (s.extract l k)))) else none
    | _, _ => none
  | _, _ => none

def vlen (h : AHeap) (kd : TK) : V → Option Nat
  | .one (.d (.sl xs)) => if kd = .slice then some xs.length else none
  | .one .nils => if kd = .slice then some 0 else none
  | .one (.own id ver len) => match h[id]? with
    | some (.arr _ _ ver' _) => if kd = .slice ∧ ver' = ver then some len else none
    | _ => none
  | .one (.d (.str s)) => if kd = .str then some s.size else none
  | _ => none

def vfield (i : TI) (f : Nat) : V → Option V
  | .agg ls => match i.kd, i.flds[f]? with
    | .struct, some F => if F.1 + F.2.1 ≤ ls.length then (if F.2.2 then some (.agg ((ls.drop F.1).take F.2.1)) else (match ls[F.1]? with | some l => some (.one l) | none => none)) else none
    | _, _ => none
  | _ => none

def vpick : V → Option V → Option V → Option V
  | .one (.d (.bool t)), some (.one (.d (.bool x))), some (.one (.d (.bool y))) => some (.one (.d (.bool (cond t x y))))
  | .one (.d (.bool true)), x, _ => x
  | .one (.d (.bool false)), _, y => y
  | _, _, _ => none

def vcaps : List V → Option (List L)
  | [] => some []
  | .one l :: r => match vcaps r with
    | some ls => some (l :: ls)
    | none => none
  | _ => none

/-- One operation that calls no function. -/
def vop (P : Program) (T : Sl) (h : AHeap) (o : Oper) : Option (V × AHeap) :=
  match o.op with
  | .move x | .assign x => match opd T x with
    | some v => some (v, h)
    | none => none
  | .pick c x y => match opd T c with
    | some b => match vpick b (opd T x) (opd T y) with
      | some v => some (v, h)
      | none => none
    | none => none
  | .alloc e => match ti P e with
    | some i => match i.zero with
      | some z => match vcells z with
        | some ls => some (.one (.ptr h.length 0), h ++ [.box ls])
        | none => none
      | none => none
    | none => none
  | .box _ x => match opd T x with
    | some v => if known v = true then (match vcells v with
      | some ls => some (.one (.ptr h.length 0), h ++ [.box ls])
      | none => none) else none
    | none => none
  | .build t ps => match ti P t, opdPairs T ps.toList with
    | some i, some vs => match vbuild i vs with
      | some v => some (v, h)
      | none => none
    | _, _ => none
  | .load t x => match ti P t, opd T x with
    | some i, some (.one l) => match vload h i l with
      | some v => some (v, h)
      | none => none
    | _, _ => none
  | .store t p x => match ti P t, opd T p, opd T x with
    | some i, some (.one l), some v => if known v = true then (match vstore h i l v with
      | some h' => some (.one .any, h')
      | none => none) else none
    | _, _, _ => none
  | .nilCheck x => match opd T x with
    | some (.one l) => match visNil h l with
      | some false => some (.one l, h)
      | _ => none
    | _ => none
  | .binOp op t x y _ => match ti P t, opd T x, opd T y with
    | some i, some u, some v => match vbin h i.kd op u v with
      | some d => some (.one (.d d), h)
      | none => none
    | _, _, _ => none
  | .unOp op _ x => match op, opd T x with
    | .not, some (.one (.d (.bool b))) => some (.one (.d (.bool (!b))), h)
    | .neg, some (.one (.d (.int k n))) => some (.one (.d (.int k (k.wrap (0 - n)))), h)
    | _, _ => none
  | .convert s t x => match ti P s, ti P t, opd T x with
    | some _, some j, some (.one (.d (.int _ n))) => match j.kd with
      | .int k => some (.one (.d (.int k (k.wrap n))), h)
      | _ => none
    | some _, some j, some (.one (.d (.str s))) => match j.kd with
      | .str => some (.one (.d (.str s)), h)
      | _ => none
    | _, _, _ => none
  | .makeFunc (.func f) first caps => if first.size = 0 then (match opds T caps.toList with
    | some vs => match vcaps vs with
      | some ls => some (.one (.fn f ls), h)
      | none => none
    | none => none) else none
  | .slice t x lo hi none => match ti P t, opd T x, opdO T lo, opdO T hi with
    | some i, some v, some l, some k => match vslice h i.kd i.el v l k with
      | some v => some (v, h)
      | none => none
    | _, _, _, _ => none
  | .fieldAddr t x f => match ti P t, opd T x with
    | some i, some (.one l) => match i.kd, i.flds[f]? with
      | .struct, some F => if F.2.1 = 0 then none else (match vfieldAddr h F.1 l with
        | some q => some (.one q, h)
        | none => none)
      | _, _ => none
    | _, _ => none
  | .field t x f => match ti P t, opd T x with
    | some i, some v => match vfield i f v with
      | some v => some (v, h)
      | none => none
    | _, _ => none
  | .indexAddr t x ix => match ti P t, opd T x, opd T ix with
    | some i, some (.one l), some (.one (.d (.int _ n))) => match i.el with
      | some e => match vindexAddr h e.size n l with
        | some q => some (.one q, h)
        | none => none
      | none => none
    | _, _, _ => none
  | .index t x ix => match ti P t, opd T x, opd T ix with
    | some i, some (.one (.d (.str s))), some (.one (.d (.int _ n))) => match i.kd with
      | .str => if 0 ≤ n then (match s[n.toNat]? with
        | some b => some (.one (.d (.int .u8 b.toNat)), h)
        | none => none) else none
      | _ => none
    | _, _, _ => none
  | .extract x k => match opd T x with
    | some (.tup vs) => match vs[k]? with
      | some v => some (v, h)
      | none => none
    | _ => none
  | .call { callee := .builtin .len, args, argTypes } => match args.toList, argTypes.toList with
    | [x], [t] => match ti P t, opd T x with
      | some i, some v => match vlen h i.kd v with
        | some n => some (.one (.d (.int .i64 n)), h)
        | none => none
      | _, _ => none
    | _, _ => none
  | .call { callee := .builtin .max, args, .. } => match args.toList with
    | [x, y] => match opd T x, opd T y with
      | some (.one (.d (.int k a))), some (.one (.d (.int _ b))) => some (.one (.d (.int k (if b > a then b else a))), h)
      | _, _ => none
    | _ => none
  | .call { callee := .builtin .min, args, .. } => match args.toList with
    | [x, y] => match opd T x, opd T y with
      | some (.one (.d (.int k a))), some (.one (.d (.int _ b))) => some (.one (.d (.int k (if b < a then b else a))), h)
      | _, _ => none
    | _ => none
  | _ => none

variable {P : Program} {w : World} {μ : Pl} {h : AHeap} {T : Sl} {a : Act}

theorem setFold (off : Nat) : ∀ (vs : List Value) (k : Nat) (cs : Array Value), off + k + vs.length ≤ cs.size →
    ((vs.zipIdx k).foldl (fun (cs : Array Value) (x : Value × Nat) => cs.setIfInBounds (off + x.2) x.1) cs).size = cs.size ∧
    ∀ j, ((vs.zipIdx k).foldl (fun (cs : Array Value) (x : Value × Nat) => cs.setIfInBounds (off + x.2) x.1) cs)[j]? = if off + k ≤ j ∧ j < off + k + vs.length then vs[j - (off + k)]? else cs[j]?
  | [], k, cs, _ => ⟨rfl, fun j => by rw [if_neg (by simp)]; rfl⟩
  | v :: r, k, cs, hl => by
    simp only [List.length_cons] at hl
    obtain ⟨h1, h2⟩ := setFold off r (k + 1) (cs.setIfInBounds (off + k) v) (by simp; omega)
    simp only [List.zipIdx_cons, List.foldl_cons]
    refine ⟨by rw [h1]; simp, fun j => ?_⟩
    rw [h2 j]
    simp only [List.length_cons]
    by_cases c1 : off + (k + 1) ≤ j ∧ j < off + (k + 1) + r.length
    · rw [if_pos c1, if_pos (by omega), show j - (off + k) = (j - (off + (k + 1))) + 1 by omega, List.getElem?_cons_succ]
    · rw [if_neg c1]
      by_cases c2 : j = off + k
      · subst c2
        rw [if_pos (by omega)]
        simp [show off + k < cs.size by omega]
      · rw [if_neg (by omega), Array.getElem?_setIfInBounds_ne (by omega)]

theorem opdPairs_rep (s : SRep w μ h T a) : ∀ {ps : List (Nat × Operand)} {vs : List (Nat × V)}, opdPairs T ps = some vs → vs.length = ps.length ∧ ∀ (j : Nat) (k : Nat) (v : V) (q : Nat × Operand), vs[j]? = some (k, v) → ps[j]? = some q → q.1 = k ∧ RepV w μ h v (a.eval q.2)
  | [], vs, hv => by cases hv; exact ⟨rfl, by simp⟩
  | (k, x) :: r, vs, hv => by
    unfold opdPairs at hv
    split at hv
    · rename_i v vs' hx hr
      cases hv
      obtain ⟨h1, h2⟩ := opdPairs_rep s hr
      refine ⟨by simp [h1], ?_⟩
      intro j k' v' q hj hq
      cases j with
      | zero => simp at hj hq; obtain ⟨rfl, rfl⟩ := hj; subst hq; exact ⟨rfl, opd_rep s hx⟩
      | succ j => exact h2 j k' v' q (by simpa using hj) (by simpa using hq)
    · cases hv

/-- A row of cells and what is known of it. -/
def RowRep (w : World) (μ : Pl) (h : AHeap) (ls : List L) (cs : Array Value) : Prop :=
  ls.length = cs.size ∧ (∀ v ∈ cs, v.oneCell' = true) ∧ ∀ (j : Nat) (l : L) (v : Value), ls[j]? = some l → cs[j]? = some v → RepL w μ h l v

theorem vfill_sound (place : Nat → Option (Nat × Nat)) (fl : List (Nat × Nat × Bool)) (hpl : ∀ k F, fl[k]? = some F → place k = some (F.1, F.2.1)) :
    ∀ (ps : List (Nat × V)) (xs : List (Nat × Value)) (ls : List L) (cs : Array Value) (out : List L), ps.length = xs.length →
      (∀ (j : Nat) (p : Nat × V) (x : Nat × Value), ps[j]? = some p → xs[j]? = some x → x.1 = p.1 ∧ RepV w μ h p.2 x.2) → RowRep w μ h ls cs → vfill fl ls ps = some out →
      ∃ cs', Instr.fill place cs xs = some cs' ∧ RowRep w μ h out cs'
  | [], [], ls, cs, out, _, _, hr, ho => by cases ho; exact ⟨cs, rfl, hr⟩
  | (k, v) :: ps, (k', x) :: xs, ls, cs, out, hl, hp, hr, ho => by
    obtain ⟨e, hx⟩ := hp 0 _ _ rfl rfl
    simp only at e hx
    subst e
    unfold vfill at ho
    split at ho
    · rename_i F vs hF hv
      split at ho
      · rename_i hc
        obtain ⟨hk, h1, h2⟩ := hc
        obtain ⟨e1, e2, e3⟩ := hx.cells' hv hk
        have hsz : F.1 + x.cells.size ≤ cs.size := by rw [← hr.1]; omega
        have hfold := setFold F.1 x.cells.toList 0 cs (by simpa using hsz)
        simp only [Array.length_toList, Nat.add_zero] at hfold
        have hrow : RowRep w μ h (splice ls F.1 vs) ((x.cells.toList.zipIdx 0).foldl (fun (cs : Array Value) (x : Value × Nat) => cs.setIfInBounds (F.1 + x.2) x.1) cs) := by
          refine ⟨by rw [splice_length _ _ _ h2, hfold.1, hr.1], ?_, ?_⟩
          · intro u hu
            obtain ⟨j, hj, rfl⟩ := Array.getElem_of_mem hu
            have := hfold.2 j
            rw [Array.getElem?_eq_getElem hj] at this
            split at this
            · exact e2 _ (by have := (List.mem_of_getElem? this.symm); simpa using this)
            · exact hr.2.1 _ (Array.mem_of_getElem? this.symm)
          · intro j l u hj hu
            rw [splice_get _ _ _ h2] at hj
            rw [hfold.2 j, ← e1] at hu
            split at hj
            · rename_i hc; rw [if_pos hc] at hu; exact e3 _ _ _ hj (by simpa using hu)
            · rename_i hc; rw [if_neg hc] at hu; exact hr.2.2 _ _ _ hj hu
        obtain ⟨cs', hf, hr'⟩ := vfill_sound place fl hpl ps xs _ _ out (by simpa using hl) (fun j p x a b => hp (j + 1) p x (by simpa using a) (by simpa using b)) hrow ho
        refine ⟨cs', ?_, hr'⟩
        unfold Instr.fill
        rw [hpl _ _ hF]
        simp only
        rw [if_neg (by simp; omega)]
        have : Array.foldl (fun (cs : Array Value) (x : Value × Nat) => cs.setIfInBounds (F.1 + x.2) x.1) cs x.cells.zipIdx = (x.cells.toList.zipIdx 0).foldl (fun (cs : Array Value) (x : Value × Nat) => cs.setIfInBounds (F.1 + x.2) x.1) cs := by
          rw [← Array.foldl_toList]; congr 1; simp
        rw [← hf, ← this]
      · cases ho
    · cases ho
  | [], _ :: _, _, _, _, hl, _, _, _ => by cases hl
  | _ :: _, [], _, _, _, hl, _, _, _ => by cases hl

theorem flds_places : ∀ {fs : List Field} {fl : List (Nat × Nat × Bool)}, fldsOf P fs = some fl → fs.mapM (fun f => (P.info? f.type).map fun i => (f.offset, i.size)) = some (fl.map fun F => (F.1, F.2.1))
  | [], fl, hf => by cases hf; rfl
  | f :: r, fl, hf => by
    unfold fldsOf at hf
    split at hf
    · rename_i y ys hy hys
      cases hf
      obtain ⟨I, d, h1, h2, rfl⟩ := fld_spec hy
      simp [List.mapM_cons, h1, flds_places hys]
    · cases hf

theorem vbuild_sound {t : TypeId} {i : TI} (ht : ti P t = some i) {ps : List (Nat × V)} {xs : List (Nat × Value)} {v : V} (hl : ps.length = xs.length)
    (hp : ∀ (j : Nat) (p : Nat × V) (x : Nat × Value), ps[j]? = some p → xs[j]? = some x → x.1 = p.1 ∧ RepV w μ h p.2 x.2) (hv : vbuild i ps = some v) :
    ∃ x, (Instr.build t xs.toArray).run P w = .ok x w ∧ RepV w μ h v x := by
  obtain ⟨I, d, h1, h2, h3, h4, h5, h6, h7, h8, _⟩ := ti_spec ht
  unfold vbuild at hv
  split at hv
  · rename_i z hk hz
    obtain ⟨fs, rfl⟩ := kd_struct (h7 ▸ hk)
    have hfl := h8 fs rfl
    cases hout : vfill i.flds z ps with
    | none => simp [hout] at hv
    | some out =>
      simp [hout] at hv
      subst hv
      rw [hz] at h6
      cases hI : I.zero with
      | none => simp [hI] at h6
      | some zx =>
        have hzx : absV zx = some (.agg z) := by simpa [hI] using h6.symm
        have hr : RepV w μ h (.agg z) zx := absV_rep hzx
        cases hr with
        | @agg _ cs hr1 hr2 hr3 =>
          obtain ⟨cs', hf, hr'⟩ := vfill_sound (w := w) (μ := μ) (h := h) (fun k => (i.flds.map fun F => (F.1, F.2.1))[k]?) i.flds (fun k F hF => by rw [List.getElem?_map, hF]; rfl) ps xs z cs out hl hp ⟨hr1, hr3, hr2⟩ hout
          refine ⟨.agg cs', ?_, .agg hr'.1 hr'.2.2 hr'.2.1⟩
          apply run_build
          unfold Program.built
          simp only [h1, h2, hI, flds_places hfl]
          rw [← hf]
          simp [Value.cells]
  · cases hv

theorem str_eq (x y : ByteArray) : (x.toList == y.toList) = decide (x = y) := by
  rw [Bool.eq_iff_iff, beq_iff_eq, decide_eq_true_iff, ByteArray.toList_eq, ByteArray.toList_eq]
  exact ⟨fun h => ByteArray.ext (Array.toList_inj.mp h), fun h => by rw [h]⟩

theorem kd_bool {d : TypeDesc} (hk : descKd d = .bool) : d = .bool := by cases d <;> first | rfl | cases hk
theorem kd_ptr {d : TypeDesc} (hk : descKd d = .ptr) : ∃ e, d = .pointer e := by cases d <;> first | exact ⟨_, rfl⟩ | cases hk

theorem visNil_rep {l : L} {b : Bool} {x : Value} (hb : visNil h l = some b) (hx : RepL w μ h l x) :
    (b = true ∧ (x = .pointer none ∨ x = .nilFunc)) ∨ (b = false ∧ ((∃ ad, x = .pointer (some ad)) ∨ ∃ f cs, x = .func (.func f) #[] cs)) := by
  cases hx with
  | d hd => cases hd <;> first | (cases hb; exact .inl ⟨rfl, .inl rfl⟩) | cases hb
  | nils => cases hb
  | own => cases hb
  | ownNil => cases hb
  | ownOld => cases hb
  | ownDead => cases hb
  | ptr hid _ _ => simp only [visNil, hid] at hb; cases hb; exact .inr ⟨rfl, .inl ⟨_, rfl⟩⟩
  | ptrDead hid => simp only [visNil, hid] at hb; cases hb
  | ept hid _ _ _ => simp only [visNil, hid, if_true] at hb; cases hb; exact .inr ⟨rfl, .inl ⟨_, rfl⟩⟩
  | eptOld hid hv => simp only [visNil, hid] at hb; rw [if_neg (by omega)] at hb; cases hb
  | eptDead hid => simp only [visNil, hid] at hb; cases hb
  | ref => cases hb; exact .inr ⟨rfl, .inl ⟨_, rfl⟩⟩
  | fn => cases hb; exact .inr ⟨rfl, .inr ⟨_, _, rfl⟩⟩
  | nilf => cases hb; exact .inl ⟨rfl, .inr rfl⟩
  | any => cases hb

theorem repD_nilp {M : Nat → Prop} {v : Value} (hd : RepD w M .nilp v) : v = .pointer none := by cases hd; rfl

theorem vint_sound {op : BinOp} {k : IntKind} {a b : Int} {d : D} (hd : vint op k a b = some d) (t : TypeId) : ∃ z, (binOp op t (.int k a) (.int k b)).run P w = .ok z w ∧ RepV w μ h (.one (.d d)) z := by
  cases op <;> first | (cases hd; done) | skip
  · cases hd; exact ⟨_, by rw [binOp_add]; rfl, .one rfl (.d (.int _ _))⟩
  · cases hd; exact ⟨_, by rw [binOp_sub]; rfl, .one rfl (.d (.int _ _))⟩
  · cases hd; exact ⟨_, by rw [binOp_mul]; rfl, .one rfl (.d (.int _ _))⟩
  · cases hd; exact ⟨_, by rw [binOp_eql]; rfl, .one rfl (.d (.bool _))⟩
  · cases hd; exact ⟨_, by rw [binOp_neq]; rfl, .one rfl (.d (.bool _))⟩
  · cases hd; exact ⟨_, by rw [binOp_lss]; rfl, .one rfl (.d (.bool _))⟩
  · cases hd; exact ⟨_, by rw [binOp_leq]; rfl, .one rfl (.d (.bool _))⟩
  · cases hd; exact ⟨_, by rw [binOp_gtr]; rfl, .one rfl (.d (.bool _))⟩
  · cases hd; exact ⟨_, by rw [binOp_geq]; rfl, .one rfl (.d (.bool _))⟩

theorem vstr_sound {op : BinOp} {a b : ByteArray} {d : D} (hd : vstr op a b = some d) (t : TypeId) : ∃ z, (binOp op t (.string a) (.string b)).run P w = .ok z w ∧ RepV w μ h (.one (.d d)) z := by
  cases op <;> first | (cases hd; done) | skip
  · simp only [vstr] at hd
    split at hd
    · rename_i hs; cases hd; exact ⟨_, by rw [binOp_string_add, run_string_add_sum w a b hs], .one rfl (.d (.str _))⟩
    · cases hd
  · cases hd; exact ⟨_, by rw [binOp_string_eql, str_eq]; rfl, .one rfl (.d (.bool _))⟩
  · cases hd; exact ⟨_, by rw [binOp_string_neq, str_eq]; rfl, .one rfl (.d (.bool _))⟩
  · cases hd; exact ⟨_, by rw [binOp_string_lss]; rfl, .one rfl (.d (.bool _))⟩

theorem guard_of {op : BinOp} {t : TypeId} {ox oy : Operand} {x y : Value} (hx : x ≠ .nilIface) (hx' : ∀ cs, x ≠ .agg cs) : eqGuard op t ox oy x y = pure () := by
  unfold eqGuard
  cases op <;> first | rfl | (cases x <;> first | rfl | exact absurd rfl hx | exact absurd rfl (hx' _))

theorem vbin_sound {t : TypeId} {i : TI} (ht : ti P t = some i) {op : BinOp} {u v : V} {x y : Value} {d : D} (hx : RepV w μ h u x) (hy : RepV w μ h v y) (hd : vbin h i.kd op u v = some d) (ox oy : Operand) :
    ∃ z, (do eqGuard op t ox oy x y; binOp op t x y : Sem Value).run P w = .ok z w ∧ RepV w μ h (.one (.d d)) z := by
  obtain ⟨I, dd, h1, h2, h3, h4, h5, h6, h7, _⟩ := ti_spec ht
  have go : ∀ {z : Value}, x ≠ .nilIface → (∀ cs, x ≠ .agg cs) → (binOp op t x y).run P w = .ok z w → (do eqGuard op t ox oy x y; binOp op t x y : Sem Value).run P w = .ok z w := by
    intro z a b c
    rw [guard_of a b]; exact c
  unfold vbin at hd
  split at hd
  · split at hd
    · rename_i k a k' b hk
      subst hk
      cases hx with | one _ hx => cases hx with | d hx => cases hx with
      | int =>
      cases hy with | one _ hy => cases hy with | d hy => cases hy with
      | int =>
      obtain ⟨z, hz, hr⟩ := vint_sound (P := P) (w := w) (μ := μ) (h := h) hd t
      exact ⟨z, go (by simp) (by simp) hz, hr⟩
    · cases hd
  · cases hx with | one _ hx => cases hx with | d hx => cases hx with
    | str =>
    cases hy with | one _ hy => cases hy with | d hy => cases hy with
    | str =>
    obtain ⟨z, hz, hr⟩ := vstr_sound (P := P) (w := w) (μ := μ) (h := h) hd t
    exact ⟨z, go (by simp) (by simp) hz, hr⟩
  · cases hx with | one _ hx => cases hx with | d hx => cases hx with
    | bool =>
    cases hy with | one _ hy => cases hy with | d hy => cases hy with
    | bool =>
    split at hd
    · rename_i hk
      have hu : P.underlying t = some .bool := by rw [h2]; rw [h7] at hk; rw [kd_bool hk]
      cases hd
      exact ⟨_, go (by simp) (by simp) (run_eql_bool w t _ _ hu), .one rfl (.d (.bool _))⟩
    · rename_i hk
      have hu : P.underlying t = some .bool := by rw [h2]; rw [h7] at hk; rw [kd_bool hk]
      cases hd
      exact ⟨_, go (by simp) (by simp) (by rw [run_neq_bool w t _ _ hu]; rfl), .one rfl (.d (.bool _))⟩
    · cases hd
  · rename_i l
    have hy' : y = .pointer none := by cases hy with | one _ hy => cases hy with | d hy => exact repD_nilp hy
    subst hy'
    have fin : ∀ b, visNilP h l = some b → ∃ p, x = .pointer p ∧ p.isNone = b := by
      intro b hb
      have hl : RepL w μ h l x := by cases hx with | one _ hx => exact hx | top => exact .any
      unfold visNilP at hb
      split at hb
      · cases hb
      · cases hb
      · rename_i hf hn
        rcases visNil_rep hb hl with ⟨rfl, rfl | rfl⟩ | ⟨rfl, ⟨ad, rfl⟩ | ⟨f, cs, rfl⟩⟩
        · exact ⟨_, rfl, rfl⟩
        · cases hl with
          | nilf => exact absurd rfl hn
          | d hd => cases hd
          | any => cases hb
          | _ => simp_all [visNil]
        · exact ⟨_, rfl, rfl⟩
        · cases hl with
          | fn => exact absurd rfl (hf _ _)
          | d hd => cases hd
          | any => cases hb
          | _ => simp_all [visNil]
    split at hd
    · rename_i b hk hb
      cases hd
      obtain ⟨p, rfl, hp⟩ := fin b hb
      rw [h7] at hk; obtain ⟨e, rfl⟩ := kd_ptr hk
      exact ⟨_, go (by simp) (by simp) (run_eql_pointer_nil w t p (by simp [Program.pointee, h2])), by rw [hp]; exact .one rfl (.d (.bool _))⟩
    · rename_i b hk hb
      cases hd
      obtain ⟨p, rfl, hp⟩ := fin b hb
      rw [h7] at hk; obtain ⟨e, rfl⟩ := kd_ptr hk
      exact ⟨_, go (by simp) (by simp) (run_neq_pointer_nil w t p (by simp [Program.pointee, h2])), by rw [hp]; exact .one rfl (.d (.bool _))⟩
    · cases hd
  · cases hd

end Go.Vt
