/- Own framework, part 19: code at the level of values. -/
import Derived.Test.YtladjgdhpfcmjaaGreatDoorVtFin
import Derived.Test.YtladjgdhpfcmjaaGreatDoorVtOrd5
namespace Go.Vt

structure VOp where
  dst : Option Tmp
  op : Op
  g : Option (Option Tmp × Bool)

inductive VBT where
  | leaf
  | ro (i : Nat) (o : VOp) (t : VBT)
  | alt (j : Nat) (o : VOp) (t r : VBT)
  | no

inductive VCode where
  | skip
  | ops (l : List VOp)
  | opsW (l : List (Nat × VOp)) (ob : List (Nat × List Nat))
  | both (x y : VCode)
  | opsB (t : VBT) (ob : List (Nat × List Nat))
  | opsK (t : VBT) (ob : List (Nat × List Nat))
  | seq (a b : VCode)
  | cond (c : Operand) (x y : VCode)
  | block (id : Nat) (c : VCode)
  | loop (c : VCode)
  | exit (id : Nat)
  | ret
  | bad
  | rangeF (g : Operand) (ps : List Tmp) (x y : VCode)

abbrev Orders := List (Nat × List (List Nat × List (Nat × List Nat)))

def cop (ops : List Oper) (o : Oper) : VOp := { dst := o.dst, op := o.op, g := match o.guard with | none => none | some (g, w) => some ((ops[g]?).bind (·.dst), w) }

def cbt (ops : List Oper) : BT → VBT
  | .leaf => .leaf
  | .ro i t => .ro i (cop ops (ops.getD i default)) (cbt ops t)
  | .alt j t r => .alt j (cop ops (ops.getD j default)) (cbt ops t) (cbt ops r)
  | .no => .no

def isK : List (List Nat × List (Nat × List Nat)) → Bool
  | ([], _) :: _ => true
  | _ => false

def compile (sg : Orders) : Code → VCode
  | .skip => .skip
  | .region id ops _ => match sg.lookup id with
    | none => .ops (ops.toList.map (cop ops.toList))
    | some l => if isK l then (match l.tail with
      | (σ, ob) :: r => .opsK (cbt ops.toList (mkBT ops.toList 1000 (((σ, ob) :: r).map (·.1)))) ob
      | [] => .bad) else match l with
    | [(σ, [])] => .ops (σ.map fun i => cop ops.toList (ops.toList.getD i default))
    | [(σ, ob)] => .opsW (σ.map fun i => (i, cop ops.toList (ops.toList.getD i default))) ob
    | [(σ, ob), (σ', ob')] => .both (.opsW (σ.map fun i => (i, cop ops.toList (ops.toList.getD i default))) ob) (.opsW (σ'.map fun i => (i, cop ops.toList (ops.toList.getD i default))) ob')
    | ((σ, ob) :: y :: z :: r) => .opsB (cbt ops.toList (mkBT ops.toList 1000 (((σ, ob) :: y :: z :: r).map (·.1)))) ob
    | _ => .bad
  | .seq a b => .seq (compile sg a) (compile sg b)
  | .cond c x y => .cond c (compile sg x) (compile sg y)
  | .block id c => .block id (compile sg c)
  | .loop c => .loop (compile sg c)
  | .rangeFunc g ps a b => .rangeF g ps.toList (compile sg a) (compile sg b)
  | .exit id => .exit id
  | .ret => .ret
  | _ => .bad

def obOf (ob : List (Nat × List Nat)) (i : Nat) : List Nat := (ob.lookup i).getD []

def codeOk (P : Program) (N : Nat) (sg : Orders) : Code → Bool
  | .region id ops draw => dOk N ops.toList && (match sg.lookup id with
    | none => !draw || drawOk P ops.toList (fun _ => []) (List.range ops.toList.length)
    | some l => if isK l then (match l.tail with
      | (σ, ob) :: r => draw && drawOkB P ops.toList (obOf ob) (mkBT ops.toList 1000 (((σ, ob) :: r).map (·.1)))
      | [] => false) else match l with
    | [(σ, ob)] => draw && drawOk P ops.toList (obOf ob) σ
    | [(σ, ob), (σ', ob')] => draw && drawOk2 P ops.toList (obOf ob) σ (obOf ob') σ'
    | ((σ, ob) :: y :: z :: r) => draw && drawOkB P ops.toList (obOf ob) (mkBT ops.toList 1000 (((σ, ob) :: y :: z :: r).map (·.1)))
    | _ => false)
  | .seq a b => codeOk P N sg a && codeOk P N sg b
  | .cond _ x y => codeOk P N sg x && codeOk P N sg y
  | .block _ c => codeOk P N sg c
  | .loop c => codeOk P N sg c
  | .rangeFunc _ _ _ _ => false
  | _ => true

inductive VX where
  | normal
  | exit (id : Nat)
  | ret

def VX.toExit : VX → Exit
  | .normal => .normal
  | .exit id => .exit id
  | .ret => .ret

def vstepO (P : Program) (T : Sl) (h : AHeap) (op : Op) (K : V → AHeap → Prop) : Prop := vstep P T h { dst := none, op, type := 0, pos := "", after := #[], guard := none } K

def vgoO (P : Program) (o : VOp) (T : Sl) (h : AHeap) (K : Sl → AHeap → Prop) : Prop := match o.g with
  | none => vstepO P T h o.op fun v h' => K (tput T o.dst v) h'
  | some (some d, want) => match gbool (T.lookup d) with
    | some b => (b = some want → vstepO P T h o.op fun v h' => K (tput T o.dst v) h') ∧ (b ≠ some want → K (tput T o.dst vundef) h)
    | none => False
  | some (none, _) => False

def vops (P : Program) : List VOp → Sl → AHeap → (Sl → AHeap → Prop) → Prop
  | [], T, h, K => K T h
  | o :: R, T, h, K => vgoO P o T h fun T' h' => vops P R T' h' K

def again (P : Program) (is : List Nat) (h : AHeap) : List (Nat × VOp × Sl × Sl) → Prop
  | [] => True
  | (i, o, T, T') :: W => (i ∈ is → vgoO P o T h fun T2 _ => T2 = T') ∧ again P is h W

def vopsW (P : Program) (ob : List (Nat × List Nat)) : List (Nat × VOp) → List (Nat × VOp × Sl × Sl) → Sl → AHeap → (Sl → AHeap → Prop) → Prop
  | [], _, T, h, K => K T h
  | (i, o) :: R, W, T, h, K => if ro o.op = true then vgoO P o T h fun T' h' => vopsW P ob R (if ob.any (fun x => x.2.contains i) then (i, o, T, T') :: W else W) T' h' K
    else vgoO P o T h fun T' h' => again P (obOf ob i) h' W ∧ vopsW P ob R W T' h' K

def vopsB (P : Program) (ob : List (Nat × List Nat)) : VBT → List (Nat × VOp × Sl × Sl) → Sl → AHeap → (Sl → AHeap → Prop) → Prop
  | .leaf, _, T, h, K => K T h
  | .no, _, _, _, _ => True
  | .ro i o t, W, T, h, K => vgoO P o T h fun T' h' => vopsB P ob t (if ob.any (fun x => x.2.contains i) then (i, o, T, T') :: W else W) T' h' K
  | .alt j o t r, W, T, h, K => (vgoO P o T h fun T' h' => again P (obOf ob j) h' W ∧ vopsB P ob t W T' h' K) ∧ vopsB P ob r W T h K

def vthen (next : Sl → AHeap → Prop) (K : VX → Sl → AHeap → Prop) : VX → Sl → AHeap → Prop
  | .normal => next
  | e => K e

def vblock (id : Nat) (K : VX → Sl → AHeap → Prop) : VX → Sl → AHeap → Prop
  | .exit id' => fun T h => if id' = id then K .normal T h else K (.exit id') T h
  | e => K e

def Sub (h : AHeap) (ids : List Nat) : Sl → Sl → Prop
  | [], _ => True
  | (i, v0) :: r, T => (match T.lookup i with | some v => ∃ v1, WkV v v1 ∧ lendR h ids v1 = some v0 | none => False) ∧ Sub h ids r T

def slotOwns (T : Sl) (h : AHeap) : List (Nat × Nat) → Option (Sl × AHeap)
  | [] => some (T, h)
  | (i, sz) :: r => match T.lookup i with
    | some (.one .nils) => slotOwns ((i, .one (.own h.length 0 0)) :: T) (h ++ [.arr false sz 0 []]) r
    | _ => none

theorem slotOwns_sound {w : World} {a : Act} : ∀ {gs : List (Nat × Nat)} {T T' : Sl} {h h' : AHeap} {μ : Pl}, HRep w μ h → SRep w μ h T a → slotOwns T h gs = some (T', h') → ∃ μ', HRep w μ' h' ∧ SRep w μ' h' T' a ∧ Good w μ h w μ' h'
  | [], _, _, _, _, μ, H, S, e => by cases e; exact ⟨μ, H, S, Good.refl _ _ _⟩
  | (i, sz) :: r, T, T', h, h', μ, H, S, e => by
    unfold slotOwns at e
    split at e
    · rename_i hl
      have H1 := H.pushNone sz
      have g1 := Good.pushNone w μ h sz
      have S1 : SRep w (μ.put h.length none) (h ++ [AObj.arr false sz 0 []]) ((i, .one (.own h.length 0 0)) :: T) a := by
        intro j v hj
        rw [List.lookup_cons] at hj
        split at hj
        · rename_i ej
          cases hj
          have : j = i := by simpa using ej
          subst this
          have hx := S _ _ hl
          generalize a.tmps.getD j undef = x at hx ⊢
          cases hx with
          | one ho hn => cases hn; exact .one ho (.ownNil (ty := none) (fz := false) (sz := sz) (xs := []) (by simp) (Pl.put_same _ _ _))
        · exact (S _ _ hj).good g1
      obtain ⟨μ2, H2, S2, g2⟩ := slotOwns_sound H1 S1 e
      exact ⟨μ2, H2, S2, g1.trans g2⟩
    · cases e

def Keep (n : Nat) (T : Sl) (h : AHeap) (T0 : Sl) (h0 : AHeap) : Prop :=
  ∃ (gs : List (Nat × Nat)) (bs : List (Nat × Nat × Nat)) (T1 : Sl) (hs hh h1 : AHeap) (ids : List Nat), slotOwns T h gs = some (T1, hs) ∧ nilOwns hs bs = some hh ∧ WkH hh h1 ∧ nodup ids = true ∧ ids.take n = List.range n ∧ handO h1 (idx ids) ids = some h0 ∧ Sub h1 ids T0 T1

def vcond (c : Option V) (x y : Prop) : Prop := match c with
  | some (.one (.d (.bool t))) => (t = true → x) ∧ (t = false → y)
  | _ => False

abbrev Rounds := List V → AHeap → (Option VX → AHeap → Prop) → Prop

inductive YOp where
  | mv (d : Tmp)
  | yl (args : List Operand)
  | no

def memT (x : Nat) : List Nat → Bool
  | [] => false
  | y :: r => Nat.beq x y || memT x r

def yop (o : VOp) (ys : List Tmp) : YOp := match o.g with
  | some _ => .no
  | none => match o.op, o.dst with
    | .move (.tmp i), some d => if memT i ys then .mv d else .no
    | .call c, _ => match c.callee with
      | .value (.tmp i) => if memT i ys then .yl c.args.toList else .no
      | _ => .no
    | _, _ => .no

def dropT (d : Option Tmp) : List Tmp → List Tmp
  | [] => []
  | y :: r => match d with
    | none => y :: r
    | some d => if Nat.beq y d then dropT (some d) r else y :: dropT (some d) r

abbrev KO := Sl → List Tmp → AHeap → Option VX → Prop
abbrev KY := VX → KO

def vgoY (P : Program) (Y : Rounds) (o : VOp) (T : Sl) (ys : List Tmp) (h : AHeap) (pd : Option VX) (K : KO) : Prop :=
  match yop o ys with
  | .mv d => K ((d, .one .any) :: T) (d :: ys) h pd
  | .yl args => pd = none ∧ ∃ vs, opds T args = some vs ∧ Y vs h fun pd' h' => K (tput T o.dst (.one (.d (.bool pd'.isNone)))) (dropT o.dst ys) h' pd'
  | .no => vgoO P o T h fun T' h' => K T' (dropT o.dst ys) h' pd

def vopsY (P : Program) (Y : Rounds) : List VOp → Sl → List Tmp → AHeap → Option VX → KO → Prop
  | [], T, ys, h, pd, K => K T ys h pd
  | o :: R, T, ys, h, pd, K => vgoY P Y o T ys h pd fun T' ys' h' pd' => vopsY P Y R T' ys' h' pd' K

def ythen (A : KO) (K : KY) : KY
  | .normal => A
  | .exit id => K (.exit id)
  | .ret => K .ret

def yblock (id : Nat) (K : KY) : KY
  | .normal => K .normal
  | .exit id' => if id' = id then K .normal else K (.exit id')
  | .ret => K .ret

def vwpY (P : Program) (n : Nat) (Y : Rounds) : VCode → KY → KO
  | .skip, K, T, ys, h, pd => K .normal T ys h pd
  | .ops l, K, T, ys, h, pd => vopsY P Y l T ys h pd (K .normal)
  | .seq a b, K, T, ys, h, pd => vwpY P n Y a (ythen (vwpY P n Y b K) K) T ys h pd
  | .cond c x y, K, T, ys, h, pd => vcond (opd T c) (vwpY P n Y x K T ys h pd) (vwpY P n Y y K T ys h pd)
  | .block id c, K, T, ys, h, pd => vwpY P n Y c (yblock id K) T ys h pd
  | .loop c, K, T, ys, h, pd => ∃ I : Nat → KO, (∃ k T0 h0, Keep n T h T0 h0 ∧ I k T0 ys h0 pd) ∧
      ∀ k T ys h pd, I k T ys h pd → vwpY P n Y c (ythen (fun T' ys' h' pd' => ∃ m T0 h0, m < k ∧ Keep n T' h' T0 h0 ∧ I m T0 ys' h0 pd') K) T ys h pd
  | .exit id, K, T, ys, h, pd => K (.exit id) T ys h pd
  | .ret, K, T, ys, h, pd => K .ret T ys h pd
  | _, _, _, _, _, _ => False

def VX.code : VX → Option Code
  | .normal => none
  | .exit id => some (.exit id)
  | .ret => some .ret

def codeY (N : Nat) : Code → Bool
  | .skip => true
  | .region _ ops draw => dOk N ops.toList && !draw
  | .seq a b => codeY N a && codeY N b
  | .cond _ x y => codeY N x && codeY N y
  | .block _ c => codeY N c
  | .loop c => codeY N c
  | .exit _ => true
  | .ret => true
  | _ => false

def ItOk (P : Program) (f : FuncId) (N : Nat) (it : VCode) : Prop := ∃ fn c, P.funcs[f]? = some fn ∧ fn.body = some c ∧ callable P f = true ∧ fn.ntmps = N ∧ codeY N c = true ∧ compile [] c = it ∧ fn.results = #[]

def zipT : List Tmp → List V → Sl → Sl
  | p :: ps, v :: vs, T => zipT ps vs ((p, v) :: T)
  | _, _, T => T

def vround (K : Option VX → AHeap → Prop) : VX → Sl → AHeap → Prop
  | .normal, _, h => K none h
  | e, _, h => K (some e) h

def vitend (K : VX → Sl → AHeap → Prop) (T : Sl) : KY
  | .exit _, _, _, _, _ => False
  | _, _, _, h, none => K .normal T h
  | _, _, _, h, some e => K e T h

def capT : Nat → List L → Sl
  | _, [] => []
  | k, l :: r => (k, .one l) :: capT (k + 1) r

def vwp (P : Program) (n : Nat) : VCode → (VX → Sl → AHeap → Prop) → Sl → AHeap → Prop
  | .skip, K, T, h => K .normal T h
  | .ops l, K, T, h => vops P l T h (K .normal)
  | .opsW l ob, K, T, h => vopsW P ob l [] T h (K .normal)
  | .both x y, K, T, h => vwp P n x K T h ∧ vwp P n y K T h
  | .opsB t ob, K, T, h => vopsB P ob t [] T h (K .normal)
  | .opsK t ob, K, T, h => vopsB P ob t [] T h (fun T' h' => ∃ T0 h0, Keep n T' h' T0 h0 ∧ K .normal T0 h0)
  | .seq a b, K, T, h => vwp P n a (vthen (vwp P n b K) K) T h
  | .cond c x y, K, T, h => vcond (opd T c) (vwp P n x K T h) (vwp P n y K T h)
  | .block id c, K, T, h => vwp P n c (vblock id K) T h
  | .loop c, K, T, h => ∃ I : Nat → Sl → AHeap → Prop, (∃ k T0 h0, Keep n T h T0 h0 ∧ I k T0 h0) ∧ ∀ k T h, I k T h → vwp P n c (vthen (fun T' h' => ∃ m T0 h0, m < k ∧ Keep n T' h' T0 h0 ∧ I m T0 h0) K) T h
  | .exit id, K, T, h => K (.exit id) T h
  | .ret, K, T, h => K .ret T h
  | .bad, _, _, _ => False
  | .rangeF g ps x y, K, T, h => ∃ f caps N it, opd T g = some (.one (.fn f caps)) ∧ caps.all (capOk h) = true ∧ ItOk P f N it ∧ caps.length < N ∧
      vwpY P h.length (fun vs h1 K' => vs.length = ps.length ∧ vwp P h1.length x (vthen (fun T' h' => vwp P h'.length y (vround K') T' h') (fun _ _ _ => False)) (zipT ps vs T) h1)
        it (vitend K T) ((0, .one .any) :: capT 1 caps) [0] h none

variable {P : Program} {w0 : World} {μ0 : Pl} {h0 : AHeap} {N : Nat} {df : List Deferred}

theorem vstepO_eq {T : Sl} {h : AHeap} {o : Oper} {K : V → AHeap → Prop} : vstepO P T h o.op K = vstep P T h o K := rfl

theorem vgoO_eq {ops : List Oper} {T : Sl} {h : AHeap} {o : Oper} {K : Sl → AHeap → Prop} (hv : vgoO P (cop ops o) T h K) : vgo P ops o T h K := by
  unfold vgoO cop at hv
  unfold vgo
  cases hg : o.guard with
  | none => simp only [hg] at hv; exact hv
  | some gw =>
    obtain ⟨g, want⟩ := gw
    simp only [hg] at hv ⊢
    unfold gval
    cases ho : ops[g]? with
    | none => simp [ho] at hv
    | some og =>
      simp only [ho, Option.bind_some] at hv ⊢
      cases hd : og.dst with
      | none => simp [hd] at hv
      | some d =>
        simp only [hd] at hv ⊢
        split at hv
        · rename_i b hb
          simp only [hb]
          exact hv
        · exact hv.elim

theorem vgoO_mono {o : VOp} {T : Sl} {h : AHeap} {K K' : Sl → AHeap → Prop} (hv : vgoO P o T h K) (hk : ∀ T h, K T h → K' T h) : vgoO P o T h K' := by
  unfold vgoO at *
  split at hv
  · exact vstep_mono hv fun _ _ => hk _ _
  · split at hv
    · exact ⟨fun e => vstep_mono (hv.1 e) fun _ _ => hk _ _, fun e => hk _ _ (hv.2 e)⟩
    · exact hv
  · exact hv

theorem vops_eq {ops : List Oper} : ∀ {R : List Oper} {T : Sl} {h : AHeap} {K : Sl → AHeap → Prop}, vops P (R.map (cop ops)) T h K → vrun P ops R T h K
  | [], _, _, _, hv => hv
  | _ :: _, _, _, _, hv => vgo_mono (vgoO_eq hv) fun _ _ hv => vops_eq hv

theorem vopsS_eq {ops : List Oper} : ∀ {σ : List Nat} {W : Watch} {T : Sl} {h : AHeap} {K : Sl → AHeap → Prop}, (∀ i ∈ σ, i < ops.length) → vops P (σ.map fun i => cop ops (ops.getD i default)) T h K → vrunS P ops (fun _ => []) σ W T h K
  | [], _, _, _, _, _, hv => hv
  | i :: σ, _, _, _, _, hl, hv => by
    have hi := hl i (by simp)
    rw [vrunS]
    have e : ops.getD i default = ops[i] := by simp [List.getD, hi]
    have hv' : vgoO P (cop ops (ops.getD i default)) _ _ _ := hv
    rw [e] at hv'
    simp only [List.getElem?_eq_getElem hi]
    split
    · exact vgo_mono (vgoO_eq hv') fun _ _ hv => vopsS_eq (fun i hi => hl i (by simp [hi])) hv
    · exact vgo_mono (vgoO_eq hv') fun _ _ hv => ⟨by simp, vopsS_eq (fun i hi => hl i (by simp [hi])) hv⟩

def WRel (P : Program) (ops : List Oper) (ob : List (Nat × List Nat)) (W : Watch) (W' : List (Nat × VOp × Sl × Sl)) : Prop :=
  ∀ x ∈ W, (∀ i, x.1 ∉ obOf ob i) ∨ ∃ o T T', (x.1, cop ops o, T, T') ∈ W' ∧ ∀ h, (vgo P ops o T h fun T2 _ => T2 = T') → x.2 h

theorem again_spec {is : List Nat} {h : AHeap} : ∀ {W : List (Nat × VOp × Sl × Sl)}, again P is h W → ∀ i o T T', (i, o, T, T') ∈ W → i ∈ is → vgoO P o T h fun T2 _ => T2 = T'
  | [], _, _, _, _, _, hm, _ => by cases hm
  | (i, o, T, T') :: W, ha, j, p, U, U', hm, hi => by
    simp only [List.mem_cons, Prod.mk.injEq] at hm
    rcases hm with ⟨rfl, rfl, rfl, rfl⟩ | hm
    · exact ha.1 hi
    · exact again_spec ha.2 j p U U' hm hi

theorem lookup_mem {α : Type} {j : Nat} {l : α} : ∀ {ob : List (Nat × α)}, ob.lookup j = some l → (j, l) ∈ ob
  | [], h => by cases h
  | (a, b) :: r, h => by
    rw [List.lookup_cons] at h
    split at h
    · rename_i hja
      cases h
      have : j = a := by simpa using hja
      subst this
      simp
    · exact List.mem_cons_of_mem _ (lookup_mem h)

theorem vopsW_eq {ops : List Oper} {ob : List (Nat × List Nat)} : ∀ {σ : List Nat} {W : Watch} {W' : List (Nat × VOp × Sl × Sl)} {T : Sl} {h : AHeap} {K : Sl → AHeap → Prop}, (∀ i ∈ σ, i < ops.length) → WRel P ops ob W W' →
    vopsW P ob (σ.map fun i => (i, cop ops (ops.getD i default))) W' T h K → vrunS P ops (obOf ob) σ W T h K
  | [], _, _, _, _, _, _, _, hv => hv
  | i :: σ, W, W', T, h, K, hl, hW, hv => by
    have hi := hl i (by simp)
    have e : ops.getD i default = ops[i] := by simp [List.getD, hi]
    rw [vrunS]
    simp only [List.map_cons, e] at hv
    rw [vopsW] at hv
    simp only [List.getElem?_eq_getElem hi]
    have hl' : ∀ j ∈ σ, j < ops.length := fun i hi => hl i (by simp [hi])
    split
    · rename_i hr
      rw [if_pos (show ro (cop ops ops[i]).op = true from hr)] at hv
      refine vgo_mono (vgoO_eq hv) fun T' h' hv => vopsW_eq hl' ?_ hv
      intro x hx
      rcases List.mem_cons.1 hx with rfl | hx
      · by_cases hany : (ob.any fun x => x.2.contains i) = true
        · refine .inr ⟨ops[i], T, T', ?_, fun h hv => hv⟩
          rw [if_pos hany]; simp
        · refine .inl fun j hj => hany ?_
          unfold obOf at hj
          cases hlk : ob.lookup j with
          | none => rw [hlk] at hj; cases hj
          | some l =>
            rw [hlk] at hj
            have := lookup_mem hlk
            exact List.any_eq_true.2 ⟨_, this, by simpa using hj⟩
      · rcases hW x hx with hn | ⟨o, T1, T2, hm, hp⟩
        · exact .inl hn
        · refine .inr ⟨o, T1, T2, ?_, hp⟩
          split
          · exact List.mem_cons_of_mem _ hm
          · exact hm
    · rename_i hr
      rw [if_neg (show ¬ ro (cop ops ops[i]).op = true from hr)] at hv
      refine vgo_mono (vgoO_eq hv) fun T' h' hv => ⟨fun x hx hm => ?_, vopsW_eq hl' hW hv.2⟩
      rcases hW x hx with hn | ⟨o, T1, T2, hm', hp⟩
      · exact absurd hm (hn i)
      · exact hp _ (vgoO_eq (again_spec hv.1 _ _ _ _ hm' hm))

theorem vopsB_eq {ops : List Oper} {ob : List (Nat × List Nat)} {m : List Nat} : ∀ {t : BT} {top : Bool} {U : List Nat} {W : Watch} {W' : List (Nat × VOp × Sl × Sl)} {T : Sl} {h : AHeap} {K : Sl → AHeap → Prop}, okB P ops (obOf ob) m top U t = true → WRel P ops ob W W' →
    vopsB P ob (cbt ops t) W' T h K → vrunB P ops (obOf ob) t W T h K
  | .leaf, _, _, _, _, _, _, _, _, _, hv => hv
  | .no, _, _, _, _, _, _, _, _, _, _ => trivial
  | .ro i t, top, U, W, W', T, h, K, hok, hW, hv => by
    simp only [okB, Bool.and_eq_true] at hok
    obtain ⟨⟨⟨⟨h1, h2⟩, h3⟩, h4⟩, h5⟩ := hok
    have hi : i < ops.length := by
      unfold isRo at h3
      cases hx : ops[i]? with
      | none => rw [hx] at h3; cases h3
      | some x => exact (List.getElem?_eq_some_iff.1 hx).1
    have e : ops.getD i default = ops[i] := by simp [List.getD, hi]
    rw [vrunB]
    simp only [cbt, e] at hv
    rw [vopsB] at hv
    simp only [List.getElem?_eq_getElem hi]
    refine vgo_mono (vgoO_eq hv) fun T' h' hv => vopsB_eq h5 ?_ hv
    intro x hx
    rcases List.mem_cons.1 hx with rfl | hx
    · by_cases hany : (ob.any fun x => x.2.contains i) = true
      · refine .inr ⟨ops[i], T, T', ?_, fun h hv => hv⟩
        rw [if_pos hany]; simp
      · refine .inl fun j hj => hany ?_
        unfold obOf at hj
        cases hlk : ob.lookup j with
        | none => rw [hlk] at hj; cases hj
        | some l =>
          rw [hlk] at hj
          have := lookup_mem hlk
          exact List.any_eq_true.2 ⟨_, this, by simpa using hj⟩
    · rcases hW x hx with hn | ⟨o, T1, T2, hm, hp⟩
      · exact .inl hn
      · refine .inr ⟨o, T1, T2, ?_, hp⟩
        split
        · exact List.mem_cons_of_mem _ hm
        · exact hm
  | .alt j t r, top, U, W, W', T, h, K, hok, hW, hv => by
    simp only [okB, Bool.and_eq_true] at hok
    obtain ⟨⟨⟨⟨h1, h2⟩, h3⟩, h4⟩, h5⟩ := hok
    have hi : j < ops.length := by
      unfold isEf at h3
      cases hx : ops[j]? with
      | none => rw [hx] at h3; cases h3
      | some x => exact (List.getElem?_eq_some_iff.1 hx).1
    have e : ops.getD j default = ops[j] := by simp [List.getD, hi]
    rw [vrunB]
    simp only [cbt, e] at hv
    rw [vopsB] at hv
    refine ⟨?_, vopsB_eq h5 hW hv.2⟩
    simp only [List.getElem?_eq_getElem hi]
    refine vgo_mono (vgoO_eq hv.1) fun T' h' hv => ⟨fun x hx hm => ?_, vopsB_eq h4 hW hv.2⟩
    rcases hW x hx with hn | ⟨o, T1, T2, hm', hp⟩
    · exact absurd hm (hn j)
    · exact hp _ (vgoO_eq (again_spec hv.1 _ _ _ _ hm' hm))

theorem Sub.get {h : AHeap} {ids : List Nat} : ∀ {T0 T : Sl}, Sub h ids T0 T → ∀ i v0, T0.lookup i = some v0 → ∃ v v1, T.lookup i = some v ∧ WkV v v1 ∧ lendR h ids v1 = some v0
  | [], _, _, _, _, h => by cases h
  | (k, u) :: r, T, hs, i, v0, h => by
    rw [List.lookup_cons] at h
    split at h
    · rename_i e
      have : i = k := by simpa using e
      subst this
      cases h
      have h1 := hs.1
      split at h1
      · rename_i v hv; obtain ⟨v1, a, b⟩ := h1; exact ⟨v, v1, hv, a, b⟩
      · exact h1.elim
    · exact Sub.get hs.2 i v0 h

theorem St.same {T T' : Sl} {h : AHeap} {a : Act} {w : World} (s : St w0 μ0 h0 N df T h a w) (hs : ∀ i v, T'.lookup i = some v → T.lookup i = some v) : St w0 μ0 h0 N df T' h a w := by
  obtain ⟨μ, H, G, S, hN, hdf⟩ := s
  exact ⟨μ, H, G, fun i v hi => S i v (hs i v hi), hN, hdf⟩

theorem St.less {T T' : Sl} {h h1 : AHeap} {a : Act} {w : World} (s : St w0 μ0 h0 N df T h a w) (hk : Keep h0.length T h T' h1) : St w0 μ0 h0 N df T' h1 a w := by
  obtain ⟨μ, H, G, S, hN, hdf⟩ := s
  obtain ⟨gs, bs, T1, hs, hh, h2, ids, k0, k0', k1, k2, k3, k4, k5⟩ := hk
  obtain ⟨μ1, H1, S1, g1⟩ := slotOwns_sound H S k0
  obtain ⟨μ, H, g2⟩ := nilOwns_sound H1 k0'
  have S := S1.good g2
  have g0 := g1.trans g2
  have g : Good w μ hh w μ h2 := k1.good
  obtain ⟨μ', H', hr, G'⟩ := keep_sound (k1.hrep H) ((G.trans g0).trans g) k2 k3 k4
  refine ⟨μ', H', G', fun i v hi => ?_, hN, hdf⟩
  obtain ⟨v0, v1, a1, a2, a3⟩ := k5.get i v hi
  exact hr _ _ _ (a2.rep ((S i v0 a1).good g)) a3

theorem vgoY_mono {Y : Rounds} (hY : ∀ vs h (K K' : Option VX → AHeap → Prop), (∀ pd h, K pd h → K' pd h) → Y vs h K → Y vs h K') {o : VOp} {T : Sl} {ys : List Tmp} {h : AHeap} {pd : Option VX} {K K' : KO}
    (hk : ∀ T ys h pd, K T ys h pd → K' T ys h pd) (hv : vgoY P Y o T ys h pd K) : vgoY P Y o T ys h pd K' := by
  unfold vgoY at *
  split at hv
  · exact hk _ _ _ _ hv
  · obtain ⟨e, vs, h1, h2⟩ := hv
    exact ⟨e, vs, h1, hY _ _ _ _ (fun _ _ => hk _ _ _ _) h2⟩
  · exact vgoO_mono hv fun _ _ => hk _ _ _ _

theorem vopsY_mono {Y : Rounds} (hY : ∀ vs h (K K' : Option VX → AHeap → Prop), (∀ pd h, K pd h → K' pd h) → Y vs h K → Y vs h K') : ∀ {l : List VOp} {T : Sl} {ys : List Tmp} {h : AHeap} {pd : Option VX} {K K' : KO},
    (∀ T ys h pd, K T ys h pd → K' T ys h pd) → vopsY P Y l T ys h pd K → vopsY P Y l T ys h pd K'
  | [], _, _, _, _, _, _, hk, hv => hk _ _ _ _ hv
  | _ :: _, _, _, _, _, _, _, hk, hv => vgoY_mono hY (fun _ _ _ _ hv => vopsY_mono hY hk hv) hv

theorem vwpY_mono {n : Nat} {Y : Rounds} (hY : ∀ vs h (K K' : Option VX → AHeap → Prop), (∀ pd h, K pd h → K' pd h) → Y vs h K → Y vs h K') : ∀ {c : VCode} {K K' : KY} {T : Sl} {ys : List Tmp} {h : AHeap} {pd : Option VX},
    (∀ e T ys h pd, K e T ys h pd → K' e T ys h pd) → vwpY P n Y c K T ys h pd → vwpY P n Y c K' T ys h pd := by
  intro c
  induction c with
  | skip => intro K K' T ys h pd hk hv; exact hk _ _ _ _ _ hv
  | ops l => intro K K' T ys h pd hk hv; exact vopsY_mono hY (hk .normal) hv
  | seq a b iha ihb =>
    intro K K' T ys h pd hk hv
    refine iha (fun e T ys h pd hv => ?_) hv
    cases e with
    | normal => exact ihb hk hv
    | exit id => exact hk _ _ _ _ _ hv
    | ret => exact hk _ _ _ _ _ hv
  | cond c x y ihx ihy =>
    intro K K' T ys h pd hk hv
    have hv : vcond (opd T c) (vwpY P n Y x K T ys h pd) (vwpY P n Y y K T ys h pd) := hv
    show vcond (opd T c) (vwpY P n Y x K' T ys h pd) (vwpY P n Y y K' T ys h pd)
    unfold vcond at hv ⊢
    split at hv
    · exact ⟨fun e => ihx hk (hv.1 e), fun e => ihy hk (hv.2 e)⟩
    · exact hv
  | block id c ih =>
    intro K K' T ys h pd hk hv
    refine ih (fun e T ys h pd hv => ?_) hv
    cases e with
    | normal => exact hk _ _ _ _ _ hv
    | exit id' =>
      have hv : (if id' = id then K .normal else K (.exit id')) T ys h pd := hv
      show (if id' = id then K' .normal else K' (.exit id')) T ys h pd
      split
      · rename_i e; rw [if_pos e] at hv; exact hk _ _ _ _ _ hv
      · rename_i e; rw [if_neg e] at hv; exact hk _ _ _ _ _ hv
    | ret => exact hk _ _ _ _ _ hv
  | loop c ih =>
    intro K K' T ys h pd hk hv
    obtain ⟨I, h0, hr⟩ := hv
    refine ⟨I, h0, fun k T ys h pd hi => ih (fun e T ys h pd hv => ?_) (hr k T ys h pd hi)⟩
    cases e with
    | normal => exact hv
    | exit id => exact hk _ _ _ _ _ hv
    | ret => exact hk _ _ _ _ _ hv
  | exit id => intro K K' T ys h pd hk hv; exact hk _ _ _ _ _ hv
  | ret => intro K K' T ys h pd hk hv; exact hk _ _ _ _ _ hv
  | _ => intro K K' T ys h pd hk hv; exact hv

theorem vops_mono : ∀ {l : List VOp} {T : Sl} {h : AHeap} {K K' : Sl → AHeap → Prop}, (∀ T h, K T h → K' T h) → vops P l T h K → vops P l T h K'
  | [], _, _, _, _, hk, hv => hk _ _ hv
  | _ :: _, _, _, _, _, hk, hv => vgoO_mono hv fun _ _ hv => vops_mono hk hv

theorem vopsW_mono {ob : List (Nat × List Nat)} : ∀ {l : List (Nat × VOp)} {W : List (Nat × VOp × Sl × Sl)} {T : Sl} {h : AHeap} {K K' : Sl → AHeap → Prop}, (∀ T h, K T h → K' T h) → vopsW P ob l W T h K → vopsW P ob l W T h K'
  | [], _, _, _, _, _, hk, hv => hk _ _ hv
  | (i, o) :: _, _, _, _, _, _, hk, hv => by
    rw [vopsW] at hv ⊢
    split
    · rename_i hr; rw [if_pos hr] at hv; exact vgoO_mono hv fun _ _ hv => vopsW_mono hk hv
    · rename_i hr; rw [if_neg hr] at hv; exact vgoO_mono hv fun _ _ hv => ⟨hv.1, vopsW_mono hk hv.2⟩

theorem vopsB_mono {ob : List (Nat × List Nat)} : ∀ {t : VBT} {W : List (Nat × VOp × Sl × Sl)} {T : Sl} {h : AHeap} {K K' : Sl → AHeap → Prop}, (∀ T h, K T h → K' T h) → vopsB P ob t W T h K → vopsB P ob t W T h K'
  | .leaf, _, _, _, _, _, hk, hv => hk _ _ hv
  | .no, _, _, _, _, _, _, _ => trivial
  | .ro i o t, _, _, _, _, _, hk, hv => vgoO_mono (o := o) hv fun _ _ hv => vopsB_mono (t := t) hk hv
  | .alt j o t r, _, _, _, _, _, hk, hv => ⟨vgoO_mono (o := o) hv.1 fun _ _ hv => ⟨hv.1, vopsB_mono (t := t) hk hv.2⟩, vopsB_mono (t := r) hk hv.2⟩

theorem region_wp {r : Option Nat} {n id : Nat} {ops : Array Oper} {draw : Bool} {sg : Orders} {K : VX → Sl → AHeap → Prop} {Q : Exit → Act → World → Prop} {T : Sl} {h : AHeap} {a : Act} {w : World} (hm : P.follows .mixedOrders = true)
    (hok : codeOk P N sg (.region id ops draw) = true) (s : St w0 μ0 h0 N df T h a w) (hk : ∀ T' h' a' w', K .normal T' h' → St w0 μ0 h0 N df T' h' a' w' → Q .normal a' w')
    (hv : vwp P h0.length (compile sg (.region id ops draw)) K T h) : (Code.region id ops draw).wpIn (FW r) n P Q a w := by
  obtain ⟨ops⟩ := ops
  simp only [codeOk, Bool.and_eq_true] at hok
  obtain ⟨hd, hok⟩ := hok
  -- what is asked may lean on the slots' contents alone
  let K' : Sl → AHeap → Prop := fun T h => ∃ T0, SameT T0 T ∧ K .normal T0 h
  have hK : ∀ T T' h, SameT T T' → K' T h → K' T' h := fun T T' h hs ⟨T0, h1, h2⟩ => ⟨T0, fun i => (h1 i).trans (hs i), h2⟩
  have hk' : ∀ T' h' a' w', K' T' h' → St w0 μ0 h0 N df T' h' a' w' → Q .normal a' w' := fun T' h' a' w' ⟨T0, h1, h2⟩ s => hk _ _ _ _ h2 (s.same fun i v hi => (h1 i).symm.trans hi)
  have hKK : ∀ T h, K .normal T h → K' T h := fun T h hv => ⟨T, fun _ => rfl, hv⟩
  simp only [compile] at hv
  cases hsg : sg.lookup id with
  | none =>
    simp only [hsg] at hv hok
    cases draw with
    | false => exact wpIn_region_list (run_wp hk ops (fun o ho => dOk_spec hd ho) s (vops_eq hv))
    | true =>
      simp only [Bool.not_true, Bool.false_or] at hok
      refine region_draw_wp (ob := fun _ => []) hm hok hd hK hk' s ?_
      refine vopsS_eq (fun i hi => by simpa using hi) ?_
      have : (List.range ops.length).map (fun i => cop ops (ops.getD i default)) = ops.map (cop ops) := by
        apply List.ext_getElem
        · simp
        · intro i h1 h2
          have : i < ops.length := by simpa using h1
          simp [this]
      rw [this]
      exact vops_mono hKK hv
  | some x =>
    by_cases hx : isK x = true
    · simp only [hsg, hx, if_true] at hv hok
      split at hok
      · rename_i σ ob r e
        simp only [e] at hv
        simp only [Bool.and_eq_true] at hok
        obtain ⟨rfl, hok⟩ := hok
        have hok' := hok
        unfold drawOkB at hok'
        simp only [Bool.and_eq_true] at hok'
        let K2 : Sl → AHeap → Prop := fun T h => ∃ Tx, SameT Tx T ∧ ∃ T0 hh, Keep h0.length Tx h T0 hh ∧ K .normal T0 hh
        have hK2 : ∀ T T' h, SameT T T' → K2 T h → K2 T' h := fun T T' h hs ⟨Tx, h1, h2⟩ => ⟨Tx, fun i => (h1 i).trans (hs i), h2⟩
        have hk2 : ∀ T' h' a' w', K2 T' h' → St w0 μ0 h0 N df T' h' a' w' → Q .normal a' w' := fun T' h' a' w' ⟨Tx, h1, T0, hh, h2, h3⟩ s => hk _ _ _ _ h3 ((s.same fun i v hi => (h1 i).symm.trans hi).less h2)
        exact region_drawB_wp hm hok hd hK2 hk2 s (vopsB_eq hok'.2 (fun x hx => by cases hx) (vopsB_mono (fun T h hv => ⟨T, fun _ => rfl, hv⟩) hv))
      · cases hok
    have hx' : isK x = false := by simpa using hx
    simp only [hsg, hx', Bool.false_eq_true, if_false] at hv hok
    match x, hsg with
    | [(σ, ob)], hsg =>
      simp only [Bool.and_eq_true] at hv hok
      obtain ⟨rfl, hok⟩ := hok
      have hlt : ∀ i ∈ σ, i < ops.length := by
        have := hok
        simp only [drawOk, Bool.and_eq_true] at this
        intro i hi
        simpa using List.all_eq_true.1 this.1.1.1.2 i hi
      refine region_draw_wp hm hok hd hK hk' s ?_
      cases ob with
      | nil =>
        have e : obOf [] = fun _ => [] := by funext i; rfl
        rw [e]
        exact vopsS_eq hlt (vops_mono hKK hv)
      | cons y r => exact vopsW_eq hlt (fun x hx => by cases hx) (vopsW_mono hKK hv)
    | [(σ, ob), (σ', ob')], hsg =>
      simp only [Bool.and_eq_true] at hv hok
      obtain ⟨rfl, hok⟩ := hok
      have hb := hok
      unfold drawOk2 at hb
      split at hb
      · simp only [Bool.and_eq_true] at hb
        obtain ⟨⟨⟨⟨⟨⟨⟨⟨⟨_, _⟩, _⟩, b4⟩, b5⟩, _⟩, _⟩, _⟩, _⟩, _⟩ := hb
        have hlt : ∀ i ∈ σ, i < ops.length := fun i hi => ((base_mem b4 i).1 hi).1
        have hlt' : ∀ i ∈ σ', i < ops.length := fun i hi => ((base_mem b5 i).1 hi).1
        exact region_draw2_wp hm hok hd hK hk' s (vopsW_eq hlt (fun x hx => by cases hx) (vopsW_mono hKK hv.1)) (vopsW_eq hlt' (fun x hx => by cases hx) (vopsW_mono hKK hv.2))
      · cases hb
    | [], hsg => cases hok
    | (σ, ob) :: y :: z :: rest, hsg =>
      simp only [Bool.and_eq_true] at hv hok
      obtain ⟨rfl, hok⟩ := hok
      have hok' := hok
      unfold drawOkB at hok'
      simp only [Bool.and_eq_true] at hok'
      exact region_drawB_wp hm hok hd hK hk' s (vopsB_eq hok'.2 (fun x hx => by cases hx) (vopsB_mono hKK hv))

open Classical in
theorem vwp_sound {r : Option Nat} {n : Nat} {sg : Orders} (hm : P.follows .mixedOrders = true) : ∀ (c : Code) {K : VX → Sl → AHeap → Prop} {Q : Exit → Act → World → Prop} {T : Sl} {h : AHeap} {a : Act} {w : World}, codeOk P N sg c = true →
    (∀ e T' h' a' w', K e T' h' → St w0 μ0 h0 N df T' h' a' w' → Q e.toExit a' w') → St w0 μ0 h0 N df T h a w → vwp P h0.length (compile sg c) K T h → c.wpIn (FW r) n P Q a w := by
  intro c
  induction c with
  | skip => intro K Q T h a w _ hk s hv; exact wpIn_skip (hk .normal _ _ _ _ hv s)
  | region id ops draw => intro K Q T h a w hok hk s hv; exact region_wp hm hok s (hk .normal) hv
  | seq x y ihx ihy =>
    intro K Q T h a w hok hk s hv
    simp only [codeOk, Bool.and_eq_true] at hok
    refine wpIn_seq (ihx hok.1 ?_ s hv)
    intro e T' h' a' w' hv' s'
    cases e with
    | normal => exact ihy hok.2 hk s' hv'
    | exit id => exact hk (.exit id) _ _ _ _ hv' s'
    | ret => exact hk .ret _ _ _ _ hv' s'
  | cond o x y ihx ihy =>
    intro K Q T h a w hok hk s hv
    simp only [codeOk, Bool.and_eq_true] at hok
    have hv : vcond (opd T o) (vwp P h0.length (compile sg x) K T h) (vwp P h0.length (compile sg y) K T h) := hv
    unfold vcond at hv
    split at hv
    · rename_i t ht
      obtain ⟨μ, H, G, S, hN, hdf⟩ := s
      have hr := opd_rep S ht
      have he : a.eval o = .bool t := by
        revert hr
        generalize a.eval o = x
        intro hr
        cases hr with
        | one _ hl => cases hl with | d hd => cases hd; rfl
      refine wpIn_cond he ?_
      cases t with
      | true => exact ihx hok.1 hk ⟨μ, H, G, S, hN, hdf⟩ (hv.1 rfl)
      | false => exact ihy hok.2 hk ⟨μ, H, G, S, hN, hdf⟩ (hv.2 rfl)
    · exact hv.elim
  | block id c ih =>
    intro K Q T h a w hok hk s hv
    refine wpIn_block (ih hok ?_ s hv)
    intro e T' h' a' w' hv' s'
    cases e with
    | normal => exact hk .normal _ _ _ _ hv' s'
    | exit id' =>
      show (if id' = id then Q .normal a' w' else Q (.exit id') a' w')
      have hv' : if id' = id then K .normal T' h' else K (.exit id') T' h' := hv'
      split
      · rename_i e; rw [if_pos e] at hv'; exact hk .normal _ _ _ _ hv' s'
      · rename_i e; rw [if_neg e] at hv'; exact hk (.exit id') _ _ _ _ hv' s'
    | ret => exact hk .ret _ _ _ _ hv' s'
  | loop c ih =>
    intro K Q T h a w hok hk s hv
    obtain ⟨I, ⟨n0, T0, hh0, hs0, hI0⟩, hround⟩ := hv
    let at_ : Act → World → Nat → Prop := fun a w m => ∃ T h, I m T h ∧ St w0 μ0 h0 N df T h a w
    have hmin : ∀ (p : Nat → Prop), (∃ m, p m) → ∃ m, p m ∧ ∀ k, p k → m ≤ k := by
      intro p ⟨m, hm⟩
      induction m using Nat.strongRecOn with
      | _ m ih =>
        by_cases hex : ∃ k, p k ∧ k < m
        · obtain ⟨k, hk, hlt⟩ := hex; exact ih k hlt hk
        · exact ⟨m, hm, fun k hk => Nat.le_of_not_lt fun hlt => hex ⟨k, hk, hlt⟩⟩
    let meas : Act → World → Nat := fun a w => if hx : ∃ m, at_ a w m then (hmin _ hx).choose else 0
    refine wpIn_loop (fun a w => ∃ m, at_ a w m) meas ⟨n0, T0, hh0, hI0, s.less hs0⟩ ?_
    intro a w hx
    have hspec := (hmin _ hx).choose_spec
    have hme : meas a w = (hmin _ hx).choose := dif_pos hx
    rw [← hme] at hspec
    obtain ⟨⟨T1, h1, hI1, s1⟩, _⟩ := hspec
    refine ih hok ?_ s1 (hround _ _ _ hI1)
    intro e T' h' a' w' hv' s'
    cases e with
    | normal =>
      obtain ⟨m, T0, hh1, hlt, hsub, hI⟩ := hv'
      have hx' : ∃ m, at_ a' w' m := ⟨m, T0, hh1, hI, s'.less hsub⟩
      refine ⟨hx', ?_⟩
      have hspec' := (hmin _ hx').choose_spec
      have hme' : meas a' w' = (hmin _ hx').choose := dif_pos hx'
      rw [hme']
      exact Nat.lt_of_le_of_lt (hspec'.2 m ⟨T0, hh1, hI, s'.less hsub⟩) hlt
    | exit id => exact hk (.exit id) _ _ _ _ hv' s'
    | ret => exact hk .ret _ _ _ _ hv' s'
  | exit id => intro K Q T h a w _ hk s hv; exact wpIn_exit (hk (.exit id) _ _ _ _ hv s)
  | ret => intro K Q T h a w _ hk s hv; exact wpIn_ret (hk .ret _ _ _ _ hv s)
  | rangeFunc => intro K Q T h a w hok; cases hok
  | scope => intro K Q T h a w _ _ _ hv; exact hv.elim
  | label => intro K Q T h a w _ _ _ hv; exact hv.elim
  | goto => intro K Q T h a w _ _ _ hv; exact hv.elim
  | refuse => intro K Q T h a w _ _ _ hv; exact hv.elim

end Go.Vt
