/- Own framework, part 22: the walk's rewrite rules. What stands behind an operation is handed on as an instance, so that no rewriting looks into it before its time. -/
import Derived.Test.YtladjgdhpfcmjaaGreatDoorVtSeat
namespace Go.Vt

theorem vwp_mono {P : Program} : ∀ {c : VCode} {n : Nat} {Q Q' : VX → Sl → AHeap → Prop} {T : Sl} {h : AHeap}, (∀ e T h, Q e T h → Q' e T h) → vwp P n c Q T h → vwp P n c Q' T h
  | .skip, _, _, _, _, _, hq, hv => hq _ _ _ hv
  | .ops _, _, _, _, _, _, hq, hv => vops_mono (fun _ _ => hq _ _ _) hv
  | .opsW _ _, _, _, _, _, _, hq, hv => vopsW_mono (fun _ _ => hq _ _ _) hv
  | .both a b, _, _, _, _, _, hq, hv => ⟨vwp_mono (c := a) hq hv.1, vwp_mono (c := b) hq hv.2⟩
  | .opsB t _, _, _, _, _, _, hq, hv => vopsB_mono (t := t) (fun _ _ => hq _ _ _) hv
  | .opsK t _, _, _, _, _, _, hq, hv => vopsB_mono (t := t) (fun _ _ ⟨T0, h0, k, hv⟩ => ⟨T0, h0, k, hq _ _ _ hv⟩) hv
  | .seq a b, _, Q, Q', _, _, hq, hv => vwp_mono (c := a) (fun e T h hv => by
      cases e with
      | normal => exact vwp_mono (c := b) hq hv
      | exit id => exact hq _ _ _ hv
      | ret => exact hq _ _ _ hv) hv
  | .cond c x y, n, Q, Q', T, h, hq, hv => by
    have hv : vcond (opd T c) (vwp P n x Q T h) (vwp P n y Q T h) := hv
    show vcond (opd T c) (vwp P n x Q' T h) (vwp P n y Q' T h)
    unfold vcond at hv ⊢
    split at hv
    · exact ⟨fun e => vwp_mono hq (hv.1 e), fun e => vwp_mono hq (hv.2 e)⟩
    · exact hv
  | .block id c, _, Q, Q', _, _, hq, hv => vwp_mono (c := c) (fun e T h hv => by
      cases e with
      | normal => exact hq _ _ _ hv
      | exit id' =>
        have hv : if id' = id then Q .normal T h else Q (.exit id') T h := hv
        show if id' = id then Q' .normal T h else Q' (.exit id') T h
        split at hv
        · rename_i e; rw [if_pos e]; exact hq _ _ _ hv
        · rename_i e; rw [if_neg e]; exact hq _ _ _ hv
      | ret => exact hq _ _ _ hv) hv
  | .loop c, _, Q, Q', _, _, hq, hv => by
    obtain ⟨I, h0, hr⟩ := hv
    refine ⟨I, h0, fun k T h hi => vwp_mono (c := c) (fun e T h hv => ?_) (hr k T h hi)⟩
    cases e with
    | normal => exact hv
    | exit id => exact hq _ _ _ hv
    | ret => exact hq _ _ _ hv
  | .exit _, _, _, _, _, _, hq, hv => hq _ _ _ hv
  | .ret, _, _, _, _, _, hq, hv => hq _ _ _ hv
  | .bad, _, _, _, _, _, _, hv => hv
  | .rangeF g ps x y, _, Q, Q', T, _, hq, hv => by
    obtain ⟨f, caps, N, it, h1, h2, h3, h4, hv⟩ := hv
    refine ⟨f, caps, N, it, h1, h2, h3, h4, vwpY_mono (fun vs h K K' hk hv => ⟨hv.1, vwp_mono (c := x) (fun e T h hv => ?_) hv.2⟩) (fun e T ys h pd hv => ?_) hv⟩
    · cases e with
      | exit id => exact hv
      | normal => cases pd <;> exact hq _ _ _ hv
      | ret => cases pd <;> exact hq _ _ _ hv
    · cases e with
      | normal =>
        refine vwp_mono (c := y) (fun e T h hv => ?_) hv
        cases e with
        | normal => exact hk _ _ hv
        | exit id => exact hk _ _ hv
        | ret => exact hk _ _ hv
      | exit id => exact hv
      | ret => exact hv

class Kn (α : Type) where
  run : α → Prop

theorem kn_run {α : Type} {f : α → Prop} {a : α} : @Kn.run α ⟨f⟩ a = f a := rfl

def obI {α : Type} (x : Option α) [K : Kn α] : Prop := match x with
  | some a => K.run a
  | none => False

def vboolI (c : Bool) [X : Kn Unit] [Y : Kn Unit] : Prop := (c = true → X.run ()) ∧ (c = false → Y.run ())

def vifI (c : Bool) [X : Kn Unit] [Y : Kn Unit] : Prop := match c with
  | true => X.run ()
  | false => Y.run ()

def vDI (h : AHeap) (d : D) [K : Kn (V × AHeap)] : Prop := match d with
  | .bool c => @vboolI c ⟨fun _ => K.run (.one (.d (.bool true)), h)⟩ ⟨fun _ => K.run (.one (.d (.bool false)), h)⟩
  | d => K.run (.one (.d d), h)

def asB : Option V → Option Bool
  | some (.one (.d (.bool b))) => some b
  | _ => none

def asL : Option V → Option L
  | some (.one l) => some l
  | _ => none

def asI : Option V → Option (IntKind × Int)
  | some (.one (.d (.int k n))) => some (k, n)
  | _ => none

def asFn : Option V → Option (Nat × List L × List L)
  | some (.one (.fn f caps)) => some (f, [], caps)
  | some (.one (.fb f fst)) => some (f, fst, [])
  | _ => none

def vstepI (P : Program) (T : Sl) (h : AHeap) (op : Op) [K : Kn (V × AHeap)] : Prop := vstepO P T h op fun v h => K.run (v, h)
def vgoI (P : Program) (o : VOp) (T : Sl) (h : AHeap) [K : Kn (Sl × AHeap)] : Prop := vgoO P o T h fun T h => K.run (T, h)
def vopsI (P : Program) (l : List VOp) (T : Sl) (h : AHeap) [K : Kn (Sl × AHeap)] : Prop := vops P l T h fun T h => K.run (T, h)
def vopsWI (P : Program) (ob : List (Nat × List Nat)) (l : List (Nat × VOp)) (W : List (Nat × VOp × Sl × Sl)) (T : Sl) (h : AHeap) [K : Kn (Sl × AHeap)] : Prop := vopsW P ob l W T h fun T h => K.run (T, h)

def vopsBI (P : Program) (ob : List (Nat × List Nat)) (t : VBT) (W : List (Nat × VOp × Sl × Sl)) (T : Sl) (h : AHeap) [K : Kn (Sl × AHeap)] : Prop := vopsB P ob t W T h fun T h => K.run (T, h)
def vwpI (P : Program) (n : Nat) (c : VCode) (T : Sl) (h : AHeap) [K : Kn (VX × Sl × AHeap)] : Prop := vwp P n c (fun e T h => K.run (e, T, h)) T h
def vcallI (P : Program) (f : FuncId) (avs : List V) (h : AHeap) [K : Kn (V × AHeap)] : Prop := vcall P f avs h fun v h => K.run (v, h)
def vcondI (c : Option V) [X : Kn Unit] [Y : Kn Unit] : Prop := vcond c (X.run ()) (Y.run ())
def vnilI (h : AHeap) (l : L) [X : Kn Bool] : Prop := vnil h l fun b => X.run b
def vthenI (e : VX) (T : Sl) (h : AHeap) [N : Kn (Sl × AHeap)] [K : Kn (VX × Sl × AHeap)] : Prop := vthen (fun T h => N.run (T, h)) (fun e T h => K.run (e, T, h)) e T h
def vblockI (id : Nat) (e : VX) (T : Sl) (h : AHeap) [K : Kn (VX × Sl × AHeap)] : Prop := vblock id (fun e T h => K.run (e, T, h)) e T h
def vendI (P : Program) (n : Nat) (rs : List ResultVar) (e : VX) (T : Sl) (h : AHeap) [K : Kn (V × AHeap)] : Prop := vend P n rs (fun v h => K.run (v, h)) e T h

section
variable {P : Program} {n : Nat} {T : Sl} {h : AHeap} {K : Kn (V × AHeap)} {K2 : Kn (Sl × AHeap)} {KX : Kn (VX × Sl × AHeap)} {X Y : Kn Unit}

theorem ob_some {α : Type} {a : α} {K : Kn α} : @obI _ (some a) K = K.run a := rfl
theorem ob_none {α : Type} {K : Kn α} : @obI α none K = False := rfl
theorem vbool_eq {c : Bool} : @vboolI c X Y = ((c = true → X.run ()) ∧ (c = false → Y.run ())) := rfl
theorem vif_tt : @vifI true X Y = X.run () := rfl
theorem vif_ff : @vifI false X Y = Y.run () := rfl
theorem vD_bool {c : Bool} : @vDI h (.bool c) K = @vboolI c ⟨fun _ => K.run (.one (.d (.bool true)), h)⟩ ⟨fun _ => K.run (.one (.d (.bool false)), h)⟩ := rfl
theorem vD_int {k : IntKind} {n : Int} : @vDI h (.int k n) K = K.run (.one (.d (.int k n)), h) := rfl
theorem vD_str {s : ByteArray} : @vDI h (.str s) K = K.run (.one (.d (.str s)), h) := rfl
theorem vD_eq {d : D} : @vDI h d K = K.run (.one (.d d), h) := by cases d <;> first | rfl | (rename_i b; cases b <;> simp [vDI, vboolI])


theorem vwpI_eq {c : VCode} {Q : VX → Sl → AHeap → Prop} : vwp P n c Q T h = @vwpI P n c T h ⟨fun p => Q p.1 p.2.1 p.2.2⟩ := rfl
theorem wp_skip : @vwpI P n .skip T h KX = KX.run (.normal, T, h) := rfl
theorem wp_ops {l : List VOp} : @vwpI P n (.ops l) T h KX = @vopsI P l T h ⟨fun p => KX.run (.normal, p.1, p.2)⟩ := rfl
theorem wp_opsW {l : List (Nat × VOp)} {ob : List (Nat × List Nat)} : @vwpI P n (.opsW l ob) T h KX = @vopsWI P ob l [] T h ⟨fun p => KX.run (.normal, p.1, p.2)⟩ := rfl
theorem wp_both {a b : VCode} : @vwpI P n (.both a b) T h KX = (@vwpI P n a T h KX ∧ @vwpI P n b T h KX) := rfl
theorem wp_opsB {t : VBT} {ob : List (Nat × List Nat)} : @vwpI P n (.opsB t ob) T h KX = @vopsBI P ob t [] T h ⟨fun p => KX.run (.normal, p.1, p.2)⟩ := rfl
theorem wp_seq {a b : VCode} : @vwpI P n (.seq a b) T h KX = @vwpI P n a T h ⟨fun p => @vthenI p.1 p.2.1 p.2.2 ⟨fun q => @vwpI P n b q.1 q.2 KX⟩ KX⟩ := rfl
theorem wp_cond {c : Operand} {x y : VCode} : @vwpI P n (.cond c x y) T h KX = @vcondI (opd T c) ⟨fun _ => @vwpI P n x T h KX⟩ ⟨fun _ => @vwpI P n y T h KX⟩ := rfl
theorem wp_block {id : Nat} {c : VCode} : @vwpI P n (.block id c) T h KX = @vwpI P n c T h ⟨fun p => @vblockI id p.1 p.2.1 p.2.2 KX⟩ := rfl
theorem wp_exit {id : Nat} : @vwpI P n (.exit id) T h KX = KX.run (.exit id, T, h) := rfl
theorem wp_ret : @vwpI P n .ret T h KX = KX.run (.ret, T, h) := rfl
theorem th_normal : @vthenI .normal T h K2 KX = K2.run (T, h) := rfl
theorem th_exit {id : Nat} : @vthenI (.exit id) T h K2 KX = KX.run (.exit id, T, h) := rfl
theorem th_ret : @vthenI .ret T h K2 KX = KX.run (.ret, T, h) := rfl
theorem bl_normal {id : Nat} : @vblockI id .normal T h KX = KX.run (.normal, T, h) := rfl
theorem bl_ret {id : Nat} : @vblockI id .ret T h KX = KX.run (.ret, T, h) := rfl
theorem bl_exit {id id' : Nat} : @vblockI id (.exit id') T h KX = @vifI (id' == id) ⟨fun _ => KX.run (.normal, T, h)⟩ ⟨fun _ => KX.run (.exit id', T, h)⟩ := by
  show (if id' = id then _ else _) = _
  by_cases e : id' = id
  · simp [e, vifI]
  · have : (id' == id) = false := by simpa using e
    rw [this, if_neg e]
    rfl
theorem ops_nil : @vopsI P [] T h K2 = K2.run (T, h) := rfl
theorem ops_cons {o : VOp} {R : List VOp} : @vopsI P (o :: R) T h K2 = @vgoI P o T h ⟨fun p => @vopsI P R p.1 p.2 K2⟩ := rfl
theorem go_none {d : Option Tmp} {op : Op} : @vgoI P (VOp.mk d op none) T h K2 = @vstepI P T h op ⟨fun r => K2.run (tput T d r.1, r.2)⟩ := rfl
theorem go_some {d : Option Tmp} {op : Op} {g : Tmp} {w : Bool} : @vgoI P (VOp.mk d op (some (some g, w))) T h K2 = @obI _ (gbool (T.lookup g)) ⟨fun b => @vifI (b == some w) ⟨fun _ => @vstepI P T h op ⟨fun r => K2.run (tput T d r.1, r.2)⟩⟩ ⟨fun _ => K2.run (tput T d vundef, h)⟩⟩ := by
  unfold vgoI vgoO obI
  simp only
  rcases gbool (T.lookup g) with _ | b <;> first | rfl | skip
  by_cases e : b = some w
  · subst e; simp [vifI, vstepI]
  · have : (b == some w) = false := by simpa using e
    simp [this, e, vifI]
theorem gb_b {b : Bool} : gbool (some (.one (.d (.bool b)))) = some (some b) := rfl
theorem gb_u : gbool (some (.tup [])) = some none := rfl
theorem sb_tt : ((some true : Option Bool) == some true) = true := rfl
theorem sb_ff : ((some false : Option Bool) == some false) = true := rfl
theorem sb_tf : ((some true : Option Bool) == some false) = false := rfl
theorem sb_ft : ((some false : Option Bool) == some true) = false := rfl
theorem sb_nt : ((none : Option Bool) == some true) = false := rfl
theorem sb_nf : ((none : Option Bool) == some false) = false := rfl
theorem cond_tt : @vcondI (some (.one (.d (.bool true)))) X Y = X.run () := by simp [vcondI, vcond]
theorem cond_ff : @vcondI (some (.one (.d (.bool false)))) X Y = Y.run () := by simp [vcondI, vcond]
theorem put_some {d : Tmp} {v : V} : tput T (some d) v = (d, v) :: T := rfl
theorem put_none {v : V} : tput T none v = T := rfl
theorem opd_tmp {t : Tmp} : opd T (.tmp t) = T.lookup t := rfl
theorem opd_int {k : IntKind} {n : Int} : opd T (.const (.int k n)) = some (.one (.d (.int k n))) := rfl
theorem opd_bool {b : Bool} : opd T (.const (.bool b)) = some (.one (.d (.bool b))) := rfl
theorem opd_str {s : ByteArray} : opd T (.const (.string s)) = some (.one (.d (.str s))) := rfl
theorem opd_nils : opd T (.const (.slice none 0 0)) = some (.one .nils) := rfl
theorem opd_nilp : opd T (.const (.pointer none)) = some (.one (.d .nilp)) := rfl
theorem opd_nilf : opd T (.const .nilFunc) = some (.one .nilf) := rfl
theorem opd_func {f : FuncId} : opd T (.func f) = some (.one (.fn f [])) := rfl
theorem lk_cons {α : Type} {i k : Nat} {v : α} {r : List (Nat × α)} : List.lookup i ((k, v) :: r) = cond (i == k) (some v) (List.lookup i r) := by
  rw [List.lookup_cons]; cases i == k <;> rfl

theorem bq_tt : (true == true) = true := rfl
theorem bq_ff : (false == false) = true := rfl
theorem bq_tf : (true == false) = false := rfl
theorem bq_ft : (false == true) = false := rfl

def wadd (ob : List (Nat × List Nat)) (i : Nat) (o : VOp) (T T' : Sl) (W : List (Nat × VOp × Sl × Sl)) : List (Nat × VOp × Sl × Sl) := cond (ob.any fun x => x.2.contains i) ((i, o, T, T') :: W) W
theorem opsB_leaf {ob : List (Nat × List Nat)} {W : List (Nat × VOp × Sl × Sl)} : @vopsBI P ob .leaf W T h K2 = K2.run (T, h) := rfl
theorem opsB_no {ob : List (Nat × List Nat)} {W : List (Nat × VOp × Sl × Sl)} : @vopsBI P ob .no W T h K2 = True := rfl
theorem opsB_ro {ob : List (Nat × List Nat)} {i : Nat} {o : VOp} {t : VBT} {W : List (Nat × VOp × Sl × Sl)} : @vopsBI P ob (.ro i o t) W T h K2 = @vgoI P o T h ⟨fun p => @vopsBI P ob t (wadd ob i o T p.1 W) p.1 p.2 K2⟩ := by
  unfold vopsBI
  rw [vopsB]
  simp only [vgoI, wadd]
  cases (ob.any fun x => x.2.contains i) <;> rfl
theorem opsB_alt {ob : List (Nat × List Nat)} {j : Nat} {o : VOp} {t r : VBT} {W : List (Nat × VOp × Sl × Sl)} : @vopsBI P ob (.alt j o t r) W T h K2 = (@vgoI P o T h ⟨fun p => again P (obOf ob j) p.2 W ∧ @vopsBI P ob t W p.1 p.2 K2⟩ ∧ @vopsBI P ob r W T h K2) := rfl
theorem opsW_nil {ob : List (Nat × List Nat)} {W : List (Nat × VOp × Sl × Sl)} : @vopsWI P ob [] W T h K2 = K2.run (T, h) := rfl
theorem opsW_cons {ob : List (Nat × List Nat)} {i : Nat} {o : VOp} {R : List (Nat × VOp)} {W : List (Nat × VOp × Sl × Sl)} : @vopsWI P ob ((i, o) :: R) W T h K2 =
    @vifI (ro o.op) ⟨fun _ => @vgoI P o T h ⟨fun p => @vopsWI P ob R (wadd ob i o T p.1 W) p.1 p.2 K2⟩⟩ ⟨fun _ => @vgoI P o T h ⟨fun p => again P (obOf ob i) p.2 W ∧ @vopsWI P ob R W p.1 p.2 K2⟩⟩ := by
  unfold vopsWI
  rw [vopsW]
  cases ro o.op
  · rfl
  · simp only [if_true, vifI, vgoI, wadd]
    cases (ob.any fun x => x.2.contains i) <;> rfl
theorem again_nil {is : List Nat} : again P is h [] = True := rfl
theorem again_cons {is : List Nat} {i : Nat} {o : VOp} {T T' : Sl} {W : List (Nat × VOp × Sl × Sl)} : again P is h ((i, o, T, T') :: W) = (@vifI (is.contains i) ⟨fun _ => @vgoI P o T h ⟨fun p => p.1 = T'⟩⟩ ⟨fun _ => True⟩ ∧ again P is h W) := by
  show ((i ∈ is → _) ∧ _) = _
  cases hc : is.contains i
  · have : i ∉ is := by simpa using hc
    simp [this, vifI]
  · have : i ∈ is := by simpa using hc
    simp [this, vifI, vgoI]
theorem obOf_nil {i : Nat} : obOf [] i = [] := rfl
theorem obOf_cons {i k : Nat} {l : List Nat} {r : List (Nat × List Nat)} : obOf ((k, l) :: r) i = cond (i == k) l (obOf r i) := by
  unfold obOf
  rw [lk_cons]
  cases i == k <;> rfl


abbrev mkO (op : Op) : Oper := { dst := none, op, type := 0, pos := "", after := #[], guard := none }

theorem so_of {op : Op} {e : Option (V × AHeap)} (hv : vop P T h (mkO op) = e) (hm : vmem P T h (mkO op) = none) (ho : ∀ K, ¬ vother P T h (mkO op) K) : @vstepI P T h op K = @obI _ e K := by
  unfold vstepI vstepO vstep
  rw [hv, hm]
  cases e with
  | some r => rfl
  | none => exact eq_false (ho _)
theorem so_mem {op : Op} {e : Option (V × AHeap)} (hv : vop P T h (mkO op) = none) (hm : vmem P T h (mkO op) = e) (ho : ∀ K, ¬ vother P T h (mkO op) K) : @vstepI P T h op K = @obI _ e K := by
  unfold vstepI vstepO vstep
  rw [hv, hm]
  cases e with
  | some r => rfl
  | none => exact eq_false (ho _)

theorem so_move {x : Operand} : @vstepI P T h (.move x) K = @obI _ ((opd T x).map fun v => (v, h)) K :=
  so_of (by 
    simp only [vop]
    cases opd T x <;> rfl) rfl (by simp [vother])
theorem so_assign {x : Operand} : @vstepI P T h (.assign x) K = @obI _ ((opd T x).map fun v => (v, h)) K :=
  so_of (by 
    simp only [vop]
    cases opd T x <;> rfl) rfl (by simp [vother])
theorem so_pick {c x y : Operand} : @vstepI P T h (.pick c x y) K = @obI _ ((opd T c).bind fun b => (vpick b (opd T x) (opd T y)).map fun v => (v, h)) K :=
  so_of (by 
    simp only [vop]
    cases opd T c with
    | none => rfl
    | some b => simp only [Option.bind_some]; cases vpick b (opd T x) (opd T y) <;> rfl) rfl (by simp [vother])
theorem so_alloc {e : TypeId} {i : TI} (ht : ti P e = some i) : @vstepI P T h (.alloc e) K = @obI _ (i.zero.bind fun z => (vcells z).map fun ls => (.one (.ptr h.length 0), h ++ [bobj P e ls])) K :=
  so_of (by 
    simp only [vop, ht]
    cases i.zero with
    | none => rfl
    | some z => simp only [Option.bind_some]; cases vcells z <;> rfl) rfl (by simp [vother])
theorem so_box {e : TypeId} {x : Operand} : @vstepI P T h (.box e x) K = @obI _ ((opd T x).bind fun v => if known v = true then (vcells v).map fun ls => (.one (.ptr h.length 0), h ++ [bobj P e ls]) else none) K :=
  so_of (by 
    simp only [vop]
    cases opd T x with
    | none => rfl
    | some v => simp only [Option.bind_some]; split <;> first | rfl | (cases vcells v <;> rfl)) rfl (by simp [vother])
theorem so_build {t : TypeId} {ps : Array (Nat × Operand)} {i : TI} (ht : ti P t = some i) : @vstepI P T h (.build t ps) K = @obI _ ((opdPairs T ps.toList).bind fun vs => (vbuild i vs).map fun v => (v, h)) K :=
  so_of (by 
    simp only [vop, ht]
    cases opdPairs T ps.toList with
    | none => rfl
    | some vs => simp only [Option.bind_some]; cases vbuild i vs <;> rfl) rfl (by simp [vother])
theorem so_load {t : TypeId} {x : Operand} {i : TI} (ht : ti P t = some i) : @vstepI P T h (.load t x) K = @obI _ ((asL (opd T x)).bind fun l => (vload h i l).map fun v => (v, h)) K :=
  so_of (by 
    simp only [vop, ht]
    rcases opd T x with _ | ⟨l | _ | _⟩ <;> first | rfl | skip
    simp only [asL, Option.bind_some]
    cases vload h i l <;> rfl) rfl (by simp [vother])
theorem so_store {t : TypeId} {p x : Operand} {i : TI} (ht : ti P t = some i) : @vstepI P T h (.store t p x) K = @obI _ ((asL (opd T p)).bind fun l => (opd T x).bind fun v => if known v = true then (vstore h i l v).map fun h2 => (.one .any, h2) else none) K :=
  so_of (by 
    simp only [vop, ht]
    rcases opd T p with _ | ⟨l | _ | _⟩ <;> first | rfl | skip
    cases opd T x with
    | none => rfl
    | some v => simp only [asL, Option.bind_some]; split <;> first | rfl | (cases vstore h i l v <;> rfl)) rfl (by simp [vother])
theorem so_nilCheck {x : Operand} : @vstepI P T h (.nilCheck x) K = @obI _ ((asL (opd T x)).bind fun l => (visNil h l).bind fun b => cond b none (some (.one l, h))) K :=
  so_of (by 
    simp only [vop]
    rcases opd T x with _ | ⟨l | _ | _⟩ <;> first | rfl | skip
    simp only [asL, Option.bind_some]
    rcases visNil h l with _ | b <;> first | rfl | (cases b <;> rfl)) rfl (by simp [vother])
theorem so_not {t : TypeId} {x : Operand} : @vstepI P T h (.unOp .not t x) K = @obI _ ((asB (opd T x)).map fun b => (.one (.d (.bool (!b))), h)) K :=
  so_of (by 
    simp only [vop]
    rcases opd T x with _ | ⟨l | _ | _⟩ <;> first | rfl | skip
    rcases l with ⟨_ | _ | _ | _ | _⟩ | _ | _ | _ | _ | _ | _ | _ | _ <;> rfl) rfl (by simp [vother])
theorem so_neg {t : TypeId} {x : Operand} : @vstepI P T h (.unOp .neg t x) K = @obI _ ((asI (opd T x)).map fun q => (.one (.d (.int q.1 (q.1.wrap (0 - q.2)))), h)) K :=
  so_of (by 
    simp only [vop]
    rcases opd T x with _ | ⟨l | _ | _⟩ <;> first | rfl | skip
    rcases l with ⟨_ | _ | _ | _ | _⟩ | _ | _ | _ | _ | _ | _ | _ | _ <;> rfl) rfl (by simp [vother])
theorem so_makeFunc {f : FuncId} {caps : Array Operand} : @vstepI P T h (.makeFunc (.func f) #[] caps) K = @obI _ ((opds T caps.toList).bind fun vs => (vcaps vs).map fun ls => (.one (.fn f ls), h)) K :=
  so_of (by 
    simp only [vop]
    rw [if_pos (show (#[] : Array Operand).size = 0 from rfl)]
    cases opds T caps.toList with
    | none => rfl
    | some vs => simp only [Option.bind_some]; cases vcaps vs <;> rfl) rfl (by simp [vother])
theorem so_slice {t : TypeId} {x : Operand} {lo hi : Option Operand} {i : TI} (ht : ti P t = some i) : @vstepI P T h (.slice t x lo hi none) K = @obI _ ((opd T x).bind fun v => (opdO T lo).bind fun l => (opdO T hi).bind fun k => (vslice h i.kd i.el v l k).map fun v => (v, h)) K :=
  so_of (by 
    simp only [vop, ht]
    cases opd T x with
    | none => rfl
    | some v => cases opdO T lo with
      | none => rfl
      | some l => cases opdO T hi with
        | none => rfl
        | some k => simp only [Option.bind_some]; cases vslice h i.kd i.el v l k <;> rfl) rfl (by simp [vother])
theorem so_fieldAddr {t : TypeId} {x : Operand} {f : Nat} {i : TI} (ht : ti P t = some i) (hk : i.kd = .struct) : @vstepI P T h (.fieldAddr t x f) K = @obI _ ((asL (opd T x)).bind fun l => (i.flds[f]?).bind fun F => if F.2.1 = 0 then none else (vfieldAddr h F.1 l).map fun q => (.one q, h)) K :=
  so_of (by 
    simp only [vop, ht]
    rcases opd T x with _ | ⟨l | _ | _⟩ <;> first | rfl | skip
    simp only [hk, asL, Option.bind_some]
    rcases i.flds[f]? with _ | F <;> first | rfl | skip
    simp only [Option.bind_some]
    split <;> first | rfl | (cases vfieldAddr h F.1 l <;> rfl)) rfl (by simp [vother])
theorem so_field {t : TypeId} {x : Operand} {f : Nat} {i : TI} (ht : ti P t = some i) : @vstepI P T h (.field t x f) K = @obI _ ((opd T x).bind fun v => (vfield i f v).map fun v => (v, h)) K :=
  so_of (by 
    simp only [vop, ht]
    cases opd T x with
    | none => rfl
    | some v => simp only [Option.bind_some]; cases vfield i f v <;> rfl) rfl (by simp [vother])
theorem so_indexAddr {t : TypeId} {x ix : Operand} {i : TI} {e : EI} (ht : ti P t = some i) (he : i.el = some e) : @vstepI P T h (.indexAddr t x ix) K = @obI _ ((asL (opd T x)).bind fun l => (asI (opd T ix)).bind fun q => (vindexAddr h e.size q.2 l).map fun q => (.one q, h)) K :=
  so_of (by 
    simp only [vop, ht]
    rcases opd T x with _ | ⟨l | _ | _⟩ <;> first | rfl | skip
    rcases opd T ix with _ | ⟨m | _ | _⟩ <;> first | rfl | skip
    rcases m with ⟨_ | ⟨k, n⟩ | _ | _ | _⟩ | _ | _ | _ | _ | _ | _ | _ | _ <;> first | rfl | skip
    simp only [he, asL, asI, Option.bind_some]
    cases vindexAddr h e.size n l <;> rfl) rfl (by simp [vother])
theorem so_extract {x : Operand} {k : Nat} : @vstepI P T h (.extract x k) K = @obI _ ((opd T x).bind fun v => match v with | .tup vs => (vs[k]?).map fun v => (v, h) | _ => none) K :=
  so_of (by 
    simp only [vop]
    rcases opd T x with _ | ⟨_ | _ | vs⟩ <;> first | rfl | skip
    simp only [Option.bind_some]
    cases vs[k]? <;> rfl) rfl (by simp [vother])
theorem so_convI {s t : TypeId} {x : Operand} {i j : TI} {k : IntKind} (hs : ti P s = some i) (ht : ti P t = some j) (hk : j.kd = .int k) : @vstepI P T h (.convert s t x) K = @obI _ ((asI (opd T x)).map fun q => (.one (.d (.int k (k.wrap q.2))), h)) K :=
  so_of (by 
    simp only [vop, hs, ht]
    rcases opd T x with _ | ⟨m | _ | _⟩ <;> first | rfl | skip
    rcases m with ⟨_ | ⟨k, n⟩ | _ | _ | _⟩ | _ | _ | _ | _ | _ | _ | _ | _ <;> first | rfl | (simp [hk]; rfl) | simp [hk, asI]) rfl (by simp [vother])
theorem so_len {x : Operand} {t : TypeId} {i : TI} (ht : ti P t = some i) : @vstepI P T h (.call (Call.mk (.builtin .len) #[x] #[t])) K = @obI _ ((opd T x).bind fun v => (vlen h i.kd v).map fun n => (.one (.d (.int .i64 n)), h)) K :=
  so_of (by 
    simp only [vop, ht]
    cases opd T x with
    | none => rfl
    | some v => simp only [Option.bind_some]; cases vlen h i.kd v <;> rfl) rfl (by simp [vother])
theorem so_max {x y : Operand} {ts : Array TypeId} : @vstepI P T h (.call (Call.mk (.builtin .max) #[x, y] ts)) K = @obI _ ((asI (opd T x)).bind fun p => (asI (opd T y)).map fun q => (.one (.d (.int p.1 (if q.2 > p.2 then q.2 else p.2))), h)) K :=
  so_of (by 
    simp only [vop]
    rcases opd T x with _ | ⟨m | _ | _⟩ <;> first | rfl | skip
    rcases m with ⟨_ | ⟨k, n⟩ | _ | _ | _⟩ | _ | _ | _ | _ | _ | _ | _ | _ <;> first | rfl | skip
    rcases opd T y with _ | ⟨m | _ | _⟩ <;> first | rfl | skip
    rcases m with ⟨_ | ⟨k, n⟩ | _ | _ | _⟩ | _ | _ | _ | _ | _ | _ | _ | _ <;> rfl) rfl (by simp [vother])
theorem so_min {x y : Operand} {ts : Array TypeId} : @vstepI P T h (.call (Call.mk (.builtin .min) #[x, y] ts)) K = @obI _ ((asI (opd T x)).bind fun p => (asI (opd T y)).map fun q => (.one (.d (.int p.1 (if q.2 < p.2 then q.2 else p.2))), h)) K :=
  so_of (by 
    simp only [vop]
    rcases opd T x with _ | ⟨m | _ | _⟩ <;> first | rfl | skip
    rcases m with ⟨_ | ⟨k, n⟩ | _ | _ | _⟩ | _ | _ | _ | _ | _ | _ | _ | _ <;> first | rfl | skip
    rcases opd T y with _ | ⟨m | _ | _⟩ <;> first | rfl | skip
    rcases m with ⟨_ | ⟨k, n⟩ | _ | _ | _⟩ | _ | _ | _ | _ | _ | _ | _ | _ <;> rfl) rfl (by simp [vother])
theorem so_buildSlice {t : TypeId} {n : Nat} {ps : Array (Nat × Operand)} {i : TI} {e : EI} (ht : ti P t = some i) (he : i.el = some e) : @vstepI P T h (.buildSlice t n ps) K = @obI _ ((opdPairs T ps.toList).bind fun vs => if vs.length = n ∧ n * e.size ≤ 16777216 ∧ e.zero.isSome = true ∧ (vs.all fun p => known p.2) = true then vbr h n e.size vs (vrw h e.size vs) else none) K :=
  so_mem (by rfl) (by 
    simp only [vmem, ht]
    cases opdPairs T ps.toList with
    | none => rfl
    | some vs => simp only [he, Option.bind_some]; split <;> first | rfl | (cases vrw h e.size vs <;> rfl)) (by simp [vother])
theorem so_append {s x : Operand} {t : TypeId} {i : TI} {e : EI} (ht : ti P t = some i) (he : i.el = some e) : @vstepI P T h (.call (Call.mk (.builtin .append) #[s, x] #[t, t])) K = @obI _ ((asL (opd T s)).bind fun ls => (asL (opd T x)).bind fun lx => (vapp h e ls lx).map fun r => (.one r.1, r.2)) K :=
  so_mem (by rfl) (by 
    simp only [vmem, if_true, ht]
    rcases opd T s with _ | ⟨ls | _ | _⟩ <;> first | rfl | skip
    rcases opd T x with _ | ⟨lx | _ | _⟩ <;> first | rfl | skip
    simp only [he, asL, Option.bind_some]
    cases vapp h e ls lx <;> rfl) (by simp [vother])
theorem so_makeSlice {t : TypeId} {l c : Operand} {i : TI} {e : EI} (ht : ti P t = some i) (he : i.el = some e) : @vstepI P T h (.makeSlice t l c) K = @obI _ ((asI (opd T l)).bind fun p => (asI (opd T c)).bind fun q => if 0 ≤ p.2 ∧ q.2 = p.2 ∧ (e.bytes : Int) * p.2 ≤ 281474976710656 ∧ p.2 ≤ 281474976710656 then (zrows e p.2.toNat).map fun rows => (.one (.own h.length 0 p.2.toNat), h ++ [.arr false e.size 0 rows]) else none) K :=
  so_mem (by rfl) (by 
    simp only [vmem, ht]
    rcases opd T l with _ | ⟨m | _ | _⟩ <;> first | rfl | skip
    rcases m with ⟨_ | ⟨k, n⟩ | _ | _ | _⟩ | _ | _ | _ | _ | _ | _ | _ | _ <;> first | rfl | skip
    rcases opd T c with _ | ⟨m | _ | _⟩ <;> first | rfl | skip
    rcases m with ⟨_ | ⟨k, m⟩ | _ | _ | _⟩ | _ | _ | _ | _ | _ | _ | _ | _ <;> first | rfl | skip
    simp only [he, asI, Option.bind_some]
    split <;> first | rfl | (cases zrows e n.toNat <;> rfl)) (by simp [vother])

def vcopy (h : AHeap) (e : EI) (d : L) (ys : List (List D)) : Option (V × AHeap) := match d with
  | .own id ver len => match h[id]? with
    | some (.arr false sz ver' xs) => if ver' = ver ∧ sz = e.size ∧ allLen e.size ys = true ∧ e.size ≠ 0 then
        some (.one (.d (.int .i64 ((min ys.length len : Nat) : Int))), h.set id (.arr false sz ver (ys.take (min ys.length len) ++ xs.drop (min ys.length len)))) else none
    | _ => none
  | _ => none
theorem so_copy {s x : Operand} {t : TypeId} {i : TI} {e : EI} (ht : ti P t = some i) (he : i.el = some e) : @vstepI P T h (.call (Call.mk (.builtin .copy) #[s, x] #[t, t])) K = @obI _ ((asL (opd T s)).bind fun ls => (asL (opd T x)).bind fun lx => (vrowsOf h lx).bind fun ys => vcopy h e ls ys) K :=
  so_mem (by rfl) (by
    simp only [vmem, if_true, ht]
    rcases opd T s with _ | ⟨ls | _ | _⟩ <;> first | rfl | skip
    rcases opd T x with _ | ⟨lx | _ | _⟩ <;> first | (cases ls <;> rfl) | skip
    simp only [asL, Option.bind_some]
    cases ls <;> first | (cases vrowsOf h lx <;> rfl) | skip
    rename_i id ver len
    simp only [he]
    cases hr : vrowsOf h lx with
    | none =>
      simp only [Option.bind_none]
      rcases h[id]? with _ | ⟨_ | ⟨_ | _, fz, sz, ver', xs⟩ | _⟩ <;> first | rfl | (cases fz <;> rfl)
    | some ys =>
      simp only [Option.bind_some, vcopy]
      rcases h[id]? with _ | ⟨_ | ⟨_ | _, fz, sz, ver', xs⟩ | _⟩ <;> first | rfl | (cases fz <;> rfl)) (by simp [vother])
def escOf (P : Program) : Operand → Bool
  | .func f => noEsc P f
  | _ => false
theorem esc_tmp {t : Tmp} : escOf P (.tmp t) = false := rfl
theorem esc_func {f : FuncId} : escOf P (.func f) = noEsc P f := rfl
theorem so_call {f : Operand} {args : Array Operand} {ts : Array TypeId} (hn : escOf P f = false) : @vstepI P T h (.call (Call.mk (.value f) args ts)) K = @obI _ (asFn (opd T f)) ⟨fun q => @obI _ (opds T args.toList) ⟨fun vs => @vifI (q.2.1.all (capOk h) && q.2.2.all (capOk h)) ⟨fun _ => @vcallI P q.1 (q.2.1.map .one ++ (vs ++ q.2.2.map .one)) h K⟩ ⟨fun _ => False⟩⟩⟩ := by
  have hm : vmem P T h (mkO (.call (Call.mk (.value f) args ts))) = none := by
    cases f <;> first | rfl | (simp only [vmem]; simp only [escOf] at hn; rw [hn]; rfl)
  unfold vstepI vstepO vstep
  simp only [vop, hm, vother]
  rcases opd T f with _ | ⟨l | _ | _⟩ <;> first | rfl | skip
  cases l <;> first | rfl | skip
  all_goals rename_i f' caps
  · simp only [asFn, ob_some]
    rcases opds T args.toList with _ | vs <;> first | rfl | skip
    simp only [ob_some, List.all_nil, Bool.true_and, List.map_nil, List.nil_append]
    cases caps.all (capOk h) <;> simp [vifI, vcallI]
  · simp only [asFn, ob_some]
    rcases opds T args.toList with _ | vs <;> first | rfl | skip
    simp only [ob_some, List.all_nil, Bool.and_true, List.map_nil]
    cases caps.all (capOk h) <;> simp [vifI, vcallI]

def isNilC : Operand → Bool
  | .const (.slice none 0 0) => true
  | _ => false
theorem nilC_tmp {t : Tmp} : isNilC (.tmp t) = false := rfl
theorem nilC_int {k : IntKind} {n : Int} : isNilC (.const (.int k n)) = false := rfl
theorem nilC_bool {b : Bool} : isNilC (.const (.bool b)) = false := rfl
theorem nilC_str {b : ByteArray} : isNilC (.const (.string b)) = false := rfl
theorem nilC_nilp {p : Option Addr} : isNilC (.const (.pointer p)) = false := rfl
theorem so_bin {op : BinOp} {t yt : TypeId} {x y : Operand} {i : TI} (ht : ti P t = some i) (hy : isNilC y = false) : @vstepI P T h (.binOp op t x y yt) K = @obI _ ((opd T x).bind fun u => (opd T y).bind fun v => vbin2 P h t i.kd op u v) ⟨fun d => @vDI h d K⟩ := by
  have ho : ∀ K, ¬ vother P T h (mkO (.binOp op t x y yt)) K := by
    intro K
    unfold vother
    split
    · rename_i e; cases e
    · rename_i e; cases e; cases hy
    · exact id
  have ho' := fun K => eq_false (ho K)
  unfold vstepI vstepO vstep
  simp only [vop, vmem, ht]
  cases opd T x with
  | none => exact ho' _
  | some u => cases opd T y with
    | none => exact ho' _
    | some v =>
      simp only [Option.bind_some]
      cases vbin2 P h t i.kd op u v with
      | none => exact ho' _
      | some d => simp only [ob_some]; exact vD_eq.symm
theorem so_eqnil {t yt : TypeId} {x : Operand} {i : TI} (ht : ti P t = some i) (hk : i.kd = .slice) : @vstepI P T h (.binOp .eql t x (.const (.slice none 0 0)) yt) K = @obI _ (asL (opd T x)) ⟨fun l => @vnilI h l ⟨fun b => K.run (.one (.d (.bool b)), h)⟩⟩ := by
  obtain ⟨sz, by', ag, z, kd, fl, el⟩ := i
  simp only at hk
  subst hk
  unfold vstepI vstepO vstep
  have hb : ∀ u, vbin2 P h t .slice .eql u (.one .nils) = none := by
    intro u
    rcases u with ⟨⟨_ | _ | _ | _ | _⟩ | _ | _ | _ | _ | _ | _ | _ | _⟩ | _ | _ <;> rfl
  simp only [vop, vmem, vother, ht, opd_nils]
  cases opd T x with
  | none => rfl
  | some u =>
    simp only [hb]
    cases u <;> rfl
theorem so_nenil {t yt : TypeId} {x : Operand} {i : TI} (ht : ti P t = some i) (hk : i.kd = .slice) : @vstepI P T h (.binOp .neq t x (.const (.slice none 0 0)) yt) K = @obI _ (asL (opd T x)) ⟨fun l => @vnilI h l ⟨fun b => K.run (.one (.d (.bool (!b))), h)⟩⟩ := by
  obtain ⟨sz, by', ag, z, kd, fl, el⟩ := i
  simp only at hk
  subst hk
  unfold vstepI vstepO vstep
  have hb : ∀ u, vbin2 P h t .slice .neq u (.one .nils) = none := by
    intro u
    rcases u with ⟨⟨_ | _ | _ | _ | _⟩ | _ | _ | _ | _ | _ | _ | _ | _⟩ | _ | _ <;> rfl
  simp only [vop, vmem, vother, ht, opd_nils]
  cases opd T x with
  | none => rfl
  | some u =>
    simp only [hb]
    cases u <;> rfl
def arrVer (h : AHeap) (id : Nat) : Option Nat := match h[id]? with
  | some (.ar _ _ _ v _) => some v
  | _ => none
theorem nil_nils {X : Kn Bool} : @vnilI h .nils X = X.run true := rfl
theorem nil_d {xs : List (List D)} {X : Kn Bool} : @vnilI h (.d (.sl xs)) X = ((xs = [] → X.run true) ∧ X.run false) := by
  apply propext
  constructor
  · intro hv; exact ⟨fun e => hv true fun _ => e, hv false fun e => by cases e⟩
  · intro hv b hb; cases b with
    | true => exact hv.1 (hb rfl)
    | false => exact hv.2
theorem nil_own {id ver len : Nat} {X : Kn Bool} : @vnilI h (.own id ver len) X = @obI _ (arrVer h id) ⟨fun v => v = ver ∧ (len = 0 → X.run true) ∧ X.run false⟩ := by
  unfold vnilI vnil arrVer
  simp only
  cases hg : h[id]? with
  | none => rfl
  | some o => cases o with
    | bx ty _ => rfl
    | dead => rfl
    | ar ty fz sz v xs =>
  simp only [ob_some]
  apply propext
  constructor
  · rintro ⟨e, hv⟩; exact ⟨e, fun e => hv true fun _ => e, hv false fun e => by cases e⟩
  · rintro ⟨e, hv⟩; refine ⟨e, fun b hb => ?_⟩; cases b with
    | true => exact hv.1 (hb rfl)
    | false => exact hv.2


theorem callI {f : FuncId} {avs : List V} (avs1 : List V) (h1 : AHeap) (ids : List Nat) {avs' : List V} {hs : AHeap} {Post : V → AHeap → Prop} (k1 : WkV.all avs avs1) (k2 : WkH h h1) (hc : VC P f avs' hs Post) (hn : nodup ids = true) (hl : lendVs h1 ids avs1 = some avs') (hh : handO h1 (idx ids) ids = some hs)
    (hk : ∀ r hs', Post r hs' → ∃ r' h', back h1 ids (lentVs ids avs1) r hs' = some (r', h') ∧ K.run (r', h')) : @vcallI P f avs h K := ⟨[], h, avs1, h1, rfl, k1, k2, ids, avs', hs, Post, hn, hl, hh, hc, hk⟩

theorem callB {f : FuncId} {avs : List V} (bs : List (Nat × Nat × Nat)) {hb : AHeap} (avs1 : List V) (h1 : AHeap) (ids : List Nat) {avs' : List V} {hs : AHeap} {Post : V → AHeap → Prop} (k0 : nilOwns h bs = some hb) (k1 : WkV.all avs avs1) (k2 : WkH hb h1) (hc : VC P f avs' hs Post) (hn : nodup ids = true) (hl : lendVs h1 ids avs1 = some avs') (hh : handO h1 (idx ids) ids = some hs)
    (hk : ∀ r hs', Post r hs' → ∃ r' h', back h1 ids (lentVs ids avs1) r hs' = some (r', h') ∧ K.run (r', h')) : @vcallI P f avs h K := ⟨bs, hb, avs1, h1, k0, k1, k2, ids, avs', hs, Post, hn, hl, hh, hc, hk⟩

theorem callS {f : FuncId} {avs : List V} (ids : List Nat) {avs' : List V} {hs : AHeap} {Post : V → AHeap → Prop} (hc : VC P f avs' hs Post) (hn : nodup ids = true) (hl : lendVs h ids avs = some avs') (hh : handO h (idx ids) ids = some hs)
    (hk : ∀ r hs', Post r hs' → ∃ r' h', back h ids (lentVs ids avs) r hs' = some (r', h') ∧ K.run (r', h')) : @vcallI P f avs h K := callI avs h ids (WkV.allRefl _) (WkH.refl _) hc hn hl hh hk

theorem loopI {c : VCode} {α : Type} (Ti : α → Sl) (Hi : α → AHeap) (Inv : α → Prop) (m : α → Nat) (x0 : α) (h1 : Keep n T h (Ti x0) (Hi x0)) (h3 : Inv x0)
    (hr : ∀ x, Inv x → @vwpI P n c (Ti x) (Hi x) ⟨fun p => @vthenI p.1 p.2.1 p.2.2 ⟨fun q => ∃ y, Inv y ∧ m y < m x ∧ Keep n q.1 q.2 (Ti y) (Hi y)⟩ KX⟩) : @vwpI P n (.loop c) T h KX := by
  refine ⟨fun k T h => ∃ x, Inv x ∧ k = m x ∧ T = Ti x ∧ h = Hi x, ⟨m x0, Ti x0, Hi x0, h1, x0, h3, rfl, rfl, rfl⟩, ?_⟩
  rintro k T h ⟨x, hx, rfl, rfl, rfl⟩
  have := hr x hx
  have mono : ∀ {c : VCode} {Q Q' : VX → Sl → AHeap → Prop} {T : Sl} {h : AHeap}, (∀ e T h, Q e T h → Q' e T h) → vwp P n c Q T h → vwp P n c Q' T h := fun hq hv => vwp_mono hq hv
  refine mono ?_ this
  intro e T' h' hv
  cases e with
  | normal =>
    obtain ⟨y, a1, a2, a3⟩ := hv
    exact ⟨m y, Ti y, Hi y, a2, a3, y, a1, rfl, rfl, rfl⟩
  | exit id => exact hv
  | ret => exact hv

theorem keepI {T0 : Sl} {h0 : AHeap} (ids : List Nat) (h1 : AHeap) (k1 : WkH h h1) (k2 : nodup ids = true) (k3 : ids.take n = List.range n) (k4 : handO h1 (idx ids) ids = some h0) (k5 : Sub h1 ids T0 T) : Keep n T h T0 h0 := ⟨[], [], T, h, h, h1, ids, rfl, rfl, k1, k2, k3, k4, k5⟩

theorem keepG {T0 T1 : Sl} {h0 hp hh : AHeap} (gs : List (Nat × Nat)) (bs : List (Nat × Nat × Nat)) (ids : List Nat) (h1 : AHeap) (k0 : slotOwns T h gs = some (T1, hp)) (k0' : nilOwns hp bs = some hh) (k1 : WkH hh h1) (k2 : nodup ids = true) (k3 : ids.take n = List.range n) (k4 : handO h1 (idx ids) ids = some h0) (k5 : Sub h1 ids T0 T1) : Keep n T h T0 h0 := ⟨gs, bs, T1, hp, hh, h1, ids, k0, k0', k1, k2, k3, k4, k5⟩
end
end Go.Vt
