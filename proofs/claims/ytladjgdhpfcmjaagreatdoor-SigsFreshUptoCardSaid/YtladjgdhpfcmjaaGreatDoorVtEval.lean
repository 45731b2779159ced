/- Own framework, part 25: code run on what is known, where all that counts is known: a contract by a run. -/
import Derived.Test.YtladjgdhpfcmjaaGreatDoorVtSimp
namespace Go.Vt


def beqBytes (a b : ByteArray) : Bool := a.data.toList == b.data.toList

theorem beqBytes_eq {a b : ByteArray} (h : beqBytes a b = true) : a = b := by
  unfold beqBytes at h
  have := eq_of_beq h
  cases a; cases b
  simp only at this
  congr
  exact Array.toList_inj.1 this

mutual
def beqD : D → D → Bool
  | .bool a, .bool b => a == b
  | .int k n, .int k' n' => decide (k = k') && decide (n = n')
  | .str a, .str b => beqBytes a b
  | .sl xs, .sl ys => beqDss xs ys
  | .nilp, .nilp => true
  | _, _ => false
def beqDss : List (List D) → List (List D) → Bool
  | [], [] => true
  | x :: r, y :: s => beqDs x y && beqDss r s
  | _, _ => false
def beqDs : List D → List D → Bool
  | [], [] => true
  | x :: r, y :: s => beqD x y && beqDs r s
  | _, _ => false
end

mutual
theorem beqD_eq : ∀ {x y : D}, beqD x y = true → x = y
  | .bool a, y, h => by cases y <;> simp [beqD] at h; subst h; rfl
  | .int k n, y, h => by cases y <;> simp [beqD] at h; obtain ⟨rfl, rfl⟩ := h; rfl
  | .str a, y, h => by cases y <;> simp [beqD] at h; rw [beqBytes_eq h]
  | .sl xs, y, h => by cases y <;> simp [beqD] at h; rw [beqDss_eq h]
  | .nilp, y, h => by cases y <;> simp [beqD] at h; rfl
theorem beqDss_eq : ∀ {x y : List (List D)}, beqDss x y = true → x = y
  | [], y, h => by cases y <;> simp [beqDss] at h; rfl
  | x :: r, y, h => by cases y <;> simp [beqDss] at h; rw [beqDs_eq h.1, beqDss_eq h.2]
theorem beqDs_eq : ∀ {x y : List D}, beqDs x y = true → x = y
  | [], y, h => by cases y <;> simp [beqDs] at h; rfl
  | x :: r, y, h => by cases y <;> simp [beqDs] at h; rw [beqD_eq h.1, beqDs_eq h.2]
end

mutual
def beqL : L → L → Bool
  | .d x, .d y => beqD x y
  | .nils, .nils => true
  | .own a b c, .own a' b' c' => Nat.beq a a' && Nat.beq b b' && Nat.beq c c'
  | .ptr a b, .ptr a' b' => Nat.beq a a' && Nat.beq b b'
  | .ept a b c d, .ept a' b' c' d' => Nat.beq a a' && Nat.beq b b' && Nat.beq c c' && Nat.beq d d'
  | .ref x, .ref y => beqDs x y
  | .fn f x, .fn g y => Nat.beq f g && beqLs x y
  | .nilf, .nilf => true
  | .any, .any => true
  | .bsl a b c, .bsl a' b' c' => Nat.beq a a' && Nat.beq b b' && Nat.beq c c'
  | .osl a b c d, .osl a' b' c' d' => Nat.beq a a' && Nat.beq b b' && Nat.beq c c' && Nat.beq d d'
  | .nili, .nili => true
  | .fb f x, .fb g y => Nat.beq f g && beqLs x y
  | _, _ => false
def beqLs : List L → List L → Bool
  | [], [] => true
  | x :: r, y :: s => beqL x y && beqLs r s
  | _, _ => false
end

theorem nat_beq {a b : Nat} (h : Nat.beq a b = true) : a = b := Nat.eq_of_beq_eq_true h

mutual
theorem beqL_eq : ∀ {x y : L}, beqL x y = true → x = y
  | .d a, y, h => by cases y <;> simp [beqL] at h; rw [beqD_eq h]
  | .nils, y, h => by cases y <;> simp [beqL] at h; rfl
  | .own a b c, y, h => by
    cases y <;> simp only [beqL, Bool.and_eq_true, Bool.false_eq_true] at h
    obtain ⟨⟨h1, h2⟩, h3⟩ := h
    rw [nat_beq h1, nat_beq h2, nat_beq h3]
  | .ptr a b, y, h => by
    cases y <;> simp only [beqL, Bool.and_eq_true, Bool.false_eq_true] at h
    obtain ⟨h1, h2⟩ := h
    rw [nat_beq h1, nat_beq h2]
  | .ept a b c d, y, h => by
    cases y <;> simp only [beqL, Bool.and_eq_true, Bool.false_eq_true] at h
    obtain ⟨⟨⟨h1, h2⟩, h3⟩, h4⟩ := h
    rw [nat_beq h1, nat_beq h2, nat_beq h3, nat_beq h4]
  | .ref a, y, h => by cases y <;> simp [beqL] at h; rw [beqDs_eq h]
  | .fn f a, y, h => by
    cases y <;> simp only [beqL, Bool.and_eq_true, Bool.false_eq_true] at h
    obtain ⟨h1, h2⟩ := h
    rw [nat_beq h1, beqLs_eq h2]
  | .nilf, y, h => by cases y <;> simp [beqL] at h; rfl
  | .any, y, h => by cases y <;> simp [beqL] at h; rfl
  | .bsl a b c, y, h => by
    cases y <;> simp only [beqL, Bool.and_eq_true, Bool.false_eq_true] at h
    obtain ⟨⟨h1, h2⟩, h3⟩ := h
    rw [nat_beq h1, nat_beq h2, nat_beq h3]
  | .osl a b c d, y, h => by
    cases y <;> simp only [beqL, Bool.and_eq_true, Bool.false_eq_true] at h
    obtain ⟨⟨⟨h1, h2⟩, h3⟩, h4⟩ := h
    rw [nat_beq h1, nat_beq h2, nat_beq h3, nat_beq h4]
  | .nili, y, h => by cases y <;> simp [beqL] at h; rfl
  | .fb f a, y, h => by
    cases y <;> simp only [beqL, Bool.and_eq_true, Bool.false_eq_true] at h
    obtain ⟨h1, h2⟩ := h
    rw [nat_beq h1, beqLs_eq h2]
theorem beqLs_eq : ∀ {x y : List L}, beqLs x y = true → x = y
  | [], y, h => by cases y <;> simp [beqLs] at h; rfl
  | x :: r, y, h => by cases y <;> simp [beqLs] at h; rw [beqL_eq h.1, beqLs_eq h.2]
end

mutual
def beqV : V → V → Bool
  | .one a, .one b => beqL a b
  | .agg a, .agg b => beqLs a b
  | .tup a, .tup b => beqVs a b
  | _, _ => false
def beqVs : List V → List V → Bool
  | [], [] => true
  | x :: r, y :: s => beqV x y && beqVs r s
  | _, _ => false
end

mutual
theorem beqV_eq : ∀ {x y : V}, beqV x y = true → x = y
  | .one a, y, h => by cases y <;> simp [beqV] at h; rw [beqL_eq h]
  | .agg a, y, h => by cases y <;> simp [beqV] at h; rw [beqLs_eq h]
  | .tup a, y, h => by cases y <;> simp [beqV] at h; rw [beqVs_eq h]
theorem beqVs_eq : ∀ {x y : List V}, beqVs x y = true → x = y
  | [], y, h => by cases y <;> simp [beqVs] at h; rfl
  | x :: r, y, h => by cases y <;> simp [beqVs] at h; rw [beqV_eq h.1, beqVs_eq h.2]
end

def beqO : AObj → AObj → Bool
  | .bx t a, .bx t' b => decide (t = t') && beqLs a b
  | .ar t f s v x, .ar t' f' s' v' x' => decide (t = t') && (f == f') && Nat.beq s s' && Nat.beq v v' && beqDss x x'
  | .dead, .dead => true
  | _, _ => false

theorem beqO_eq {x y : AObj} (h : beqO x y = true) : x = y := by
  cases x <;> cases y <;> simp only [beqO, Bool.and_eq_true, Bool.false_eq_true] at h
  · obtain ⟨h0, h⟩ := h
    rw [beqLs_eq h, of_decide_eq_true h0]
  · obtain ⟨⟨⟨⟨h0, h1⟩, h2⟩, h3⟩, h4⟩ := h
    rw [of_decide_eq_true h0, eq_of_beq h1, nat_beq h2, nat_beq h3, beqDss_eq h4]
  · rfl

def beqH : AHeap → AHeap → Bool
  | [], [] => true
  | x :: r, y :: s => beqO x y && beqH r s
  | _, _ => false

theorem beqH_eq : ∀ {x y : AHeap}, beqH x y = true → x = y
  | [], y, h => by cases y <;> simp [beqH] at h; rfl
  | x :: r, y, h => by cases y <;> simp [beqH] at h; rw [beqO_eq h.1, beqH_eq h.2]

abbrev Res2 := V × AHeap
def beqR (x y : Res2) : Bool := beqV x.1 y.1 && beqH x.2 y.2
theorem beqR_eq {x y : Res2} (h : beqR x y = true) : x = y := by
  simp only [beqR, Bool.and_eq_true] at h
  exact Prod.ext (beqV_eq h.1) (beqH_eq h.2)


mutual
def idsL : L → List Nat
  | .own id _ _ => [id]
  | .ptr id _ => [id]
  | .ept id _ _ _ => [id]
  | .fn _ caps => idsLs caps
  | .fb _ caps => idsLs caps
  | .bsl id _ _ => [id]
  | .osl id _ _ _ => [id]
  | _ => []
def idsLs : List L → List Nat
  | [] => []
  | l :: r => idsL l ++ idsLs r
end

mutual
def idsV : V → List Nat
  | .one l => idsL l
  | .agg ls => idsLs ls
  | .tup vs => idsVs vs
def idsVs : List V → List Nat
  | [] => []
  | v :: r => idsV v ++ idsVs r
end

def idsO : AObj → List Nat
  | .bx _ ls => idsLs ls
  | _ => []

def memN (x : Nat) : List Nat → Bool
  | [] => false
  | y :: r => Nat.beq x y || memN x r

def reachIds (h : AHeap) : Nat → List Nat → List Nat → List Nat
  | 0, acc, _ => acc.reverse
  | _, acc, [] => acc.reverse
  | f + 1, acc, x :: r => if memN x acc then reachIds h f acc r else match h[x]? with
    | some o => reachIds h f (x :: acc) (r ++ idsO o)
    | none => reachIds h f acc r

def keepIds (h : AHeap) (n : Nat) (roots : List Nat) : List Nat := reachIds h 100000 [] (List.range n ++ roots)


abbrev Caller := FuncId → List V → AHeap → Option Res2

def evCall (call : Caller) (f : FuncId) (avs : List V) (h : AHeap) : Option Res2 :=
  let ids := keepIds h 0 (idsVs avs)
  match nodup ids, lendVs h ids avs, handO h (idx ids) ids with
  | true, some avs', some hs => match call f avs' hs with
    | some (r, hs') => back h ids (lentVs ids avs) r hs'
    | none => none
  | _, _, _ => none

def evOther (P : Program) (call : Caller) (T : Sl) (h : AHeap) (op : Op) : Option Res2 :=
  match op with
  | .call { callee := .value f, args, .. } => match opd T f, opds T args.toList with
    | some (.one (.fn f caps)), some vs => if caps.all (capOk h) = true then evCall call f (vs ++ caps.map .one) h else none
    | some (.one (.fb f fst)), some vs => if fst.all (capOk h) = true then evCall call f (fst.map .one ++ (vs ++ [])) h else none
    | _, _ => none
  | .binOp op t x (.const (.slice none 0 0)) _ => match ti P t, opd T x with
    | some i, some (.one l) => match i.kd, op, l with
      | .slice, .eql, .nils => some (.one (.d (.bool true)), h)
      | .slice, .neq, .nils => some (.one (.d (.bool false)), h)
      | .slice, .eql, .d (.sl (_ :: _)) => some (.one (.d (.bool false)), h)
      | .slice, .neq, .d (.sl (_ :: _)) => some (.one (.d (.bool true)), h)
      | .slice, op, .own id ver (_ + 1) => match h[id]? with
        | some (.ar ty _ _ ver' _) => if ver' = ver then (match op with
          | .eql => some (.one (.d (.bool false)), h)
          | .neq => some (.one (.d (.bool true)), h)
          | _ => none) else none
        | _ => none
      | _, _, _ => none
    | _, _ => none
  | _ => none

def evStep (P : Program) (call : Caller) (T : Sl) (h : AHeap) (op : Op) : Option Res2 :=
  match vop P T h { dst := none, op, type := 0, pos := "", after := #[], guard := none } with
  | some x => some x
  | none => match vmem P T h { dst := none, op, type := 0, pos := "", after := #[], guard := none } with
    | some x => some x
    | none => evOther P call T h op

def evGo (P : Program) (call : Caller) (o : VOp) (T : Sl) (h : AHeap) : Option (Sl × AHeap) := match o.g with
  | none => match evStep P call T h o.op with
    | some (v, h') => some (tput T o.dst v, h')
    | none => none
  | some (some d, want) => match gbool (T.lookup d) with
    | some b => if b = some want then (match evStep P call T h o.op with
      | some (v, h') => some (tput T o.dst v, h')
      | none => none) else some (tput T o.dst vundef, h)
    | none => none
  | some (none, _) => none

def evOps (P : Program) (call : Caller) : List VOp → Sl → AHeap → Option (Sl × AHeap)
  | [], T, h => some (T, h)
  | o :: R, T, h => match evGo P call o T h with
    | some (T', h') => evOps P call R T' h'
    | none => none

def unkNil (P : Program) (T : Sl) (h : AHeap) (o : VOp) : Bool := match o.g, o.op with
  | none, .binOp op t x (.const (.slice none 0 0)) _ => match ti P t, opd T x with
    | some i, some (.one (.d (.sl []))) => match i.kd, op with
      | .slice, .eql => true
      | .slice, .neq => true
      | _, _ => false
    | some i, some (.one (.own id ver 0)) => match i.kd, h[id]? with
      | .slice, some (.ar _ _ _ ver' _) => if ver' = ver then (match op with
        | .eql => true
        | .neq => true
        | _ => false) else false
      | _, _ => false
    | _, _ => false
  | _, _ => false

def evOpsC (P : Program) (call : Caller) : List VOp → Sl → AHeap → (Sl → AHeap → Option Res2) → Option Res2
  | [], T, h, K => K T h
  | o :: R, T, h, K => match unkNil P T h o with
    | true => match evOpsC P call R (tput T o.dst (.one (.d (.bool true)))) h K, evOpsC P call R (tput T o.dst (.one (.d (.bool false)))) h K with
      | some x, some y => if beqR x y = true then some x else none
      | _, _ => none
    | false => match evGo P call o T h with
      | some (T', h') => evOpsC P call R T' h' K
      | none => none

def beqT : Sl → Sl → Bool
  | [], [] => true
  | (i, x) :: r, (j, y) :: s => Nat.beq i j && beqV x y && beqT r s
  | _, _ => false

theorem beqT_eq : ∀ {x y : Sl}, beqT x y = true → x = y
  | [], y, h => by cases y <;> simp [beqT] at h; rfl
  | (i, x) :: r, y, h => by
    cases y with
    | nil => simp [beqT] at h
    | cons y s =>
      obtain ⟨j, y⟩ := y
      simp only [beqT, Bool.and_eq_true] at h
      rw [nat_beq h.1.1, beqV_eq h.1.2, beqT_eq h.2]

def evAgain (P : Program) (call : Caller) (is : List Nat) (h : AHeap) : List (Nat × VOp × Sl × Sl) → Bool
  | [] => true
  | (i, o, T, T') :: W => (if i ∈ is then (match evGo P call o T h with
    | some (T2, _) => beqT T2 T'
    | none => false) else true) && evAgain P call is h W

def evOpsW (P : Program) (call : Caller) (ob : List (Nat × List Nat)) : List (Nat × VOp) → List (Nat × VOp × Sl × Sl) → Sl → AHeap → Option (Sl × AHeap)
  | [], _, T, h => some (T, h)
  | (i, o) :: R, W, T, h => match evGo P call o T h with
    | some (T', h') => if ro o.op = true then evOpsW P call ob R (if ob.any (fun x => x.2.contains i) then (i, o, T, T') :: W else W) T' h'
      else if evAgain P call (obOf ob i) h' W = true then evOpsW P call ob R W T' h' else none
    | none => none

def evOpsB (P : Program) (call : Caller) (ob : List (Nat × List Nat)) : VBT → List (Nat × VOp × Sl × Sl) → Sl → AHeap → (Sl → AHeap → Option Res2) → Option Res2
  | .leaf, _, T, h, K => K T h
  | .no, _, _, _, _ => none
  | .ro i o t, W, T, h, K => match evGo P call o T h with
    | some (T', h') => evOpsB P call ob t (if ob.any (fun x => x.2.contains i) then (i, o, T, T') :: W else W) T' h' K
    | none => none
  | .alt j o t r, W, T, h, K => match evGo P call o T h with
    | some (T', h') => if evAgain P call (obOf ob j) h' W = true then (match r with
      | .no => evOpsB P call ob t W T' h' K
      | r => match evOpsB P call ob t W T' h' K, evOpsB P call ob r W T h K with
        | some x, some y => if beqR x y = true then some x else none
        | _, _ => none) else none
    | none => none

def keepT (h : AHeap) (ids : List Nat) : List Nat → Sl → Sl
  | _, [] => []
  | seen, (i, v) :: r => if memN i seen then keepT h ids seen r else match lendR h ids v with
    | some v0 => (i, v0) :: keepT h ids (i :: seen) r
    | none => keepT h ids (i :: seen) r

def idsT : Sl → List Nat
  | [] => []
  | (_, v) :: r => idsV v ++ idsT r

def evKeep (n : Nat) (T : Sl) (h : AHeap) : Option (Sl × AHeap) :=
  let ids := keepIds h n (idsT T)
  match nodup ids && decide (ids.take n = List.range n), handO h (idx ids) ids with
  | true, some h0 => some (keepT h ids [] T, h0)
  | _, _ => none

def insT (i : Nat) (v : V) : Sl → Sl
  | [] => [(i, v)]
  | (j, w) :: r => match Nat.beq i j with
    | true => (i, v) :: r
    | false => match Nat.blt i j with
      | true => (i, v) :: (j, w) :: r
      | false => (j, w) :: insT i v r
def sortT : Sl → Sl
  | [] => []
  | (i, v) :: r => insT i v (sortT r)

def evOpsK (P : Program) (call : Caller) (n : Nat) (ob : List (Nat × List Nat)) : VBT → List (Nat × VOp × Sl × Sl) → Sl → AHeap → Option (Sl × AHeap)
  | .leaf, _, T, h => evKeep n (sortT T) h
  | .no, _, _, _ => none
  | .ro i o t, W, T, h => match evGo P call o T h with
    | some (T', h') => evOpsK P call n ob t (if ob.any (fun x => x.2.contains i) then (i, o, T, T') :: W else W) T' h'
    | none => none
  | .alt j o t r, W, T, h => match evGo P call o T h with
    | some (T', h') => if evAgain P call (obOf ob j) h' W = true then (match r with
      | .no => evOpsK P call n ob t W T' h'
      | r => match evOpsK P call n ob t W T' h', evOpsK P call n ob r W T h with
        | some (T1, h1), some (T2, h2) => if (beqT T1 T2 && beqH h1 h2) = true then some (T1, h1) else none
        | _, _ => none) else none
    | none => none

def itOf (P : Program) (f : FuncId) : Option (Nat × VCode) := match P.funcs[f]? with
  | some fn => match fn.body with
    | some c => if callable P f && codeY fn.ntmps c && fn.results.toList.isEmpty then some (fn.ntmps, compile [] c) else none
    | none => none
  | none => none

abbrev KV := Sl → List Tmp → AHeap → Option VX → Option Res2
abbrev EvR := List V → AHeap → (Option VX → AHeap → Option Res2) → Option Res2

def evGoY (P : Program) (call : Caller) (Y : EvR) (o : VOp) (T : Sl) (ys : List Tmp) (h : AHeap) (pd : Option VX) (K : KV) : Option Res2 :=
  match yop o ys with
  | .mv d => K ((d, .one .any) :: T) (d :: ys) h pd
  | .yl args => match pd, opds T args with
    | none, some vs => Y vs h fun pd' h' => K (tput T o.dst (.one (.d (.bool pd'.isNone)))) (dropT o.dst ys) h' pd'
    | _, _ => none
  | .no => match evGo P call o T h with
    | some (T', h') => K T' (dropT o.dst ys) h' pd
    | none => none

def evOpsY (P : Program) (call : Caller) (Y : EvR) : List VOp → Sl → List Tmp → AHeap → Option VX → KV → Option Res2
  | [], T, ys, h, pd, K => K T ys h pd
  | o :: R, T, ys, h, pd, K => evGoY P call Y o T ys h pd fun T' ys' h' pd' => evOpsY P call Y R T' ys' h' pd' K

def evY (P : Program) (call : Caller) (n : Nat) (Y : EvR) : Nat → VCode → (VX → KV) → KV
  | 0, _, _, _, _, _, _ => none
  | f + 1, c, K, T, ys, h, pd => match c with
    | .skip => K .normal T ys h pd
    | .ops l => evOpsY P call Y l T ys h pd (K .normal)
    | .seq a b => evY P call n Y f a (fun e T ys h pd => match e with
      | .normal => evY P call n Y f b K T ys h pd
      | e => K e T ys h pd) T ys h pd
    | .cond c a b => match opd T c with
      | some (.one (.d (.bool t))) => match t with
        | true => evY P call n Y f a K T ys h pd
        | false => evY P call n Y f b K T ys h pd
      | _ => none
    | .block id c => evY P call n Y f c (fun e T ys h pd => match e with
      | .exit id' => if id' = id then K .normal T ys h pd else K (.exit id') T ys h pd
      | e => K e T ys h pd) T ys h pd
    | .loop c => match evKeep n T h with
      | some (T0, h0) => evY P call n Y f c (fun e T ys h pd => match e with
        | .normal => evY P call n Y f (.loop c) K T ys h pd
        | e => K e T ys h pd) T0 ys h0 pd
      | none => none
    | .exit id => K (.exit id) T ys h pd
    | .ret => K .ret T ys h pd
    | _ => none

def ev (P : Program) (call : Caller) (n : Nat) : Nat → VCode → (VX → Sl → AHeap → Option Res2) → Sl → AHeap → Option Res2
  | 0, _, _, _, _ => none
  | f + 1, c, K, T, h => match c with
    | .skip => K .normal T h
    | .ops l => evOpsC P call l T h (K .normal)
    | .opsW l ob => match evOpsW P call ob l [] T h with
      | some (T', h') => K .normal T' h'
      | none => none
    | .opsB t ob => evOpsB P call ob t [] T h (K .normal)
    | .opsK t ob => match evOpsK P call n ob t [] T h with
      | some (T', h') => K .normal T' h'
      | none => none
    | .both a b => match ev P call n f a K T h, ev P call n f b K T h with
      | some x, some y => if beqR x y = true then some x else none
      | _, _ => none
    | .seq a b => ev P call n f a (fun e T h => match e with
      | .normal => ev P call n f b K T h
      | e => K e T h) T h
    | .cond c a b => match opd T c with
      | some (.one (.d (.bool t))) => match t with
        | true => ev P call n f a K T h
        | false => ev P call n f b K T h
      | _ => none
    | .block id c => ev P call n f c (fun e T h => match e with
      | .exit id' => if id' = id then K .normal T h else K (.exit id') T h
      | e => K e T h) T h
    | .loop c => match evKeep n T h with
      | some (T0, h0) => ev P call n f c (fun e T h => match e with
        | .normal => ev P call n f (.loop c) K T h
        | e => K e T h) T0 h0
      | none => none
    | .exit id => K (.exit id) T h
    | .ret => K .ret T h
    | .bad => none
    | .rangeF g ps x y => match opd T g with
      | some (.one (.fn g' caps)) => if caps.all (capOk h) = true then (match itOf P g' with
        | some (N, it) => if caps.length < N then evY P call h.length (fun vs h1 K' => if vs.length = ps.length then ev P call h1.length f x (fun e T' h' => match e with
            | .normal => ev P call h'.length f y (fun e _ h' => match e with
              | .normal => K' none h'
              | e => K' (some e) h') T' h'
            | _ => none) (zipT ps vs T) h1 else none) f it (fun e _ _ h' pd => match e with
              | .exit _ => none
              | _ => match pd with
                | none => K .normal T h'
                | some e => K e T h') ((0, .one .any) :: capT 1 caps) [0] h none else none
        | none => none) else none
      | _ => none

def evEnd (P : Program) (n : Nat) (rs : List ResultVar) : VX → Sl → AHeap → Option Res2
  | .exit _, _, _ => none
  | _, T, h => match vres P T h rs with
    | some vs => fin n (keepIds h n (idsV (vone vs))) h (vone vs)
    | none => none

abbrev Tbl := FuncId → Option (Nat × VCode × List ResultVar)

def wkNL : L → L
  | .nils => .d (.sl [])
  | l => l
def wkNLs : List L → List L
  | [] => []
  | l :: r => wkNL l :: wkNLs r
mutual
def wkNV : V → V
  | .one l => .one (wkNL l)
  | .agg ls => .agg (wkNLs ls)
  | .tup vs => .tup (wkNVs vs)
def wkNVs : List V → List V
  | [] => []
  | v :: r => wkNV v :: wkNVs r
end

def idsD : List Nat → AHeap → List Nat
  | [], _ => []
  | i :: r, h => match h[i]? with
    | some (.ar _ _ _ _ _) => idsD r h
    | _ => i :: idsD r h

def evEndD (P : Program) (n : Nat) (rs : List ResultVar) : VX → Sl → AHeap → Option Res2
  | .exit _, _, _ => none
  | _, T, h => match vres P T h rs with
    | some vs => fin n (keepIds h n (idsD (idsV (wkNV (vone vs))) h)) h (wkNV (vone vs))
    | none => none

def evFn (P : Program) (tbl : Tbl) (fuel : Nat) : Nat → Caller
  | 0, _, _, _ => none
  | d + 1, f, avs, h => match tbl f with
    | some (N, vc, rs) => if avs.length ≤ N then ev P (evFn P tbl fuel d) h.length fuel vc (evEnd P h.length rs) (prm 0 avs) h else none
    | none => none


variable {P : Program} {call : Caller}

def Tells (P : Program) (call : Caller) : Prop := ∀ f avs h r h', call f avs h = some (r, h') → VC P f avs h fun r' h'' => r' = r ∧ h'' = h'

theorem evCall_sound (hc : Tells P call) {f : FuncId} {avs : List V} {h : AHeap} {v : V} {h' : AHeap} (he : evCall call f avs h = some (v, h')) {K : V → AHeap → Prop} (hk : K v h') : vcall P f avs h K := by
  unfold evCall at he
  simp only at he
  generalize keepIds h 0 (idsVs avs) = ids at he
  split at he
  · rename_i avs' hs hn hl hh
    split at he
    · rename_i r hs' hcall
      exact ⟨[], h, avs, h, rfl, WkV.allRefl _, WkH.refl _, ids, avs', hs, _, hn, hl, hh, hc _ _ _ _ _ hcall, fun r' hs'' ⟨e1, e2⟩ => by subst e1; subst e2; exact ⟨v, h', he, hk⟩⟩
    · cases he
  · cases he

theorem evOther_sound (hc : Tells P call) {T : Sl} {h : AHeap} {op : Op} {v : V} {h' : AHeap} (he : evOther P call T h op = some (v, h')) {K : V → AHeap → Prop} (hk : K v h') : vother P T h { dst := none, op, type := 0, pos := "", after := #[], guard := none } K := by
  unfold evOther at he
  split at he
  · rename_i f args _
    unfold vother
    simp only
    split at he
    · rename_i f' caps vs h1 h2
      split at he
      · rename_i hcap
        simp only [h1, h2]
        exact ⟨hcap, evCall_sound hc he hk⟩
      · cases he
    · rename_i f' caps vs h1 h2
      split at he
      · rename_i hcap
        simp only [h1, h2]
        exact ⟨hcap, evCall_sound hc he hk⟩
      · cases he
    · cases he
  · rename_i bop t x _
    unfold vother
    simp only
    split at he
    · rename_i i l h1 h2
      simp only [h1, h2]
      split at he
      · rename_i hkd; cases he; rw [hkd]; exact hk
      · rename_i hkd; cases he; rw [hkd]; exact hk
      · rename_i hkd; cases he; rw [hkd]; intro b hb; cases b with | true => cases hb rfl | false => exact hk
      · rename_i hkd; cases he; rw [hkd]; intro b hb; cases b with | true => cases hb rfl | false => exact hk
      · rename_i id ver len hkd
        split at he
        · rename_i fz sz ver' xs hid
          split at he
          · rename_i hv
            split at he
            · cases he
              rw [hkd]
              simp only [vnil, hid]
              exact ⟨hv, fun b hb => by cases b with | true => cases hb rfl | false => exact hk⟩
            · cases he
              rw [hkd]
              simp only [vnil, hid]
              exact ⟨hv, fun b hb => by cases b with | true => cases hb rfl | false => exact hk⟩
            · cases he
          · cases he
        · cases he
      · cases he
    · cases he
  · cases he

theorem evStep_sound (hc : Tells P call) {T : Sl} {h : AHeap} {op : Op} {v : V} {h' : AHeap} (he : evStep P call T h op = some (v, h')) {K : V → AHeap → Prop} (hk : K v h') : vstepO P T h op K := by
  unfold evStep at he
  unfold vstepO vstep
  split at he
  · rename_i x hx; cases he; rw [hx]; exact hk
  · rename_i hx
    rw [hx]
    split at he
    · rename_i x hm; cases he; rw [hm]; exact hk
    · rename_i hm
      rw [hm]
      exact evOther_sound hc he hk

theorem evGo_sound (hc : Tells P call) {o : VOp} {T : Sl} {h : AHeap} {T' : Sl} {h' : AHeap} (he : evGo P call o T h = some (T', h')) {K : Sl → AHeap → Prop} (hk : K T' h') : vgoO P o T h K := by
  unfold evGo at he
  unfold vgoO
  split at he
  · rename_i hg
    rw [hg]
    split at he
    · rename_i v h1 hs; cases he; exact evStep_sound hc hs hk
    · cases he
  · rename_i d want hg
    rw [hg]
    simp only
    split at he
    · rename_i b hb
      rw [hb]
      split at he
      · rename_i hw
        split at he
        · rename_i v h1 hs
          cases he
          exact ⟨fun _ => evStep_sound hc hs hk, fun hn => absurd hw hn⟩
        · cases he
      · rename_i hw
        cases he
        exact ⟨fun hn => absurd hn hw, fun _ => hk⟩
    · cases he
  · cases he

theorem evOps_sound (hc : Tells P call) : ∀ {l : List VOp} {T : Sl} {h : AHeap} {T' : Sl} {h' : AHeap}, evOps P call l T h = some (T', h') → ∀ {K : Sl → AHeap → Prop}, K T' h' → vops P l T h K
  | [], _, _, _, _, he, _, hk => by cases he; exact hk
  | o :: R, T, h, T', h', he, K, hk => by
    unfold evOps at he
    split at he
    · rename_i T1 h1 hg; exact evGo_sound hc hg (evOps_sound hc he hk)
    · cases he

theorem evAgain_sound (hc : Tells P call) {is : List Nat} {h : AHeap} : ∀ {W : List (Nat × VOp × Sl × Sl)}, evAgain P call is h W = true → again P is h W
  | [], _ => trivial
  | (i, o, T, T') :: W, he => by
    unfold evAgain at he
    simp only [Bool.and_eq_true] at he
    refine ⟨fun hi => ?_, evAgain_sound hc he.2⟩
    have h1 := he.1
    rw [if_pos hi] at h1
    split at h1
    · rename_i T2 h2 hg; exact evGo_sound hc hg (beqT_eq h1)
    · cases h1

theorem unkNil_sound {T : Sl} {h : AHeap} {o : VOp} (hu : unkNil P T h o = true) {K : Sl → AHeap → Prop} (h1 : K (tput T o.dst (.one (.d (.bool true)))) h) (h2 : K (tput T o.dst (.one (.d (.bool false)))) h) : vgoO P o T h K := by
  have both : ∀ b : Bool, K (tput T o.dst (.one (.d (.bool b)))) h := fun b => by cases b; exact h2; exact h1
  obtain ⟨dst, op, g⟩ := o
  unfold unkNil at hu
  split at hu
  · rename_i op' t x yt hg hop
    simp only at hg hop both
    subst hg; subst hop
    show vstepO P T h _ _
    unfold vstepO vstep
    split at hu
    · rename_i i hi hx
      split at hu
      · rename_i hkd
        have hn : opd T (.const (.slice none 0 0)) = some (.one .nils) := rfl
        have hb : vbin2 P h t i.kd .eql (.one (.d (.sl []))) (.one .nils) = none := by rw [hkd]; rfl
        simp only [vop, vmem, vother, hi, hx, hn, hb, hkd]
        exact fun b _ => both b
      · rename_i hkd
        have hn : opd T (.const (.slice none 0 0)) = some (.one .nils) := rfl
        have hb : vbin2 P h t i.kd .neq (.one (.d (.sl []))) (.one .nils) = none := by rw [hkd]; rfl
        simp only [vop, vmem, vother, hi, hx, hn, hb, hkd]
        exact fun b _ => both (!b)
      · cases hu
    · rename_i i id ver hi hx
      split at hu
      · rename_i ty fz sz ver' xs hkd hid
        split at hu
        · rename_i hv
          split at hu
          · have hn : opd T (.const (.slice none 0 0)) = some (.one .nils) := rfl
            have hb : vbin2 P h t i.kd .eql (.one (.own id ver 0)) (.one .nils) = none := by rw [hkd]; rfl
            simp only [vop, vmem, vother, hi, hx, hn, hb, hkd, vnil, hid]
            exact ⟨hv, fun b _ => both b⟩
          · have hn : opd T (.const (.slice none 0 0)) = some (.one .nils) := rfl
            have hb : vbin2 P h t i.kd .neq (.one (.own id ver 0)) (.one .nils) = none := by rw [hkd]; rfl
            simp only [vop, vmem, vother, hi, hx, hn, hb, hkd, vnil, hid]
            exact ⟨hv, fun b _ => both (!b)⟩
          · cases hu
        · cases hu
      · cases hu
    · cases hu
  · cases hu

theorem evOpsC_sound (hc : Tells P call) {x : Res2} : ∀ {l : List VOp} {T : Sl} {h : AHeap} {K : Sl → AHeap → Option Res2}, evOpsC P call l T h K = some x → ∀ {Q : Sl → AHeap → Prop}, (∀ T h, K T h = some x → Q T h) → vops P l T h Q
  | [], _, _, _, he, _, hq => hq _ _ he
  | o :: R, T, h, K, he, Q, hq => by
    unfold evOpsC at he
    show vgoO P o T h _
    split at he
    · rename_i hu
      split at he
      · rename_i y z e1 e2
        split at he
        · rename_i hb
          cases he
          have := beqR_eq hb
          subst this
          exact unkNil_sound hu (evOpsC_sound hc e1 hq) (evOpsC_sound hc e2 hq)
        · cases he
      · cases he
    · split at he
      · rename_i T' h' hg; exact evGo_sound hc hg (evOpsC_sound hc he hq)
      · cases he

theorem evOpsW_sound (hc : Tells P call) {ob : List (Nat × List Nat)} : ∀ {l : List (Nat × VOp)} {W : List (Nat × VOp × Sl × Sl)} {T : Sl} {h : AHeap} {T' : Sl} {h' : AHeap}, evOpsW P call ob l W T h = some (T', h') → ∀ {K : Sl → AHeap → Prop}, K T' h' → vopsW P ob l W T h K
  | [], _, _, _, _, _, he, _, hk => by cases he; exact hk
  | (i, o) :: R, W, T, h, T', h', he, K, hk => by
    unfold evOpsW at he
    unfold vopsW
    split at he
    · rename_i T1 h1 hg
      split at he
      · rename_i hr
        rw [if_pos hr]
        exact evGo_sound hc hg (evOpsW_sound hc he hk)
      · rename_i hr
        rw [if_neg hr]
        split at he
        · rename_i ha; exact evGo_sound hc hg ⟨evAgain_sound hc ha, evOpsW_sound hc he hk⟩
        · cases he
    · cases he

theorem evOpsB_sound (hc : Tells P call) {ob : List (Nat × List Nat)} {x : Res2} : ∀ {t : VBT} {W : List (Nat × VOp × Sl × Sl)} {T : Sl} {h : AHeap} {K : Sl → AHeap → Option Res2}, evOpsB P call ob t W T h K = some x → ∀ {Q : Sl → AHeap → Prop}, (∀ T h, K T h = some x → Q T h) → vopsB P ob t W T h Q
  | .leaf, _, _, _, _, he, _, hq => hq _ _ he
  | .no, _, _, _, _, _, _, _ => trivial
  | .ro i o t, W, T, h, K, he, Q, hq => by
    unfold evOpsB at he
    unfold vopsB
    split at he
    · rename_i T1 h1 hg; exact evGo_sound hc hg (evOpsB_sound hc he hq)
    · cases he
  | .alt j o t r, W, T, h, K, he, Q, hq => by
    unfold evOpsB at he
    unfold vopsB
    split at he
    · rename_i T1 h1 hg
      split at he
      · rename_i ha
        split at he
        · exact ⟨evGo_sound hc hg ⟨evAgain_sound hc ha, evOpsB_sound hc he hq⟩, trivial⟩
        · split at he
          · rename_i y z e1 e2
            split at he
            · rename_i hb
              cases he
              have := beqR_eq hb
              subst this
              exact ⟨evGo_sound hc hg ⟨evAgain_sound hc ha, evOpsB_sound hc e1 hq⟩, evOpsB_sound hc e2 hq⟩
            · cases he
          · cases he
      · cases he
    · cases he

theorem keepT_sub {h : AHeap} {ids : List Nat} : ∀ {T T0 : Sl} {seen : List Nat}, (∀ i v, memN i seen = false → T.lookup i = some v → T0.lookup i = some v) → Sub h ids (keepT h ids seen T) T0
  | [], _, _, _ => trivial
  | (i, v) :: r, T0, seen, hs => by
    have memN_cons : ∀ {j : Nat}, memN j (i :: seen) = false → memN j seen = false ∧ j ≠ i := by
      intro j hj
      simp only [memN, Bool.or_eq_false_iff] at hj
      refine ⟨hj.2, fun e => ?_⟩
      subst e
      have := hj.1
      rw [Nat.beq_refl] at this
      cases this
    have rest : ∀ {seen' : List Nat}, (∀ j, memN j seen' = false → memN j seen = false ∧ j ≠ i) → ∀ j u, memN j seen' = false → r.lookup j = some u → T0.lookup j = some u := by
      intro seen' h' j u hj hu
      obtain ⟨a, b⟩ := h' j hj
      refine hs j u a ?_
      rw [List.lookup_cons]
      have : (j == i) = false := by simpa using b
      rw [this]
      exact hu
    unfold keepT
    split
    · rename_i hm
      refine keepT_sub fun j u hj hu => ?_
      refine hs j u hj ?_
      rw [List.lookup_cons]
      have : (j == i) = false := by
        simp only [beq_eq_false_iff_ne]
        rintro rfl
        rw [hm] at hj
        cases hj
      rw [this]
      exact hu
    · rename_i hm
      split
      · rename_i v0 hl
        refine ⟨?_, keepT_sub (rest fun j hj => memN_cons hj)⟩
        rw [hs i v (by simpa using hm) (by simp)]
        exact ⟨v, WkV.refl v, hl⟩
      · exact keepT_sub (rest fun j hj => memN_cons hj)

theorem evKeep_sound {n : Nat} {T : Sl} {h : AHeap} {T0 : Sl} {h0 : AHeap} (he : evKeep n T h = some (T0, h0)) : Keep n T h T0 h0 := by
  unfold evKeep at he
  simp only at he
  generalize keepIds h n (idsT T) = ids at he
  split at he
  · rename_i hn hh
    cases he
    simp only [Bool.and_eq_true, decide_eq_true_eq] at hn
    exact keepI ids h (WkH.refl h) hn.1 hn.2 hh (keepT_sub fun i v _ hi => hi)
  · cases he

theorem lookup_insT {i k : Nat} {v : V} : ∀ {l : Sl}, (insT i v l).lookup k = if k = i then some v else l.lookup k
  | [] => by
    simp only [insT, List.lookup_cons, List.lookup_nil]
    by_cases e : k = i
    · simp [e]
    · have : (k == i) = false := by simpa using e
      simp [this, e]
  | (j, w) :: r => by
    have ih := @lookup_insT i k v r
    unfold insT
    split
    · rename_i e
      have := nat_beq e
      subst this
      simp only [List.lookup_cons]
      by_cases e : k = i
      · simp [e]
      · have : (k == i) = false := by simpa using e
        simp [this, e]
    · rename_i e
      have hij : i ≠ j := by rintro rfl; rw [Nat.beq_refl] at e; cases e
      split
      · simp only [List.lookup_cons]
        by_cases e : k = i
        · simp [e]
        · have : (k == i) = false := by simpa using e
          simp [this, e]
      · simp only [List.lookup_cons, ih]
        by_cases e : k = j
        · subst e
          have hne : ¬ k = i := fun e => hij e.symm
          simp [hne]
        · have : (k == j) = false := by simpa using e
          simp [this]

theorem lookup_sortT {k : Nat} : ∀ {T : Sl}, (sortT T).lookup k = T.lookup k
  | [] => rfl
  | (i, v) :: r => by
    unfold sortT
    rw [lookup_insT, List.lookup_cons, lookup_sortT]
    by_cases e : k = i
    · simp [e]
    · have : (k == i) = false := by simpa using e
      simp [this, e]

theorem evKeep_sorted {n : Nat} {T : Sl} {h : AHeap} {T0 : Sl} {h0 : AHeap} (he : evKeep n (sortT T) h = some (T0, h0)) : Keep n T h T0 h0 := by
  unfold evKeep at he
  simp only at he
  generalize keepIds h n (idsT (sortT T)) = ids at he
  split at he
  · rename_i hn hh
    cases he
    simp only [Bool.and_eq_true, decide_eq_true_eq] at hn
    exact keepI ids h (WkH.refl h) hn.1 hn.2 hh (keepT_sub fun i v _ hi => by rw [← lookup_sortT]; exact hi)
  · cases he

theorem evOpsK_sound {P : Program} {call : Caller} (hc : Tells P call) {n : Nat} {ob : List (Nat × List Nat)} : ∀ {t : VBT} {W : List (Nat × VOp × Sl × Sl)} {T : Sl} {h : AHeap} {T1 : Sl} {h1 : AHeap}, evOpsK P call n ob t W T h = some (T1, h1) → vopsB P ob t W T h (fun T' h' => Keep n T' h' T1 h1)
  | .leaf, _, _, _, _, _, he => evKeep_sorted he
  | .no, _, _, _, _, _, _ => trivial
  | .ro i o t, W, T, h, T1, h1, he => by
    unfold evOpsK at he
    unfold vopsB
    split at he
    · rename_i T2 h2 hg; exact evGo_sound hc hg (evOpsK_sound hc he)
    · cases he
  | .alt j o t r, W, T, h, T1, h1, he => by
    unfold evOpsK at he
    unfold vopsB
    split at he
    · rename_i T2 h2 hg
      split at he
      · rename_i ha
        split at he
        · exact ⟨evGo_sound hc hg ⟨evAgain_sound hc ha, evOpsK_sound hc he⟩, trivial⟩
        · split at he
          · rename_i Ta ha' Tb hb' e1 e2
            split at he
            · rename_i hb
              cases he
              simp only [Bool.and_eq_true] at hb
              have e3 := beqT_eq hb.1
              have e4 := beqH_eq hb.2
              subst e3; subst e4
              exact ⟨evGo_sound hc hg ⟨evAgain_sound hc ha, evOpsK_sound hc e1⟩, evOpsK_sound hc e2⟩
            · cases he
          · cases he
      · cases he
    · cases he

theorem itOf_ok {f : FuncId} {N : Nat} {it : VCode} (h : itOf P f = some (N, it)) : ItOk P f N it := by
  unfold itOf at h
  split at h
  · rename_i fn hf
    split at h
    · rename_i c hb
      split at h
      · rename_i hc
        cases h
        simp only [Bool.and_eq_true, List.isEmpty_iff] at hc
        exact ⟨fn, c, hf, hb, hc.1.1, rfl, hc.1.2, rfl, Array.toList_inj.1 hc.2⟩
      · cases h
    · cases h
  · cases h

section
variable {x : Res2} {Yv : EvR} {Y : Rounds} (hY : ∀ vs h Kv (K : Option VX → AHeap → Prop), Yv vs h Kv = some x → (∀ pd h, Kv pd h = some x → K pd h) → Y vs h K)
include hY

theorem evOpsY_sound (hc : Tells P call) : ∀ {l : List VOp} {T : Sl} {ys : List Tmp} {h : AHeap} {pd : Option VX} {Kv : KV}, evOpsY P call Yv l T ys h pd Kv = some x → ∀ {K : KO}, (∀ T ys h pd, Kv T ys h pd = some x → K T ys h pd) → vopsY P Y l T ys h pd K
  | [], _, _, _, _, _, he, _, hk => hk _ _ _ _ he
  | o :: R, T, ys, h, pd, Kv, he, K, hk => by
    unfold evOpsY evGoY at he
    show vgoY P Y o T ys h pd _
    unfold vgoY
    split at he
    · rename_i d hyo; simp only [hyo]; exact evOpsY_sound hc he hk
    · rename_i args hyo
      simp only [hyo]
      split at he
      · rename_i vs hvs
        exact ⟨rfl, vs, hvs, hY _ _ _ _ he fun pd' h' he' => evOpsY_sound hc he' hk⟩
      · cases he
    · rename_i hyo
      simp only [hyo]
      split at he
      · rename_i T' h' hg; exact evGo_sound hc hg (evOpsY_sound hc he hk)
      · cases he

theorem evY_sound (hc : Tells P call) {n : Nat} : ∀ (f : Nat) (c : VCode) (Kv : VX → KV) (T : Sl) (ys : List Tmp) (h : AHeap) (pd : Option VX), evY P call n Yv f c Kv T ys h pd = some x → ∀ {Q : KY}, (∀ e T ys h pd, Kv e T ys h pd = some x → Q e T ys h pd) → vwpY P n Y c Q T ys h pd := by
  intro f
  induction f using Nat.strongRecOn with
  | _ f0 ih0 =>
    intro c K T ys h pd he Q hq
    cases f0 with
    | zero => cases he
    | succ f =>
    have ih := ih0 f (Nat.lt_succ_self f)
    cases c with
    | skip => exact hq _ _ _ _ _ he
    | ops l =>
      simp only [evY] at he
      exact evOpsY_sound hY hc he fun _ _ _ _ hk => hq _ _ _ _ _ hk
    | seq a b =>
      simp only [evY] at he
      refine ih a _ T ys h pd he fun e T ys h pd hk => ?_
      cases e with
      | normal => exact ih b K T ys h pd hk hq
      | exit id => exact hq _ _ _ _ _ hk
      | ret => exact hq _ _ _ _ _ hk
    | cond c a b =>
      simp only [evY] at he
      show vcond _ _ _
      split at he
      · rename_i t ho
        rw [ho]
        cases t with
        | true => exact ⟨fun _ => ih a K T ys h pd he hq, fun e => by cases e⟩
        | false => exact ⟨fun e => (by cases e), fun _ => ih b K T ys h pd he hq⟩
      · cases he
    | block id c =>
      simp only [evY] at he
      refine ih c _ T ys h pd he fun e T ys h pd hk => ?_
      cases e with
      | normal => exact hq _ _ _ _ _ hk
      | exit id' =>
        show (if id' = id then Q .normal else Q (.exit id')) T ys h pd
        simp only at hk
        split at hk
        · rename_i e; rw [if_pos e]; exact hq _ _ _ _ _ hk
        · rename_i e; rw [if_neg e]; exact hq _ _ _ _ _ hk
      | ret => exact hq _ _ _ _ _ hk
    | loop c =>
      let B : Nat → VX → KV := fun g e T ys h pd => match e with
        | .normal => evY P call n Yv g (.loop c) K T ys h pd
        | e => K e T ys h pd
      have start : ∀ (g : Nat) (T : Sl) (ys : List Tmp) (h : AHeap) (pd : Option VX), evY P call n Yv (g + 1) (.loop c) K T ys h pd = some x → ∃ T0 h0, Keep n T h T0 h0 ∧ evY P call n Yv g c (B g) T0 ys h0 pd = some x := by
        intro g T ys h pd hg
        simp only [evY] at hg
        split at hg
        · rename_i T0 h0 hk; exact ⟨T0, h0, evKeep_sound hk, hg⟩
        · cases hg
      obtain ⟨T0, h0, hk, hv⟩ := start f T ys h pd he
      refine ⟨fun g T ys h pd => g ≤ f ∧ evY P call n Yv g c (B g) T ys h pd = some x, ⟨f, T0, h0, hk, Nat.le_refl _, hv⟩, ?_⟩
      rintro g T ys h pd ⟨hg, hv⟩
      refine ih0 g (Nat.lt_succ_of_le hg) c (B g) T ys h pd hv fun e T ys h pd hk => ?_
      cases e with
      | normal =>
        cases g with
        | zero => cases hk
        | succ m =>
          obtain ⟨T1, h1, k1, v1⟩ := start m T ys h pd hk
          exact ⟨m, T1, h1, Nat.lt_succ_self m, k1, by omega, v1⟩
      | exit id => exact hq _ _ _ _ _ hk
      | ret => exact hq _ _ _ _ _ hk
    | exit id => exact hq _ _ _ _ _ he
    | ret => exact hq _ _ _ _ _ he
    | _ => cases he
end

theorem ev_sound (hc : Tells P call) {x : Res2} : ∀ (f : Nat) {n : Nat} (c : VCode) (K : VX → Sl → AHeap → Option Res2) (T : Sl) (h : AHeap), ev P call n f c K T h = some x → ∀ {Q : VX → Sl → AHeap → Prop}, (∀ e T h, K e T h = some x → Q e T h) → vwp P n c Q T h := by
  intro f
  induction f using Nat.strongRecOn with
  | _ f0 ih0 =>
    intro n c K T h he Q hq
    cases f0 with
    | zero => cases he
    | succ f =>
    have ih := @ih0 f (Nat.lt_succ_self f)
    cases c with
    | skip => exact hq _ _ _ he
    | ops l =>
      simp only [ev] at he
      exact evOpsC_sound hc he fun T h hk => hq _ _ _ hk
    | opsW l ob =>
      simp only [ev] at he
      split at he
      · rename_i T' h' ho; exact evOpsW_sound hc ho (hq _ _ _ he)
      · cases he
    | opsB t ob =>
      simp only [ev] at he
      exact evOpsB_sound hc he fun T h hk => hq _ _ _ hk
    | opsK t ob =>
      simp only [ev] at he
      split at he
      · rename_i T' h' ho; exact vopsB_mono (fun T h hk => ⟨_, _, hk, hq _ _ _ he⟩) (evOpsK_sound hc ho)
      · cases he
    | both a b =>
      simp only [ev] at he
      split at he
      · rename_i y z h1 h2
        split at he
        · rename_i hb
          cases he
          have := beqR_eq hb
          subst this
          exact ⟨ih a K T h h1 hq, ih b K T h h2 hq⟩
        · cases he
      · cases he
    | seq a b =>
      simp only [ev] at he
      refine ih a _ T h he fun e T h hk => ?_
      cases e with
      | normal => exact ih b K T h hk hq
      | exit id => exact hq _ _ _ hk
      | ret => exact hq _ _ _ hk
    | cond c a b =>
      simp only [ev] at he
      show vcond _ _ _
      split at he
      · rename_i t ho
        rw [ho]
        cases t with
        | true => exact ⟨fun _ => ih a K T h he hq, fun e => by cases e⟩
        | false => exact ⟨fun e => (by cases e), fun _ => ih b K T h he hq⟩
      · cases he
    | block id c =>
      simp only [ev] at he
      refine ih c _ T h he fun e T h hk => ?_
      cases e with
      | normal => exact hq _ _ _ hk
      | exit id' =>
        show if id' = id then Q .normal T h else Q (.exit id') T h
        simp only at hk
        split at hk
        · rename_i e; rw [if_pos e]; exact hq _ _ _ hk
        · rename_i e; rw [if_neg e]; exact hq _ _ _ hk
      | ret => exact hq _ _ _ hk
    | loop c =>
      let B : Nat → VX → Sl → AHeap → Option Res2 := fun g e T h => match e with
        | .normal => ev P call n g (.loop c) K T h
        | e => K e T h
      have start : ∀ (g : Nat) (T : Sl) (h : AHeap), ev P call n (g + 1) (.loop c) K T h = some x → ∃ T0 h0, Keep n T h T0 h0 ∧ ev P call n g c (B g) T0 h0 = some x := by
        intro g T h hg
        simp only [ev] at hg
        split at hg
        · rename_i T0 h0 hk; exact ⟨T0, h0, evKeep_sound hk, hg⟩
        · cases hg
      obtain ⟨T0, h0, hk, hv⟩ := start f T h he
      refine ⟨fun g T h => g ≤ f ∧ ev P call n g c (B g) T h = some x, ⟨f, T0, h0, hk, Nat.le_refl _, hv⟩, ?_⟩
      rintro g T h ⟨hg, hv⟩
      refine ih0 g (Nat.lt_succ_of_le hg) c (B g) T h hv fun e T h hk => ?_
      cases e with
      | normal =>
        cases g with
        | zero => cases hk
        | succ m =>
          obtain ⟨T1, h1, k1, v1⟩ := start m T h hk
          exact ⟨m, T1, h1, Nat.lt_succ_self m, k1, by omega, v1⟩
      | exit id => exact hq _ _ _ hk
      | ret => exact hq _ _ _ hk
    | exit id => exact hq _ _ _ he
    | ret => exact hq _ _ _ he
    | bad => cases he
    | rangeF g ps a b =>
      simp only [ev] at he
      split at he
      · rename_i g' caps hg
        split at he
        · rename_i hcap
          split at he
          · rename_i N it hit
            split at he
            · rename_i hlt
              refine ⟨g', caps, N, it, hg, hcap, itOf_ok hit, hlt, evY_sound (fun vs h Kv K' he' hk' => ?_) hc f it _ _ _ _ _ he fun e T' ys' h' pd' hk => ?_⟩
              · split at he'
                · rename_i hl
                  refine ⟨hl, ih a _ _ _ he' fun e T h hk => ?_⟩
                  cases e with
                  | normal =>
                    refine ih b _ _ _ hk fun e T h hk => ?_
                    cases e with
                    | normal => exact hk' _ _ hk
                    | exit id => exact hk' _ _ hk
                    | ret => exact hk' _ _ hk
                  | exit id => cases hk
                  | ret => cases hk
                · cases he'
              · cases e with
                | exit id => cases hk
                | normal => cases pd' <;> exact hq _ _ _ hk
                | ret => cases pd' <;> exact hq _ _ _ hk
            · cases he
          · cases he
        · cases he
      · cases he

theorem evEnd_sound {n : Nat} {rs : List ResultVar} {r : V} {h0 : AHeap} {Post : V → AHeap → Prop} (hp : Post r h0) {e : VX} {T : Sl} {h : AHeap} (he : evEnd P n rs e T h = some (r, h0)) : vend P n rs Post e T h := by
  cases e with
  | exit id => cases he
  | normal =>
    simp only [evEnd] at he
    split at he
    · rename_i vs hv; exact ⟨vs, [], h, vone vs, h, _, r, h0, hv, rfl, WkV.refl _, WkH.refl _, he, hp⟩
    · cases he
  | ret =>
    simp only [evEnd] at he
    split at he
    · rename_i vs hv; exact ⟨vs, [], h, vone vs, h, _, r, h0, hv, rfl, WkV.refl _, WkH.refl _, he, hp⟩
    · cases he

theorem wkNL_wk (l : L) : WkL l (wkNL l) := by
  unfold wkNL
  split
  · exact .inr (.inl ⟨rfl, rfl⟩)
  · exact .inl rfl
theorem wkNLs_wk : ∀ ls : List L, WkLs ls (wkNLs ls)
  | [] => trivial
  | l :: r => ⟨wkNL_wk l, wkNLs_wk r⟩
mutual
theorem wkNV_wk : ∀ v : V, WkV v (wkNV v)
  | .one l => by unfold wkNV WkV; exact wkNL_wk l
  | .agg ls => by unfold wkNV WkV; exact wkNLs_wk ls
  | .tup vs => by unfold wkNV WkV; exact wkNVs_wk vs
theorem wkNVs_wk : ∀ vs : List V, WkV.all vs (wkNVs vs)
  | [] => trivial
  | v :: r => ⟨wkNV_wk v, wkNVs_wk r⟩
end

theorem evEndD_sound {n : Nat} {rs : List ResultVar} {r : V} {h0 : AHeap} {Post : V → AHeap → Prop} (hp : Post r h0) {e : VX} {T : Sl} {h : AHeap} (he : evEndD P n rs e T h = some (r, h0)) : vend P n rs Post e T h := by
  cases e with
  | exit id => cases he
  | normal =>
    simp only [evEndD] at he
    split at he
    · rename_i vs hv; exact ⟨vs, [], h, wkNV (vone vs), h, _, r, h0, hv, rfl, wkNV_wk _, WkH.refl _, he, hp⟩
    · cases he
  | ret =>
    simp only [evEndD] at he
    split at he
    · rename_i vs hv; exact ⟨vs, [], h, wkNV (vone vs), h, _, r, h0, hv, rfl, wkNV_wk _, WkH.refl _, he, hp⟩
    · cases he

def TblOk (P : Program) (tbl : Tbl) : Prop := ∀ f N vc rs, tbl f = some (N, vc, rs) → FnOk P f N vc rs

theorem evFn_tells (hm : P.follows .mixedOrders = true) {tbl : Tbl} (ht : TblOk P tbl) {fuel : Nat} : ∀ d, Tells P (evFn P tbl fuel d)
  | 0 => fun f avs h r h' he => by cases he
  | d + 1 => fun f avs h r h' he => by
    simp only [evFn] at he
    split at he
    · rename_i N vc rs hf
      split at he
      · rename_i hlen
        exact VC_of_fn hm (ht f N vc rs hf) hlen (ev_sound (evFn_tells hm ht d) fuel vc _ _ _ he fun e T h hk => evEnd_sound ⟨rfl, rfl⟩ hk)
      · cases he
    · cases he

def lookF : List (Nat × Nat × VCode × List ResultVar) → Tbl
  | [], _ => none
  | (g, x) :: r, f => match Nat.beq f g with
    | true => some x
    | false => lookF r f

def AllOk (P : Program) : List (Nat × Nat × VCode × List ResultVar) → Prop
  | [] => True
  | (g, N, vc, rs) :: r => FnOk P g N vc rs ∧ AllOk P r

theorem lookF_ok {P : Program} : ∀ {l : List (Nat × Nat × VCode × List ResultVar)}, AllOk P l → TblOk P (lookF l)
  | [], _ => fun f N vc rs h => by cases h
  | (g, x) :: r, ha => fun f N vc rs h => by
    unfold lookF at h
    split at h
    · rename_i e
      have := nat_beq e
      subst this
      cases h
      exact ha.1
    · exact lookF_ok ha.2 f N vc rs h

end Go.Vt
