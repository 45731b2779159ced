/- Own framework, part 2: what each operation does to abstract values. -/
import Derived.Test.YtladjgdhpfcmjaaGreatDoorVtBase
namespace Go.Vt

inductive TK where
  | int (k : IntKind)
  | bool
  | str
  | slice
  | struct
  | ptr
  | func
  | arr
  | other
  deriving DecidableEq

structure EI where
  size : Nat
  bytes : Nat
  zero : Option V
  agg : Bool

structure TI where
  size : Nat
  bytes : Nat
  agg : Bool
  zero : Option V
  kd : TK
  flds : List (Nat × Nat × Bool)
  el : Option EI

def absL : Value → Option L
  | .bool b => some (.d (.bool b))
  | .int k n => some (.d (.int k n))
  | .string s => some (.d (.str s))
  | .slice none 0 0 => some .nils
  | .pointer none => some (.d .nilp)
  | .nilFunc => some .nilf
  | .nilIface => some .nili
  | _ => none

def absLs : List Value → Option (List L)
  | [] => some []
  | v :: r => match absL v, absLs r with
    | some l, some ls => some (l :: ls)
    | _, _ => none

def absV : Value → Option V
  | .agg cs => (absLs cs.toList).map .agg
  | v => (absL v).map .one

def descAgg : TypeDesc → Bool
  | .struct _ | .array _ _ => true
  | _ => false

def descKd : TypeDesc → TK
  | .int k => .int k
  | .bool => .bool
  | .string => .str
  | .slice _ => .slice
  | .struct _ => .struct
  | .pointer _ => .ptr
  | .func _ _ _ => .func
  | .array _ _ => .arr
  | _ => .other

def fldOf (P : Program) (f : Field) : Option (Nat × Nat × Bool) :=
  match P.info? f.type, P.underlying f.type with
  | some i, some d => some (f.offset, i.size, descAgg d)
  | _, _ => none

def fldsOf (P : Program) : List Field → Option (List (Nat × Nat × Bool))
  | [] => some []
  | f :: r => match fldOf P f, fldsOf P r with
    | some x, some xs => some (x :: xs)
    | _, _ => none

def fldsArr (P : Program) (n : Nat) (e : TypeId) : Option (List (Nat × Nat × Bool)) :=
  match P.info? e, P.underlying e with
  | some i, some d => some ((List.range n).map fun k => (k * i.size, i.size, descAgg d))
  | _, _ => none

def eiOf (P : Program) (e : TypeId) : Option EI :=
  match P.info? e, P.underlying e with
  | some i, some d => some { size := i.size, bytes := i.bytes, zero := i.zero.bind absV, agg := descAgg d }
  | _, _ => none

def ti (P : Program) (t : TypeId) : Option TI :=
  match P.info? t, P.underlying t with
  | some i, some d =>
    match (match d with | .struct fs => fldsOf P fs.toList | .array n e => fldsArr P n e | _ => some []) with
    | some fl => some { size := i.size, bytes := i.bytes, agg := descAgg d, zero := i.zero.bind absV, kd := descKd d, flds := fl, el := match d with | .slice e => eiOf P e | _ => none }
    | none => none
  | _, _ => none

def selfPtr (P : Program) (e : TypeId) : Bool := match P.underlying e with
  | some (.struct fs) => match fs[0]? with
    | some f => f.offset == 0 && (match P.underlying f.type with | some (.pointer x) => x == e | _ => false)
    | none => false
  | _ => false

def bty (P : Program) (e : TypeId) : Option TypeId := if selfPtr P e = true then some e else match P.underlying e with
  | some (.struct fs) => match fs[0]? with
    | some f => if (f.offset == 0 && selfPtr P f.type) = true then some e else none
    | none => none
  | _ => none

def bobj (P : Program) (e : TypeId) (ls : List L) : AObj := match bty P e with
  | none => .box ls
  | some _ => .bx (some e) ls

theorem bobj_none {P : Program} {e : TypeId} {ls : List L} (h : bty P e = none) : bobj P e ls = .box ls := by unfold bobj; rw [h]
theorem bobj_bx (P : Program) (e : TypeId) (ls : List L) : ∃ t, bobj P e ls = .bx t ls ∧ (t = none ∨ t = some e) := by
  unfold bobj
  split
  · exact ⟨none, rfl, .inl rfl⟩
  · exact ⟨some e, rfl, .inr rfl⟩

abbrev Sl := List (Nat × V)

def opd (T : Sl) : Operand → Option V
  | .tmp t => T.lookup t
  | .const v => absV v
  | .func f => some (.one (.fn f []))
  | .global _ => none

def known : V → Bool
  | .one .any => false
  | _ => true

def mkV (i : TI) (ls : List L) : Option V :=
  if i.agg then (if i.size ≤ ls.length then some (.agg (ls.take i.size)) else none)
  else match ls with
    | l :: _ => some (.one l)
    | [] => none

def vcells : V → Option (List L)
  | .one l => some [l]
  | .agg ls => some ls
  | .tup _ => none

def vload (h : AHeap) (i : TI) : L → Option V
  | .ptr id off => match h[id]? with
    | some (.bx ty cells) => mkV i (cells.drop off)
    | _ => none
  | .ept id ver k j => match h[id]? with
    | some (.ar ty _ _ ver' xs) => if ver' = ver then (match xs[k]? with | some e => mkV i ((e.drop j).map .d) | none => none) else none
    | _ => none
  | .ref cells => mkV i (cells.map .d)
  | _ => none

def AObj.freeze : AObj → AObj
  | .ar ty _ sz ver xs => .ar ty true sz ver xs
  | o => o

def fzOne (h : AHeap) (id : Nat) : AHeap := match h[id]? with
  | some o => h.set id o.freeze
  | none => h

def fzL (h : AHeap) : L → AHeap
  | .own id _ _ => fzOne h id
  | _ => h

def fzLs (h : AHeap) : List L → AHeap
  | [] => h
  | l :: r => fzLs (fzL h l) r

def toD (h : AHeap) : L → Option D
  | .d x => some x
  | .nils => some (.sl [])
  | .own id ver len => match h[id]? with
    | some (.ar ty true _ ver' xs) => if ver' = ver then some (.sl (xs.take len)) else none
    | _ => none
  | _ => none

def toDs (h : AHeap) : List L → Option (List D)
  | [] => some []
  | l :: r => match toD h l, toDs h r with
    | some x, some xs => some (x :: xs)
    | _, _ => none

def splice {α : Type} (cs : List α) (off : Nat) (vs : List α) : List α := cs.take off ++ vs ++ cs.drop (off + vs.length)

def vstore (h : AHeap) (i : TI) (p : L) (v : V) : Option AHeap :=
  match vcells v with
  | none => none
  | some vs =>
    if vs.length = i.size then
      match p with
      | .ptr id off => match h[id]? with
        | some (.bx ty cells) => if off + vs.length ≤ cells.length then some (h.set id (.bx ty (splice cells off vs))) else none
        | _ => none
      | .ept id ver k j =>
        match toDs (fzLs h vs) vs, (fzLs h vs)[id]? with
        | some ds, some (.ar ty false sz ver' xs) =>
          if ver' = ver then
            (match xs[k]? with
             | some e => if j + ds.length ≤ e.length then some ((fzLs h vs).set id (.ar ty false sz ver (xs.set k (splice e j ds)))) else none
             | none => none)
          else none
        | _, _ => none
      | _ => none
    else none

def vfieldAddr (h : AHeap) (off : Nat) : L → Option L
  | .ptr id o => match h[id]? with
    | some (.bx ty cells) => if o + off ≤ cells.length then some (.ptr id (o + off)) else none
    | _ => none
  | .ept id ver k j => match h[id]? with
    | some (.ar ty _ sz ver' _) => if ver' = ver ∧ j + off ≤ sz then some (.ept id ver k (j + off)) else none
    | _ => none
  | .ref cells => some (.ref (cells.drop off))
  | _ => none

def vindexAddr (h : AHeap) (size : Nat) (n : Int) : L → Option L
  | .d (.sl xs) => if 0 ≤ n then (match xs[n.toNat]? with | some e => if e.length = size then some (.ref e) else none | none => none) else none
  | .own id ver len => match h[id]? with
    | some (.ar ty _ sz ver' _) => if ver' = ver ∧ sz = size ∧ 0 ≤ n ∧ n < len then some (.ept id ver n.toNat 0) else none
    | _ => none
  | .bsl id off len => match h[id]? with
    | some (.bx _ _) => if size = 1 ∧ 0 ≤ n ∧ n < len then some (.ptr id (off + n.toNat)) else none
    | _ => none
  | .osl id ver off len => match h[id]? with
    | some (.ar ty _ sz ver' _) => if ver' = ver ∧ sz = size ∧ 0 ≤ n ∧ n < len then some (.ept id ver (off + n.toNat) 0) else none
    | _ => none
  | _ => none

def vfill (fs : List (Nat × Nat × Bool)) : List L → List (Nat × V) → Option (List L)
  | cells, [] => some cells
  | cells, (k, v) :: rest =>
    match fs[k]?, vcells v with
    | some f, some vs => if known v = true ∧ vs.length = f.2.1 ∧ f.1 + vs.length ≤ cells.length then vfill fs (splice cells f.1 vs) rest else none
    | _, _ => none

def vbuild (i : TI) (parts : List (Nat × V)) : Option V :=
  match i.kd, i.zero with
  | .struct, some (.agg z) => (vfill i.flds z parts).map .agg
  | .arr, some (.agg z) => (vfill i.flds z parts).map .agg
  | _, _ => none

def opds (T : Sl) : List Operand → Option (List V)
  | [] => some []
  | x :: r => match opd T x, opds T r with
    | some v, some vs => some (v :: vs)
    | _, _ => none

def opdPairs (T : Sl) : List (Nat × Operand) → Option (List (Nat × V))
  | [] => some []
  | (k, x) :: r => match opd T x, opdPairs T r with
    | some v, some vs => some ((k, v) :: vs)
    | _, _ => none

def vrows (h : AHeap) (size : Nat) : Nat → List (Nat × V) → Option (List (List D))
  | _, [] => some []
  | n, (k, v) :: rest =>
    if k = n then
      match vcells v with
      | some vs => match toDs h vs, vrows h size (n + 1) rest with
        | some ds, some r => if ds.length = size then some (ds :: r) else none
        | _, _ => none
      | none => none
    else none

def fzVs (h : AHeap) : List (Nat × V) → AHeap
  | [] => h
  | (_, v) :: rest => match vcells v with
    | some vs => fzVs (fzLs h vs) rest
    | none => fzVs h rest

def vint (op : BinOp) (k : IntKind) (x y : Int) : Option D :=
  match op with
  | .add => some (.int k (k.wrap (x + y)))
  | .sub => some (.int k (k.wrap (x - y)))
  | .mul => some (.int k (k.wrap (x * y)))
  | .eql => some (.bool (x == y))
  | .neq => some (.bool (x != y))
  | .lss => some (.bool (decide (x < y)))
  | .leq => some (.bool (decide (x ≤ y)))
  | .gtr => some (.bool (decide (x > y)))
  | .geq => some (.bool (decide (x ≥ y)))
  | .shr => if 0 ≤ y ∧ y.toNat ≤ k.bits then some (.int k (x.fdiv (2 ^ y.toNat))) else none
  | _ => none

def vstr (op : BinOp) (x y : ByteArray) : Option D :=
  match op with
  | .eql => some (.bool (decide (x = y)))
  | .neq => some (.bool (!decide (x = y)))
  | .lss => some (.bool (Op.bytesLess x.toList y.toList))
  | .leq => some (.bool (Op.bytesLess x.toList y.toList || x.toList == y.toList))
  | .gtr => some (.bool !(Op.bytesLess x.toList y.toList || x.toList == y.toList))
  | .geq => some (.bool !(Op.bytesLess x.toList y.toList))
  | .add => if x.size + y.size ≤ 9223372036854775807 then some (.str (x ++ y)) else none
  | _ => none

def visNil (h : AHeap) : L → Option Bool
  | .d .nilp => some true
  | .ptr id _ => match h[id]? with
    | some (.bx _ _) => some false
    | _ => none
  | .ept id ver _ _ => match h[id]? with
    | some (.ar ty _ _ ver' _) => if ver' = ver then some false else none
    | _ => none
  | .ref _ => some false
  | .nilf => some true
  | .fn _ _ => some false
  | _ => none

def visNilP (h : AHeap) : L → Option Bool
  | .fn _ _ => none
  | .nilf => none
  | l => visNil h l

def vbin (h : AHeap) (kd : TK) (op : BinOp) : V → V → Option D
  | .one (.d (.int k x)), .one (.d (.int k' y)) => if k = k' then vint op k x y else none
  | .one (.d (.str x)), .one (.d (.str y)) => vstr op x y
  | .one (.d (.bool x)), .one (.d (.bool y)) => match kd, op with
    | .bool, .eql => some (.bool (x == y))
    | .bool, .neq => some (.bool (x != y))
    | _, _ => none
  | .one l, .one (.d .nilp) => match kd, op, visNilP h l with
    | .ptr, .eql, some b => some (.bool b)
    | .ptr, .neq, some b => some (.bool (!b))
    | _, _, _ => none
  | _, _ => none

end Go.Vt
