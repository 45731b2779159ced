/- Own framework, part 7: contracts, and what a caller gets of one. -/
import Derived.Test.YthbfemghbckipaaGreatVtVop2
import Derived.Test.YthbfemghbckipaaGreatVtWk
namespace Go.Vt

/-- A function with a body, which the model does not stand in for. -/
def callable (P : Program) (f : FuncId) : Bool := match P.funcs[f]? with
  | some fn => fn.name != "runtime.NumGoroutine" && fn.body.isSome
  | none => false

/-- **A contract**: called with values of which this is known, over these objects, the function returns, and the result and the objects are as 'Post' says. -/
def VC (P : Program) (f : FuncId) (avs : List V) (h : AHeap) (Post : V → AHeap → Prop) : Prop :=
  callable P f = true ∧ ∀ (w : World) (μ : Pl) (args : Array Value), HRep w μ h → avs.length = args.size → (∀ (j : Nat) (v : V) (x : Value), avs[j]? = some v → args[j]? = some x → RepV w μ h v x) →
    CallsIn Fence.wide 0 P f args w fun e w' => ∃ r x h' μ', e = .returned x ∧ Post r h' ∧ HRep w' μ' h' ∧ RepV w' μ' h' r x ∧ Good w μ h w' μ' h'

theorem VC.mono {P : Program} {f : FuncId} {avs : List V} {h : AHeap} {Post Post' : V → AHeap → Prop} (hc : VC P f avs h Post) (hp : ∀ r h', Post r h' → Post' r h') : VC P f avs h Post' :=
  ⟨hc.1, fun w μ args H hl ha => (hc.2 w μ args H hl ha).mono fun _ _ ⟨r, x, h', μ', e, p, a, b, c⟩ => ⟨r, x, h', μ', e, hp _ _ p, a, b, c⟩⟩

/-- The place of an object among those that are handed on. -/
def idx : List Nat → Nat → Option Nat
  | [], _ => none
  | i :: r, id => if i = id then some 0 else (idx r id).map (· + 1)

/-- Other names for objects. -/
def renL (m : Nat → Option Nat) : L → Option L
  | .d x => some (.d x)
  | .nils => some .nils
  | .own id ver len => (m id).map fun k => .own k ver len
  | .ptr id off => (m id).map fun k => .ptr k off
  | .ept id ver i j => (m id).map fun k => .ept k ver i j
  | .ref cells => some (.ref cells)
  | .fn f caps => (renLs m caps).map (.fn f)
  | .nilf => some .nilf
  | .any => some .any
  where
  renLs (m : Nat → Option Nat) : List L → Option (List L)
    | [] => some []
    | l :: r => match renL m l, renLs m r with
      | some x, some xs => some (x :: xs)
      | _, _ => none

/-- An argument: a slice over an object that is not handed on is read as data. -/
def lendL (h : AHeap) (ids : List Nat) : L → Option L
  | .own id ver len => match idx ids id with
    | some k => some (.own k ver len)
    | none => match h[id]? with
      | some (.arr _ _ ver' xs) => if ver' = ver then some (.d (.sl (xs.take len))) else none
      | _ => none
  | l => renL (idx ids) l

def lendLs (h : AHeap) (ids : List Nat) : List L → Option (List L)
  | [] => some []
  | l :: r => match lendL h ids l, lendLs h ids r with
    | some x, some xs => some (x :: xs)
    | _, _ => none

def lendV (h : AHeap) (ids : List Nat) : V → Option V
  | .one l => (lendL h ids l).map .one
  | .agg ls => (lendLs h ids ls).map .agg
  | .tup _ => none

def lendVs (h : AHeap) (ids : List Nat) : List V → Option (List V)
  | [] => some []
  | v :: r => match lendV h ids v, lendVs h ids r with
    | some x, some xs => some (x :: xs)
    | _, _ => none

/-- The slices that are lent. -/
def lentL (ids : List Nat) : L → List Nat
  | .own id _ _ => match idx ids id with
    | some _ => []
    | none => [id]
  | _ => []

def lentLs (ids : List Nat) : List L → List Nat
  | [] => []
  | l :: r => lentL ids l ++ lentLs ids r

def lentV (ids : List Nat) : V → List Nat
  | .one l => lentL ids l
  | .agg ls => lentLs ids ls
  | .tup _ => []

def lentVs (ids : List Nat) : List V → List Nat
  | [] => []
  | v :: r => lentV ids v ++ lentVs ids r

def renO (m : Nat → Option Nat) : AObj → Option AObj
  | .box cells => (renL.renLs m cells).map .box
  | o => some o

def renV (m : Nat → Option Nat) : V → Option V
  | .one l => (renL m l).map .one
  | .agg ls => (renL.renLs m ls).map .agg
  | .tup vs => (renVs m vs).map .tup
  where
  renVs (m : Nat → Option Nat) : List V → Option (List V)
    | [] => some []
    | v :: r => match renV m v, renVs m r with
      | some x, some xs => some (x :: xs)
      | _, _ => none

/-- The objects that are handed on, by their new names. -/
def handO (h : AHeap) (m : Nat → Option Nat) : List Nat → Option AHeap
  | [] => some []
  | id :: r => match h[id]? with
    | some o => match renO m o, handO h m r with
      | some x, some xs => some (x :: xs)
      | _, _ => none
    | none => none

/-- The names that the callee's objects have here. -/
def homeId (ids : List Nat) (n : Nat) (k : Nat) : Option Nat := match ids[k]? with
  | some id => some id
  | none => some (n + (k - ids.length))

def renOs (m : Nat → Option Nat) : AHeap → Option AHeap
  | [] => some []
  | o :: r => match renO m o, renOs m r with
    | some x, some xs => some (x :: xs)
    | _, _ => none

/-- Objects put back at their places. -/
def putBack (h : AHeap) : List Nat → AHeap → AHeap
  | id :: r, o :: os => putBack (h.set id o) r os
  | _, _ => h

def fzIds (h : AHeap) : List Nat → AHeap
  | [] => h
  | id :: r => fzIds (fzOne h id) r

/-- Does nothing of it lead to memory? -/
def flatL : L → Bool
  | .d (.bool _) => true
  | .d (.int _ _) => true
  | .d (.str _) => true
  | .d .nilp => true
  | .nils => true
  | .nilf => true
  | _ => false

def flatV : V → Bool
  | .one l => flatL l
  | .agg ls => ls.all flatL
  | .tup vs => flatVs vs
  where
  flatVs : List V → Bool
    | [] => true
    | v :: r => flatV v && flatVs r

/-- What a call comes to, for the caller. -/
def back (h : AHeap) (ids lent : List Nat) (r : V) (hs : AHeap) : Option (V × AHeap) :=
  if ids.isEmpty && flatV r && hs.isEmpty then some (r, h) else
  match renV (homeId ids h.length) r, renOs (homeId ids h.length) hs with
  | some r', some os => some (r', putBack (fzIds h lent) ids (os.take ids.length) ++ os.drop ids.length)
  | _, _ => none

def nodup : List Nat → Bool
  | [] => true
  | x :: r => !r.contains x && nodup r

/-- **A call**: what is handed on is chosen; the contract; the rest. -/
def vcall0 (P : Program) (f : FuncId) (avs : List V) (h : AHeap) (K : V → AHeap → Prop) : Prop :=
  ∃ (ids : List Nat) (avs' : List V) (hs : AHeap) (Post : V → AHeap → Prop), nodup ids = true ∧ lendVs h ids avs = some avs' ∧ handO h (idx ids) ids = some hs ∧ VC P f avs' hs Post ∧
    ∀ r hs', Post r hs' → ∃ r' h', back h ids (lentVs ids avs) r hs' = some (r', h') ∧ K r' h'

/-- A nil slice in a variable seen as a slice of its own that has no array yet. -/
def nilOwn (h : AHeap) (id k sz : Nat) : Option AHeap := match h[id]? with
  | some (.box cs) => match cs[k]? with
    | some .nils => some ((h ++ [AObj.arr false sz 0 []]).set id (.box (cs.set k (.own h.length 0 0))))
    | _ => none
  | _ => none

def nilOwns (h : AHeap) : List (Nat × Nat × Nat) → Option AHeap
  | [] => some h
  | (id, k, sz) :: r => match nilOwn h id k sz with
    | some h' => nilOwns h' r
    | none => none

/-- A call, with nil slices in variables seen as one's own, and with less known of what is handed over. -/
def vcall (P : Program) (f : FuncId) (avs : List V) (h : AHeap) (K : V → AHeap → Prop) : Prop :=
  ∃ (bs : List (Nat × Nat × Nat)) (hn : AHeap) (avs1 : List V) (h1 : AHeap), nilOwns h bs = some hn ∧ WkV.all avs avs1 ∧ WkH hn h1 ∧ vcall0 P f avs1 h1 K

end Go.Vt
