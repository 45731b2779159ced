/- The environment laws: types, target types, target terms, structures, and their cells. -/
import Derived.Test.YtdabfkmhkoppcaaGreatDoorVtSeat
namespace Go.Vt

def txts (l : List ByteArray) : List (List D) := l.map fun s => [.str s]
def nums (l : List Int) : List (List D) := l.map fun n => [.int .i64 n]
theorem txts_length (l : List ByteArray) : (txts l).length = l.length := by simp [txts]
theorem nums_length (l : List Int) : (nums l).length = l.length := by simp [nums]

/-- A type. -/
inductive Ty where
  | mk (kind n : Int) (kids : List Ty)
/-- A target type. -/
inductive Tt where
  | mk (kind n : Int) (labels : List ByteArray) (kids : List Tt)
/-- A target term. -/
inductive Tm where
  | mk (kind n i : Int) (name : ByteArray) (labels : List ByteArray) (types : List Tt) (kids : List Tm)

theorem Ty.ind {P : Ty → Prop} (h : ∀ k n l, (∀ t ∈ l, P t) → P (.mk k n l)) : ∀ t, P t
  | .mk k n l => h k n l fun t _ => Ty.ind h t
  termination_by u => SizeOf.sizeOf u
  decreasing_by
  have := List.sizeOf_lt_of_mem ‹_›
  simp; omega
theorem Tt.ind {P : Tt → Prop} (h : ∀ k n ls l, (∀ t ∈ l, P t) → P (.mk k n ls l)) : ∀ t, P t
  | .mk k n ls l => h k n ls l fun t _ => Tt.ind h t
  termination_by u => SizeOf.sizeOf u
  decreasing_by
  have := List.sizeOf_lt_of_mem ‹_›
  simp; omega
theorem Tm.ind {P : Tm → Prop} (h : ∀ k n i s ls ts l, (∀ t ∈ l, P t) → P (.mk k n i s ls ts l)) : ∀ t, P t
  | .mk k n i s ls ts l => h k n i s ls ts l fun t _ => Tm.ind h t
  termination_by u => SizeOf.sizeOf u
  decreasing_by
  have := List.sizeOf_lt_of_mem ‹_›
  simp; omega

def encTy : Ty → List D
  | .mk k n l => [.int .i64 k, .int .i64 n, .sl (encs l)]
  where
  encs : List Ty → List (List D)
    | [] => []
    | t :: r => encTy t :: encs r
def encTt : Tt → List D
  | .mk k n ls l => [.int .i64 k, .int .i64 n, .sl (txts ls), .sl (encs l)]
  where
  encs : List Tt → List (List D)
    | [] => []
    | t :: r => encTt t :: encs r
def encTm : Tm → List D
  | .mk k n i s ls ts l => [.int .i64 k, .int .i64 n, .int .i64 i, .str s, .sl (txts ls), .sl (encTt.encs ts), .sl (encs l)]
  where
  encs : List Tm → List (List D)
    | [] => []
    | t :: r => encTm t :: encs r
theorem encsTy : ∀ l, encTy.encs l = l.map encTy
  | [] => rfl
  | _ :: r => by simp [encTy.encs, encsTy r]
theorem encsTt : ∀ l, encTt.encs l = l.map encTt
  | [] => rfl
  | _ :: r => by simp [encTt.encs, encsTt r]
theorem encsTm : ∀ l, encTm.encs l = l.map encTm
  | [] => rfl
  | _ :: r => by simp [encTm.encs, encsTm r]
theorem encsTy_length (l : List Ty) : (encTy.encs l).length = l.length := by simp [encsTy]
theorem encsTt_length (l : List Tt) : (encTt.encs l).length = l.length := by simp [encsTt]
theorem encsTm_length (l : List Tm) : (encTm.encs l).length = l.length := by simp [encsTm]

def Ty.kids : Ty → List Ty | .mk _ _ l => l
def Tt.kids : Tt → List Tt | .mk _ _ _ l => l

/-- How much there is of it. -/
def tyn : Ty → Nat
  | .mk _ _ l => 1 + go l
  where
  go : List Ty → Nat
    | [] => 0
    | t :: r => tyn t + go r
def ttn : Tt → Nat
  | .mk _ _ ls l => 1 + ls.length + go l
  where
  go : List Tt → Nat
    | [] => 0
    | t :: r => ttn t + go r
def tmn : Tm → Nat
  | .mk _ _ _ _ ls ts l => 1 + ls.length + ttn.go ts + go l
  where
  go : List Tm → Nat
    | [] => 0
    | t :: r => tmn t + go r
theorem tyn_mem : ∀ {l : List Ty} {t : Ty}, t ∈ l → tyn t ≤ tyn.go l
  | [], _, h => by cases h
  | a :: r, t, h => by
    rcases List.mem_cons.1 h with rfl | h
    · simp [tyn.go]
    · have := tyn_mem h; simp only [tyn.go]; omega
theorem ttn_mem : ∀ {l : List Tt} {t : Tt}, t ∈ l → ttn t ≤ ttn.go l
  | [], _, h => by cases h
  | a :: r, t, h => by
    rcases List.mem_cons.1 h with rfl | h
    · simp [ttn.go]
    · have := ttn_mem h; simp only [ttn.go]; omega
theorem tmn_mem : ∀ {l : List Tm} {t : Tm}, t ∈ l → tmn t ≤ tmn.go l
  | [], _, h => by cases h
  | a :: r, t, h => by
    rcases List.mem_cons.1 h with rfl | h
    · simp [tmn.go]
    · have := tmn_mem h; simp only [tmn.go]; omega

/-- A scheme. -/
structure Sc where
  gens : Int
  t : Ty
def encSc (s : Sc) : List D := .int .i64 s.gens :: encTy s.t

/-- A constructor; a type in a structure; a value in one. -/
structure Ct where
  name : ByteArray
  args : List Ty
def encCt (c : Ct) : List D := [.str c.name, .sl (encTy.encs c.args)]
structure Tym where
  name : ByteArray
  t : Ty
  cts : List Ct
def encTym (m : Tym) : List D := .str m.name :: (encTy m.t ++ [.sl (m.cts.map encCt)])
structure Vam where
  name : ByteArray
  s : Sc
def encVam (m : Vam) : List D := .str m.name :: encSc m.s

/-- A structure: its types, values, structures, functors (stamps, argument, the result's stamps and structure), signatures. -/
inductive Stx where
  | mk (types : List Tym) (vals : List Vam) (subs : List (ByteArray × Stx)) (funs : List (ByteArray × List Int × Stx × List Int × Stx)) (sigs : List (ByteArray × List Int × Stx))

def encSt : Stx → List D
  | .mk ts vs ss fs gs => [.sl (ts.map encTym), .sl (vs.map encVam), .sl (subs ss), .sl (funs fs), .sl (sigs gs)]
  where
  subs : List (ByteArray × Stx) → List (List D)
    | [] => []
    | (s, x) :: r => (.str s :: encSt x) :: subs r
  funs : List (ByteArray × List Int × Stx × List Int × Stx) → List (List D)
    | [] => []
    | (s, l, x, m, y) :: r => (.str s :: (.sl (nums l) :: (encSt x ++ (.sl (nums m) :: encSt y)))) :: funs r
  sigs : List (ByteArray × List Int × Stx) → List (List D)
    | [] => []
    | (s, l, x) :: r => (.str s :: (.sl (nums l) :: encSt x)) :: sigs r

theorem Stx.ind {P : Stx → Prop} (h : ∀ ts vs ss fs gs, (∀ x ∈ ss, P x.2) → (∀ x ∈ fs, P x.2.2.1 ∧ P x.2.2.2.2) → (∀ x ∈ gs, P x.2.2) → P (.mk ts vs ss fs gs)) : ∀ s, P s
  | .mk ts vs ss fs gs => h ts vs ss fs gs (fun x _ => Stx.ind h x.2) (fun x _ => ⟨Stx.ind h x.2.2.1, Stx.ind h x.2.2.2.2⟩) (fun x _ => Stx.ind h x.2.2)
  termination_by u => SizeOf.sizeOf u
  decreasing_by
  all_goals
    have h1 := List.sizeOf_lt_of_mem ‹_›
    obtain ⟨a, b⟩ := x
    first
    | (simp at h1 ⊢; omega)
    | (obtain ⟨b, c, d, e⟩ := b; simp at h1 ⊢; omega)
    | (obtain ⟨b, c⟩ := b; simp at h1 ⊢; omega)

def Stx.types : Stx → List Tym | .mk a _ _ _ _ => a
def Stx.vals : Stx → List Vam | .mk _ a _ _ _ => a
def Stx.subs : Stx → List (ByteArray × Stx) | .mk _ _ a _ _ => a
def Stx.funs : Stx → List (ByteArray × List Int × Stx × List Int × Stx) | .mk _ _ _ a _ => a
def Stx.sigs : Stx → List (ByteArray × List Int × Stx) | .mk _ _ _ _ a => a

end Go.Vt
