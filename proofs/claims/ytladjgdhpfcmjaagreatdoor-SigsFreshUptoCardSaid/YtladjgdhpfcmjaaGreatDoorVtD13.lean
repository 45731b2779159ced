/- The environment laws: types, target types, target terms, structures, and their cells. -/
import Derived.Test.YtladjgdhpfcmjaaGreatDoorVtSeat
namespace Go.Vt

def txts (l : List ByteArray) : List (List D) := l.map fun s => [.str s]
def nums (l : List Int) : List (List D) := l.map fun n => [.int .i64 n]
theorem txts_length (l : List ByteArray) : (txts l).length = l.length := by simp [txts]
theorem nums_length (l : List Int) : (nums l).length = l.length := by simp [nums]

inductive Ty where
  | mk (kind n : Int) (kids : List Ty)
inductive Tt where
  | mk (kind n : Int) (labels : List ByteArray) (kids : List Tt)
inductive Tm where
  | mk (kind n i : Int) (name : ByteArray) (labels : List ByteArray) (types : List Tt) (kids : List Tm)

theorem Ty.ind {P : Ty → Prop} (h : ∀ k n l, (∀ t ∈ l, P t) → P (.mk k n l)) : ∀ t, P t
  | .mk k n l => h k n l fun t _ => Ty.ind h t
  termination_by u => SizeOf.sizeOf u
  decreasing_by
  have := List.sizeOf_lt_of_mem ‹_›
  simp; omega
theorem Tt.ind {P : Tt → Prop} (h : ∀ k n ls l, (∀ t ∈ l, P t) → P (.mk k n ls l)) : ∀ t, P t
  | .mk k n ls l => h k n ls l fun t _ => Tt.ind h t
  termination_by u => SizeOf.sizeOf u
  decreasing_by
  have := List.sizeOf_lt_of_mem ‹_›
  simp; omega
theorem Tm.ind {P : Tm → Prop} (h : ∀ k n i s ls ts l, (∀ t ∈ l, P t) → P (.mk k n i s ls ts l)) : ∀ t, P t
  | .mk k n i s ls ts l => h k n i s ls ts l fun t _ => Tm.ind h t
  termination_by u => SizeOf.sizeOf u
  decreasing_by
  have := List.sizeOf_lt_of_mem ‹_›
  simp; omega

def encTy : Ty → List D
  | .mk k n l => [.int .i64 k, .int .i64 n, .sl (encs l)]
  where
  encs : List Ty → List (List D)
    | [] => []
    | t :: r => encTy t :: encs r
def encTt : Tt → List D
  | .mk k n ls l => [.int .i64 k, .int .i64 n, .sl (txts ls), .sl (encs l)]
  where
  encs : List Tt → List (List D)
    | [] => []
    | t :: r => encTt t :: encs r
def encTm : Tm → List D
  | .mk k n i s ls ts l => [.int .i64 k, .int .i64 n, .int .i64 i, .str s, .sl (txts ls), .sl (encTt.encs ts), .sl (encs l)]
  where
  encs : List Tm → List (List D)
    | [] => []
    | t :: r => encTm t :: encs r
theorem encsTy : ∀ l, encTy.encs l = l.map encTy
  | [] => rfl
  | _ :: r => by simp [encTy.encs, encsTy r]
theorem encsTt : ∀ l, encTt.encs l = l.map encTt
  | [] => rfl
  | _ :: r => by simp [encTt.encs, encsTt r]
theorem encsTm : ∀ l, encTm.encs l = l.map encTm
  | [] => rfl
  | _ :: r => by simp [encTm.encs, encsTm r]
theorem encsTy_length (l : List Ty) : (encTy.encs l).length = l.length := by simp [encsTy]
theorem encsTt_length (l : List Tt) : (encTt.encs l).length = l.length := by simp [encsTt]
theorem encsTm_length (l : List Tm) : (encTm.encs l).length = l.length := by simp [encsTm]

def Ty.kids : Ty → List Ty | .mk _ _ l => l
def Tt.kids : Tt → List Tt | .mk _ _ _ l => l

def tyn : Ty → Nat
  | .mk _ _ l => 1 + go l
  where
  go : List Ty → Nat
    | [] => 0
    | t :: r => tyn t + go r
def ttn : Tt → Nat
  | .mk _ _ ls l => 1 + ls.length + go l
  where
  go : List Tt → Nat
    | [] => 0
    | t :: r => ttn t + go r
def tmn : Tm → Nat
  | .mk _ _ _ _ ls ts l => 1 + ls.length + ttn.go ts + go l
  where
  go : List Tm → Nat
    | [] => 0
    | t :: r => tmn t + go r
theorem tyn_mem : ∀ {l : List Ty} {t : Ty}, t ∈ l → tyn t ≤ tyn.go l
  | [], _, h => by cases h
  | a :: r, t, h => by
    rcases List.mem_cons.1 h with rfl | h
    · simp [tyn.go]
    · have := tyn_mem h; simp only [tyn.go]; omega
theorem ttn_mem : ∀ {l : List Tt} {t : Tt}, t ∈ l → ttn t ≤ ttn.go l
  | [], _, h => by cases h
  | a :: r, t, h => by
    rcases List.mem_cons.1 h with rfl | h
    · simp [ttn.go]
    · have := ttn_mem h; simp only [ttn.go]; omega
theorem tmn_mem : ∀ {l : List Tm} {t : Tm}, t ∈ l → tmn t ≤ tmn.go l
  | [], _, h => by cases h
  | a :: r, t, h => by
    rcases List.mem_cons.1 h with rfl | h
    · simp [tmn.go]
    · have := tmn_mem h; simp only [tmn.go]; omega

structure Sc where
  gens : Int
  t : Ty
def encSc (s : Sc) : List D := .int .i64 s.gens :: encTy s.t

structure Ct where
  name : ByteArray
  args : List Ty
def encCt (c : Ct) : List D := [.str c.name, .sl (encTy.encs c.args)]
structure Tym where
  name : ByteArray
  t : Ty
  cts : List Ct
def encTym (m : Tym) : List D := .str m.name :: (encTy m.t ++ [.sl (m.cts.map encCt)])
structure Vam where
  name : ByteArray
  s : Sc
def encVam (m : Vam) : List D := .str m.name :: encSc m.s

inductive Stx where
  | mk (types : List Tym) (vals : List Vam) (subs : List (ByteArray × Stx)) (funs : List (ByteArray × List Int × Stx × List Int × Stx)) (sigs : List (ByteArray × List Int × Stx))

def encSt : Stx → List D
  | .mk ts vs ss fs gs => [.sl (ts.map encTym), .sl (vs.map encVam), .sl (subs ss), .sl (funs fs), .sl (sigs gs)]
  where
  subs : List (ByteArray × Stx) → List (List D)
    | [] => []
    | (s, x) :: r => (.str s :: encSt x) :: subs r
  funs : List (ByteArray × List Int × Stx × List Int × Stx) → List (List D)
    | [] => []
    | (s, l, x, m, y) :: r => (.str s :: (.sl (nums l) :: (encSt x ++ (.sl (nums m) :: encSt y)))) :: funs r
  sigs : List (ByteArray × List Int × Stx) → List (List D)
    | [] => []
    | (s, l, x) :: r => (.str s :: (.sl (nums l) :: encSt x)) :: sigs r

theorem Stx.ind {P : Stx → Prop} (h : ∀ ts vs ss fs gs, (∀ x ∈ ss, P x.2) → (∀ x ∈ fs, P x.2.2.1 ∧ P x.2.2.2.2) → (∀ x ∈ gs, P x.2.2) → P (.mk ts vs ss fs gs)) : ∀ s, P s
  | .mk ts vs ss fs gs => h ts vs ss fs gs (fun x _ => Stx.ind h x.2) (fun x _ => ⟨Stx.ind h x.2.2.1, Stx.ind h x.2.2.2.2⟩) (fun x _ => Stx.ind h x.2.2)
  termination_by u => SizeOf.sizeOf u
  decreasing_by
  all_goals
    have h1 := List.sizeOf_lt_of_mem ‹_›
    obtain ⟨a, b⟩ := x
    first
    | (simp at h1 ⊢; omega)
    | (obtain ⟨b, c, d, e⟩ := b; simp at h1 ⊢; omega)
    | (obtain ⟨b, c⟩ := b; simp at h1 ⊢; omega)

def Stx.types : Stx → List Tym | .mk a _ _ _ _ => a
def Stx.vals : Stx → List Vam | .mk _ a _ _ _ => a
def Stx.subs : Stx → List (ByteArray × Stx) | .mk _ _ a _ _ => a
def Stx.funs : Stx → List (ByteArray × List Int × Stx × List Int × Stx) | .mk _ _ _ a _ => a
def Stx.sigs : Stx → List (ByteArray × List Int × Stx) | .mk _ _ _ _ a => a

end Go.Vt
set_option maxRecDepth 100000
set_option linter.unusedSimpArgs false
namespace Go.Vt.Tryz

abbrev FnE := List Int × Stx × List Int × Stx
abbrev SigE := ByteArray × List Int × Stx
def encFn (x : FnE) : List D := .sl (nums x.1) :: (encSt x.2.1 ++ (.sl (nums x.2.2.1) :: encSt x.2.2.2))
def encSm (m : ByteArray × Stx) : List D := .str m.1 :: encSt m.2
def encFm (m : ByteArray × FnE) : List D := .str m.1 :: encFn m.2
def encSig (x : SigE) : List D := .str x.1 :: (.sl (nums x.2.1) :: encSt x.2.2)
theorem encSubs_map : ∀ l, encSt.subs l = l.map fun m => D.str m.1 :: encSt m.2
  | [] => rfl
  | (s, x) :: r => by simp [encSt.subs, encSubs_map r]

theorem encFuns_m : ∀ l, encSt.funs l = l.map encFm
  | [] => rfl
  | (s, l, x, m, y) :: r => by simp [encSt.funs, encFuns_m r, encFm, encFn]
theorem encSigs_m : ∀ l, encSt.sigs l = l.map encSig
  | [] => rfl
  | (s, l, x) :: r => by simp [encSt.sigs, encSigs_m r, encSig]

def sumN {α : Type} (f : α → Nat) : List α → Nat
  | [] => 0
  | a :: r => f a + sumN f r
theorem sumN_mem {α : Type} {f : α → Nat} : ∀ {l : List α} {a : α}, a ∈ l → f a ≤ sumN f l
  | b :: r, a, h => by
    rcases List.mem_cons.1 h with rfl | h
    · simp [sumN]
    · have := sumN_mem (f := f) h; simp only [sumN]; omega
theorem sumN_length {α : Type} {f : α → Nat} (hf : ∀ a, 1 ≤ f a) : ∀ l : List α, l.length ≤ sumN f l
  | [] => Nat.le_refl _
  | a :: r => by have := sumN_length hf r; have := hf a; simp only [sumN, List.length_cons]; omega

def ctn (c : Ct) : Nat := 1 + tyn.go c.args
def tymn (m : Tym) : Nat := 1 + tyn m.t + sumN ctn m.cts
def vamn (m : Vam) : Nat := 1 + tyn m.s.t
def stn : Stx → Nat
  | .mk ts vs ss fs gs => 1 + sumN tymn ts + sumN vamn vs + goS ss + goF fs + goG gs
  where
  goS : List (ByteArray × Stx) → Nat
    | [] => 0
    | (_, x) :: r => 1 + stn x + goS r
  goF : List (ByteArray × List Int × Stx × List Int × Stx) → Nat
    | [] => 0
    | (_, l, x, m, y) :: r => 1 + l.length + stn x + m.length + stn y + goF r
  goG : List (ByteArray × List Int × Stx) → Nat
    | [] => 0
    | (_, l, x) :: r => 1 + l.length + stn x + goG r

theorem stn_mem : ∀ {l : List (ByteArray × Stx)} {m : ByteArray × Stx}, m ∈ l → stn m.2 ≤ stn.goS l
  | (a, b) :: r, m, h => by
    rcases List.mem_cons.1 h with rfl | h
    · simp [stn.goS]; omega
    · have := stn_mem h; simp only [stn.goS]; omega
theorem stn_memF : ∀ {l : List (ByteArray × List Int × Stx × List Int × Stx)} {m : ByteArray × List Int × Stx × List Int × Stx}, m ∈ l → m.2.1.length + stn m.2.2.1 + m.2.2.2.1.length + stn m.2.2.2.2 ≤ stn.goF l
  | (a, b, c, d, e) :: r, m, h => by
    rcases List.mem_cons.1 h with rfl | h
    · simp [stn.goF]; omega
    · have := stn_memF h; simp only [stn.goF]; omega
theorem stn_memG : ∀ {l : List (ByteArray × List Int × Stx)} {m : ByteArray × List Int × Stx}, m ∈ l → m.2.1.length + stn m.2.2 ≤ stn.goG l
  | (a, b, c) :: r, m, h => by
    rcases List.mem_cons.1 h with rfl | h
    · simp [stn.goG]; omega
    · have := stn_memG h; simp only [stn.goG]; omega
theorem goS_length : ∀ l : List (ByteArray × Stx), l.length ≤ stn.goS l
  | [] => Nat.le_refl _
  | (a, b) :: r => by have := goS_length r; simp only [stn.goS, List.length_cons]; omega
theorem goF_length : ∀ l : List (ByteArray × List Int × Stx × List Int × Stx), l.length ≤ stn.goF l
  | [] => Nat.le_refl _
  | (a, b, c, d, e) :: r => by have := goF_length r; simp only [stn.goF, List.length_cons]; omega
theorem goG_length : ∀ l : List (ByteArray × List Int × Stx), l.length ≤ stn.goG l
  | [] => Nat.le_refl _
  | (a, b, c) :: r => by have := goG_length r; simp only [stn.goG, List.length_cons]; omega

theorem tyn_go : ∀ l : List Ty, tyn.go l = sumN tyn l
  | [] => rfl
  | t :: r => by simp only [tyn.go, sumN, tyn_go r]
def stW (x : Stx) : V := .agg ((encSt x).map .d)
def abW (l : List Int) (x : Stx) : V := .agg ((L.d (.sl (nums l))) :: (encSt x).map .d)
theorem encSubs_s : ∀ l, encSt.subs l = l.map encSm := encSubs_map
def subz (m : ByteArray × Stx) : Nat := 1 + stn m.2
def funz (m : ByteArray × FnE) : Nat := 1 + m.2.1.length + stn m.2.2.1 + m.2.2.2.1.length + stn m.2.2.2.2
def sigz (m : SigE) : Nat := 1 + m.2.1.length + stn m.2.2
theorem goS_sum : ∀ l : List (ByteArray × Stx), stn.goS l = sumN subz l
  | [] => rfl
  | (a, b) :: r => by simp only [stn.goS, sumN, goS_sum r, subz]
theorem goF_sum : ∀ l : List (ByteArray × FnE), stn.goF l = sumN funz l
  | [] => rfl
  | (a, b, c, d, e) :: r => by simp only [stn.goF, sumN, goF_sum r, funz]
theorem goG_sum : ∀ l : List SigE, stn.goG l = sumN sigz l
  | [] => rfl
  | (a, b, c) :: r => by simp only [stn.goG, sumN, goG_sum r, sigz]
theorem encSubs_len (l : List (ByteArray × Stx)) : (encSt.subs l).length = l.length := by rw [encSubs_s, List.length_map]
theorem encFuns_len (l : List (ByteArray × FnE)) : (encSt.funs l).length = l.length := by rw [encFuns_m, List.length_map]
theorem encSigs_len (l : List SigE) : (encSt.sigs l).length = l.length := by rw [encSigs_m, List.length_map]

theorem tymn_e (u : Tym) : tymn u = 1 + tyn u.t + sumN ctn u.cts := rfl
theorem vamn_e (u : Vam) : vamn u = 1 + tyn u.s.t := rfl
theorem subz_e (u : ByteArray × Stx) : subz u = 1 + stn u.2 := rfl
theorem funz_e (u : ByteArray × FnE) : funz u = 1 + u.2.1.length + stn u.2.2.1 + u.2.2.2.1.length + stn u.2.2.2.2 := rfl
theorem sigz_e (u : SigE) : sigz u = 1 + u.2.1.length + stn u.2.2 := rfl
theorem ctn_e (c : Ct) : ctn c = 1 + sumN tyn c.args := by show 1 + tyn.go c.args = _; rw [tyn_go]

theorem sumN_take {α : Type} {f : α → Nat} : ∀ {l : List α} {i : Nat} {a : α}, l[i]? = some a → sumN f (l.take (i + 1)) = sumN f (l.take i) + f a
  | b :: r, 0, a, h => by
    have : b = a := by simpa using h
    subst this
    simp [sumN]
  | b :: r, i + 1, a, h => by
    have := sumN_take (f := f) (l := r) (i := i) (a := a) (by simpa using h)
    simp only [List.take_succ_cons, sumN, this]
    omega
theorem sumN_take_le {α : Type} {f : α → Nat} : ∀ (l : List α) (i : Nat), sumN f (l.take i) ≤ sumN f l
  | [], i => by simp [sumN]
  | b :: r, 0 => by simp [sumN]
  | b :: r, i + 1 => by
    have := sumN_take_le (f := f) r i
    simp only [List.take_succ_cons, sumN]
    omega
theorem sumN_take_all {α : Type} {f : α → Nat} {l : List α} {i : Nat} (h : l.length ≤ i) : sumN f (l.take i) = sumN f l := by rw [List.take_of_length_le h]

theorem subs_small {x : Stx} {B : Nat} (h : stn x ≤ B) : x.subs.length ≤ B ∧ x.vals.length ≤ B ∧ x.types.length ≤ B ∧ x.funs.length ≤ B ∧ x.sigs.length ≤ B := by
  obtain ⟨a, b, c, d, e⟩ := x
  simp only [stn] at h
  simp only [Stx.subs, Stx.vals, Stx.types, Stx.funs, Stx.sigs]
  have h1 := sumN_length (f := tymn) (fun m => by simp [tymn]; omega) a
  have h2 := sumN_length (f := vamn) (fun m => by simp [vamn]) b
  have h3 := goS_length c
  have h4 := goF_length d
  have h5 := goG_length e
  omega

end Go.Vt.Tryz
