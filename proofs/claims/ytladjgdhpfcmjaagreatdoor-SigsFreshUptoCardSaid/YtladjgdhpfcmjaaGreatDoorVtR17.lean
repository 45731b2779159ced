/- What the laws are asked, read as numbers, types, structures. -/
import Derived.Test.YtladjgdhpfcmjaaGreatDoorVtW9
import Derived.Test.YtladjgdhpfcmjaaGreatDoorVtRead
import Derived.Test.YtladjgdhpfcmjaaGreatDoorRows
import Derived.ProofKit
import Derived.JoinedCond
import Derived.Deep.DeepHandedRow
set_option maxRecDepth 100000
namespace Go.Proofs.YtladjgdhpfcmjaaGreatDoor
open Go.ChangeShapes Go.WideShapes Go.ChangeAt Go.RowKit Go.Vt Go.Vt.Tryz

theorem Tryz.own : ownKnob Tryz.prog.godebug = none := by kernel_rfl
theorem Tryz.laidOut : laidOutB Tryz.prog = true := by kernel_rfl

def plain13 : List TypeId := [3, 9, 22, 23, 24, 25, 26, 27, 29, 31, 100, 102, 120, 122, 126, 129, 131, 136, 138, 139, 154]
theorem plain13_ok : plain13.all (plainT Tryz.prog plain13) = true := by kernel_rfl


def tymq (m : Tym) : Nat := tymn m + m.name.size
def vamq (m : Vam) : Nat := vamn m + m.name.size
def stq : Stx → Nat
  | .mk ts vs ss fs gs => 1 + sumN tymq ts + sumN vamq vs + goS ss + goF fs + goG gs
  where
  goS : List (ByteArray × Stx) → Nat
    | [] => 0
    | (s, x) :: r => 1 + s.size + stq x + goS r
  goF : List (ByteArray × List Int × Stx × List Int × Stx) → Nat
    | [] => 0
    | (s, l, x, m, y) :: r => 1 + s.size + l.length + stq x + m.length + stq y + goF r
  goG : List (ByteArray × List Int × Stx) → Nat
    | [] => 0
    | (s, l, x) :: r => 1 + s.size + l.length + stq x + goG r

theorem sum_le {α : Type} {f g : α → Nat} (h : ∀ a, f a ≤ g a) : ∀ l : List α, sumN f l ≤ sumN g l
  | [] => Nat.le_refl _
  | a :: r => by have := sum_le h r; have := h a; simp only [sumN]; omega

theorem st_q : ∀ (s : Stx), stn s ≤ stq s ∧ (stq s < 100000000000 → nmOk s) := by
  intro s
  induction s using Stx.ind with
  | h ts vs ss fs gs i1 i2 i3 =>
  have e1 := sum_le (f := tymn) (g := tymq) (fun a => by simp [tymq]) ts
  have e2 := sum_le (f := vamn) (g := vamq) (fun a => by simp [vamq]) vs
  have gS : ∀ l : List (ByteArray × Stx), (∀ x ∈ l, stn x.2 ≤ stq x.2 ∧ (stq x.2 < 100000000000 → nmOk x.2)) → stn.goS l ≤ stq.goS l ∧ (stq.goS l < 100000000000 → nmOk.goS l) := by
    intro l
    induction l with
    | nil => intro _; exact ⟨Nat.le_refl _, fun _ => trivial⟩
    | cons x l ih =>
      obtain ⟨s, x⟩ := x
      intro h
      have h1 := h (s, x) (by simp)
      have h2 := ih fun y hy => h y (by simp [hy])
      simp only [stn.goS, stq.goS, nmOk.goS] at h1 ⊢
      refine ⟨by omega, fun hb => ⟨by omega, h1.2 (by omega), h2.2 (by omega)⟩⟩
  have gF : ∀ l : List (ByteArray × List Int × Stx × List Int × Stx), (∀ x ∈ l, (stn x.2.2.1 ≤ stq x.2.2.1 ∧ (stq x.2.2.1 < 100000000000 → nmOk x.2.2.1)) ∧ (stn x.2.2.2.2 ≤ stq x.2.2.2.2 ∧ (stq x.2.2.2.2 < 100000000000 → nmOk x.2.2.2.2))) → stn.goF l ≤ stq.goF l ∧ (stq.goF l < 100000000000 → nmOk.goF l) := by
    intro l
    induction l with
    | nil => intro _; exact ⟨Nat.le_refl _, fun _ => trivial⟩
    | cons x l ih =>
      obtain ⟨s, p, x, q, y⟩ := x
      intro h
      have h1 := h (s, p, x, q, y) (by simp)
      have h2 := ih fun y hy => h y (by simp [hy])
      simp only [stn.goF, stq.goF, nmOk.goF] at h1 ⊢
      refine ⟨by omega, fun hb => ⟨by omega, h1.1.2 (by omega), h1.2.2 (by omega), h2.2 (by omega)⟩⟩
  have gG : ∀ l : List (ByteArray × List Int × Stx), (∀ x ∈ l, stn x.2.2 ≤ stq x.2.2 ∧ (stq x.2.2 < 100000000000 → nmOk x.2.2)) → stn.goG l ≤ stq.goG l ∧ (stq.goG l < 100000000000 → nmOk.goG l) := by
    intro l
    induction l with
    | nil => intro _; exact ⟨Nat.le_refl _, fun _ => trivial⟩
    | cons x l ih =>
      obtain ⟨s, q, y⟩ := x
      intro h
      have h1 := h (s, q, y) (by simp)
      have h2 := ih fun y hy => h y (by simp [hy])
      simp only [stn.goG, stq.goG, nmOk.goG] at h1 ⊢
      refine ⟨by omega, fun hb => ⟨by omega, h1.2 (by omega), h2.2 (by omega)⟩⟩
  have k3 := gS ss i1
  have k4 := gF fs i2
  have k5 := gG gs i3
  simp only [stn, stq, nmOk]
  refine ⟨by omega, fun hb => ⟨fun m hm => ?_, fun m hm => ?_, k3.2 (by omega), k4.2 (by omega), k5.2 (by omega)⟩⟩
  · have h1 := sumN_mem (f := tymq) hm
    have h2 : m.name.size ≤ tymq m := by simp [tymq]
    omega
  · have h1 := sumN_mem (f := vamq) hm
    have h2 : m.name.size ≤ vamq m := by simp [vamq]
    omega

section
variable {H : Type} {enc : TypeId × Value → H} {w : World} {base : Nat} {sp : Nat → Bool} {held : Bool}

def Trd (enc : TypeId × Value → H) (w : World) (base : Nat) (sp : Nat → Bool) (held : Bool) (fuel : Nat) (t : TypeId) (d : DataW H) : Prop := ∃ cs ps, DataW.trod enc Tryz.prog w base sp held fuel t cs = some (d, ps)

def FR (enc : TypeId × Value → H) (w : World) (base : Nat) (sp : Nat → Bool) (held : Bool) (fuel : Nat) : List TypeId → List (DataW H) → Prop
  | [], [] => True
  | t :: ts, d :: ds => Trd enc w base sp held fuel t d ∧ FR enc w base sp held fuel ts ds
  | _, _ => False

theorem FR.cons {fuel : Nat} {t : TypeId} {ts : List TypeId} {ds : List (DataW H)} (h : FR enc w base sp held fuel (t :: ts) ds) : ∃ d r, ds = d :: r ∧ Trd enc w base sp held fuel t d ∧ FR enc w base sp held fuel ts r := by
  cases ds with
  | nil => exact h.elim
  | cons d r => exact ⟨d, r, rfl, h.1, h.2⟩

theorem FR.nil {fuel : Nat} {ds : List (DataW H)} (h : FR enc w base sp held fuel [] ds) : ds = [] := by
  cases ds with
  | nil => rfl
  | cons d r => exact h.elim

theorem fields_rd {fuel : Nat} {cs : List Value} : ∀ {fs : List Field} {xs : List (DataW H × List MemPlace)}, fs.mapM (fun f => DataW.trod enc Tryz.prog w base sp held fuel f.type ((cs.drop f.offset).take (Tryz.prog.cellsOf f.type))) = some xs → FR enc w base sp held fuel (fs.map (·.type)) (xs.map (·.1))
  | [], xs, h => by simp at h; subst h; trivial
  | f :: r, xs, h => by
    rw [List.mapM_cons] at h
    cases hf : DataW.trod enc Tryz.prog w base sp held fuel f.type ((cs.drop f.offset).take (Tryz.prog.cellsOf f.type)) with
    | none => simp [hf] at h
    | some y =>
      cases hl : r.mapM (fun f => DataW.trod enc Tryz.prog w base sp held fuel f.type ((cs.drop f.offset).take (Tryz.prog.cellsOf f.type))) with
      | none => simp [hf, hl] at h
      | some ys =>
        simp [hf, hl] at h
        subst h
        exact ⟨⟨_, y.2, hf⟩, fields_rd hl⟩

theorem struct_rd {t : TypeId} {fs : Array Field} {ts : List TypeId} (hu : Tryz.prog.underlying t = some (.struct fs)) (hts : fs.toList.map (·.type) = ts) {fuel : Nat} {d : DataW H} (h : Trd enc w base sp held fuel t d) :
    ∃ m ds, m < fuel ∧ d = .agg ds ∧ FR enc w base sp held m ts ds := by
  obtain ⟨cs, ps, h⟩ := h
  cases fuel with
  | zero => simp [DataW.trod] at h
  | succ m =>
    obtain ⟨_, xs, hxs, rfl⟩ := trod_struct hu h
    exact ⟨m, _, Nat.lt_succ_self m, rfl, hts ▸ fields_rd hxs⟩

theorem bulk_pos (d : DataW H) : 1 ≤ Rows.uptoBulk d := by
  cases d with
  | lit l => cases l <;> simp [Rows.uptoBulk]
  | _ => simp [Rows.uptoBulk]

def Rd (enc : TypeId × Value → H) (w : World) (base : Nat) (sp : Nat → Bool) (held : Bool) {α : Type} (fuel : Nat) (t : TypeId) (e : α → List D) (n : α → Nat) : Prop := ∀ d : DataW H, Trd enc w base sp held fuel t d → ∃ a, rdD d = e a ∧ n a ≤ Rows.uptoBulk d

theorem rd_int3 (fuel : Nat) : Rd enc w base sp held fuel 3 (fun n : Int => [D.int .i64 n]) (fun _ => 1) := by
  rintro d ⟨cs, ps, h⟩
  obtain ⟨n, _, rfl, _⟩ := trod_int Tryz.underlying3 h
  exact ⟨n, rfl, bulk_pos _⟩

theorem bulk_str (l : List UInt8) : 1 + (ByteArray.mk l.toArray).size ≤ Rows.uptoBulk (DataW.lit (.string l) : DataW H) := by
  show 1 + l.toArray.size ≤ l.length + 1
  rw [List.size_toArray]
  omega
theorem rd_str (fuel : Nat) : Rd enc w base sp held fuel 9 (fun s : ByteArray => [D.str s]) (fun s => 1 + s.size) := by
  rintro d ⟨cs, ps, h⟩
  cases fuel with
  | zero => simp [DataW.trod] at h
  | succ fuel =>
    unfold DataW.trod at h
    rw [Tryz.underlying9] at h
    match cs with
    | [] => simp at h
    | _ :: _ :: _ => simp at h
    | [v] =>
      cases v <;> simp at h
      obtain ⟨_, rfl, _⟩ := h
      exact ⟨_, rfl, bulk_str _⟩

theorem rd_slice {α : Type} {e : α → List D} {n : α → Nat} {t el : TypeId} (hu : Tryz.prog.underlying t = some (.slice el)) {fuel : Nat} (hr : ∀ m, m < fuel → Rd enc w base sp held m el e n) : Rd enc w base sp held fuel t (fun l : List α => [D.sl (l.map e)]) (fun l => 1 + sumN n l) := by
  rintro d ⟨cs, ps, h⟩
  cases fuel with
  | zero => simp [DataW.trod] at h
  | succ m =>
    rcases trod_slice hu h with ⟨rfl, _⟩ | ⟨elems, rest, rfl, _, hx⟩
    · exact ⟨[], by simp [rdD], by simp [sumN, Rows.uptoBulk]⟩
    · have key : ∀ l : List (DataW H), (∀ x ∈ l, ∃ a, rdD x = e a ∧ n a ≤ Rows.uptoBulk x) → ∃ al : List α, rdRows l = al.map e ∧ sumN n al ≤ Rows.uptoBulkAll l := by
        intro l
        induction l with
        | nil => intro _; exact ⟨[], by simp [rdRows], by simp [sumN]⟩
        | cons d r ih =>
          intro h
          obtain ⟨a, h1, h2⟩ := h d (by simp)
          obtain ⟨al, h3, h4⟩ := ih fun x hx => h x (by simp [hx])
          refine ⟨a :: al, by simp [rdRows, h1, h3], ?_⟩
          simp only [sumN, Rows.uptoBulkAll]
          omega
      obtain ⟨al, h1, h2⟩ := key elems fun x hxm => by
        obtain ⟨cs', ps', htr⟩ := hx x hxm
        exact hr m (Nat.lt_succ_self m) x ⟨cs', ps', htr⟩
      exact ⟨al, by simp [rdD, h1], by simp only [Rows.uptoBulk]; omega⟩

theorem sum_one {α : Type} : ∀ l : List α, sumN (fun _ => 1) l = l.length
  | [] => rfl
  | _ :: r => by simp only [sumN, sum_one r, List.length_cons]; omega

theorem sum_ty : ∀ l : List Ty, sumN tyn l = tyn.go l
  | [] => rfl
  | _ :: r => by simp only [sumN, sum_ty r, tyn.go]

theorem rd_nums (fuel : Nat) : Rd enc w base sp held fuel 22 (fun l : List Int => [D.sl (nums l)]) (fun l => 1 + l.length) := by
  intro d h
  obtain ⟨l, h1, h2⟩ := rd_slice Tryz.underlying22 (fun m _ => rd_int3 m) d h
  exact ⟨l, h1, by simp only [sum_one] at h2; exact h2⟩

theorem rd_ty : ∀ fuel : Nat, Rd enc w base sp held fuel 102 encTy tyn := by
  intro fuel
  induction fuel using Nat.strongRecOn with
  | ind fuel ih =>
  intro d h
  obtain ⟨m, ds, hm, rfl, hf⟩ := struct_rd (ts := [3, 3, 100]) Tryz.underlying102 rfl h
  obtain ⟨d1, _, rfl, g1, hf⟩ := hf.cons
  obtain ⟨d2, _, rfl, g2, hf⟩ := hf.cons
  obtain ⟨d3, _, rfl, g3, hf⟩ := hf.cons
  obtain rfl := hf.nil
  obtain ⟨a1, e1, b1⟩ := rd_int3 m _ g1
  obtain ⟨a2, e2, b2⟩ := rd_int3 m _ g2
  obtain ⟨a3, e3, b3⟩ := rd_slice Tryz.underlying100 (fun k hk => ih k (by omega)) _ g3
  simp only [sum_ty] at b3
  try dsimp only at b1 b2 b3
  refine ⟨.mk a1 a2 a3, by simp [rdD, rdCat, e1, e2, e3, encTy, encsTy], ?_⟩
  simp only [tyn, Rows.uptoBulk, Rows.uptoBulkAll]
  omega

theorem rd_tys (fuel : Nat) : Rd enc w base sp held fuel 100 (fun l : List Ty => [D.sl (encTy.encs l)]) (fun l => 1 + tyn.go l) := by
  intro d h
  obtain ⟨l, h1, h2⟩ := rd_slice Tryz.underlying100 (fun m _ => rd_ty m) d h
  exact ⟨l, by simp only [encsTy]; exact h1, by simp only [sum_ty] at h2; exact h2⟩

theorem rd_sc (fuel : Nat) : Rd enc w base sp held fuel 129 encSc (fun s => 1 + tyn s.t) := by
  intro d h
  obtain ⟨m, ds, hm, rfl, hf⟩ := struct_rd (ts := [3, 102]) Tryz.underlying129 rfl h
  obtain ⟨d1, _, rfl, g1, hf⟩ := hf.cons
  obtain ⟨d2, _, rfl, g2, hf⟩ := hf.cons
  obtain rfl := hf.nil
  obtain ⟨a1, e1, b1⟩ := rd_int3 m _ g1
  obtain ⟨a2, e2, b2⟩ := rd_ty m _ g2
  try dsimp only at b1 b2
  refine ⟨⟨a1, a2⟩, by simp [rdD, rdCat, e1, e2, encSc], ?_⟩
  simp only [Rows.uptoBulk, Rows.uptoBulkAll]
  omega

theorem rd_ct (fuel : Nat) : Rd enc w base sp held fuel 126 encCt ctn := by
  intro d h
  obtain ⟨m, ds, hm, rfl, hf⟩ := struct_rd (ts := [9, 100]) Tryz.underlying126 rfl h
  obtain ⟨d1, _, rfl, g1, hf⟩ := hf.cons
  obtain ⟨d2, _, rfl, g2, hf⟩ := hf.cons
  obtain rfl := hf.nil
  obtain ⟨a1, e1, b1⟩ := rd_str m _ g1
  obtain ⟨a2, e2, b2⟩ := rd_tys m _ g2
  try dsimp only at b1 b2
  refine ⟨⟨a1, a2⟩, by simp [rdD, rdCat, e1, e2, encCt], ?_⟩
  simp only [ctn, Rows.uptoBulk, Rows.uptoBulkAll]
  omega

theorem rd_cts (fuel : Nat) : Rd enc w base sp held fuel 120 (fun l : List Ct => [D.sl (l.map encCt)]) (fun l => 1 + sumN ctn l) := rd_slice Tryz.underlying120 (fun m _ => rd_ct m)

theorem rd_tym {t : TypeId} {fs : Array Field} (hu : Tryz.prog.underlying t = some (.struct fs)) (hts : fs.toList.map (·.type) = [9, 102, 120]) (fuel : Nat) : Rd enc w base sp held fuel t encTym tymq := by
  intro d h
  obtain ⟨m, ds, hm, rfl, hf⟩ := struct_rd hu hts h
  obtain ⟨d1, _, rfl, g1, hf⟩ := hf.cons
  obtain ⟨d2, _, rfl, g2, hf⟩ := hf.cons
  obtain ⟨d3, _, rfl, g3, hf⟩ := hf.cons
  obtain rfl := hf.nil
  obtain ⟨a1, e1, b1⟩ := rd_str m _ g1
  obtain ⟨a2, e2, b2⟩ := rd_ty m _ g2
  obtain ⟨a3, e3, b3⟩ := rd_cts m _ g3
  try dsimp only at b1 b2 b3
  refine ⟨⟨a1, a2, a3⟩, by simp [rdD, rdCat, e1, e2, e3, encTym], ?_⟩
  simp only [tymq, tymn, Rows.uptoBulk, Rows.uptoBulkAll]
  omega

theorem rd_vam (fuel : Nat) : Rd enc w base sp held fuel 131 encVam vamq := by
  intro d h
  obtain ⟨m, ds, hm, rfl, hf⟩ := struct_rd (ts := [9, 129]) Tryz.underlying131 rfl h
  obtain ⟨d1, _, rfl, g1, hf⟩ := hf.cons
  obtain ⟨d2, _, rfl, g2, hf⟩ := hf.cons
  obtain rfl := hf.nil
  obtain ⟨a1, e1, b1⟩ := rd_str m _ g1
  obtain ⟨a2, e2, b2⟩ := rd_sc m _ g2
  try dsimp only at b1 b2
  refine ⟨⟨a1, a2⟩, by simp [rdD, rdCat, e1, e2, encVam], ?_⟩
  simp only [vamq, vamn, Rows.uptoBulk, Rows.uptoBulkAll]
  omega

def encAb (x : List Int × Stx) : List D := .sl (nums x.1) :: encSt x.2

theorem encFuns_map : ∀ l, encSt.funs l = l.map fun m => D.str m.1 :: encFn m.2
  | [] => rfl
  | (s, l, x, m, y) :: r => by simp [encSt.funs, encFuns_map r, encFn]

theorem encSigs_map : ∀ l, encSt.sigs l = l.map fun m => D.str m.1 :: encAb m.2
  | [] => rfl
  | (s, l, x) :: r => by simp [encSt.sigs, encSigs_map r, encAb]

def fnq (x : FnE) : Nat := 1 + x.1.length + stq x.2.1 + x.2.2.1.length + stq x.2.2.2
def abq (x : List Int × Stx) : Nat := 1 + x.1.length + stq x.2
theorem sum_goS : ∀ l : List (ByteArray × Stx), sumN (fun m => 1 + m.1.size + stq m.2) l = stq.goS l
  | [] => rfl
  | (a, b) :: r => by simp only [sumN, sum_goS r, stq.goS]
theorem sum_goF : ∀ l : List (ByteArray × FnE), sumN (fun m => m.1.size + fnq m.2) l = stq.goF l
  | [] => rfl
  | (a, b, c, d, e) :: r => by
    have := sum_goF r
    show a.size + fnq (b, c, d, e) + sumN (fun m => m.1.size + fnq m.2) r = _
    rw [this]
    simp only [fnq, stq.goF]
    omega
theorem sum_goG : ∀ l : List (ByteArray × List Int × Stx), sumN (fun m => m.1.size + abq m.2) l = stq.goG l
  | [] => rfl
  | (a, b, c) :: r => by
    have := sum_goG r
    show a.size + abq (b, c) + sumN (fun m => m.1.size + abq m.2) r = _
    rw [this]
    simp only [abq, stq.goG]
    omega

theorem rd_ab {fuel : Nat} (ih : ∀ m, m < fuel → Rd enc w base sp held m 29 encSt stq) : Rd enc w base sp held fuel 31 encAb abq := by
  intro d h
  obtain ⟨m, ds, hm, rfl, hf⟩ := struct_rd (ts := [22, 29]) Tryz.underlying31 rfl h
  obtain ⟨d1, _, rfl, g1, hf⟩ := hf.cons
  obtain ⟨d2, _, rfl, g2, hf⟩ := hf.cons
  obtain rfl := hf.nil
  obtain ⟨a1, e1, b1⟩ := rd_nums m _ g1
  obtain ⟨a2, e2, b2⟩ := ih m hm _ g2
  try dsimp only at b1 b2
  refine ⟨(a1, a2), by simp [rdD, rdCat, e1, e2, encAb], ?_⟩
  simp only [abq, Rows.uptoBulk, Rows.uptoBulkAll]
  omega

theorem rd_fn {fuel : Nat} (ih : ∀ m, m < fuel → Rd enc w base sp held m 29 encSt stq) : Rd enc w base sp held fuel 136 encFn fnq := by
  intro d h
  obtain ⟨m, ds, hm, rfl, hf⟩ := struct_rd (ts := [22, 29, 31]) Tryz.underlying136 rfl h
  obtain ⟨d1, _, rfl, g1, hf⟩ := hf.cons
  obtain ⟨d2, _, rfl, g2, hf⟩ := hf.cons
  obtain ⟨d3, _, rfl, g3, hf⟩ := hf.cons
  obtain rfl := hf.nil
  obtain ⟨a1, e1, b1⟩ := rd_nums m _ g1
  obtain ⟨a2, e2, b2⟩ := ih m hm _ g2
  obtain ⟨a3, e3, b3⟩ := rd_ab (fun k hk => ih k (by omega)) _ g3
  try dsimp only at b1 b2 b3
  refine ⟨(a1, a2, a3.1, a3.2), by simp [rdD, rdCat, e1, e2, e3, encFn, encAb], ?_⟩
  simp only [fnq, abq, Rows.uptoBulk, Rows.uptoBulkAll] at *
  omega

theorem rd_named {α : Type} {e : α → List D} {n : α → Nat} {t u : TypeId} {fs : Array Field} (hu : Tryz.prog.underlying t = some (.struct fs)) (hts : fs.toList.map (·.type) = [9, u]) {fuel : Nat} (ih : ∀ m, m < fuel → Rd enc w base sp held m u e n) : Rd enc w base sp held fuel t (fun x : ByteArray × α => .str x.1 :: e x.2) (fun x => 1 + x.1.size + n x.2) := by
  intro d h
  obtain ⟨m, ds, hm, rfl, hf⟩ := struct_rd hu hts h
  obtain ⟨d1, _, rfl, g1, hf⟩ := hf.cons
  obtain ⟨d2, _, rfl, g2, hf⟩ := hf.cons
  obtain rfl := hf.nil
  obtain ⟨a1, e1, b1⟩ := rd_str m _ g1
  obtain ⟨a2, e2, b2⟩ := ih m hm _ g2
  try dsimp only at b1 b2
  refine ⟨(a1, a2), by simp [rdD, rdCat, e1, e2], ?_⟩
  simp only [Rows.uptoBulk, Rows.uptoBulkAll]
  omega

theorem rd_st : ∀ fuel : Nat, Rd enc w base sp held fuel 29 encSt stq := by
  intro fuel
  induction fuel using Nat.strongRecOn with
  | ind fuel ih =>
  intro d h
  obtain ⟨m, ds, hm, rfl, hf⟩ := struct_rd (ts := [23, 24, 25, 26, 27]) Tryz.underlying29 rfl h
  obtain ⟨d1, _, rfl, g1, hf⟩ := hf.cons
  obtain ⟨d2, _, rfl, g2, hf⟩ := hf.cons
  obtain ⟨d3, _, rfl, g3, hf⟩ := hf.cons
  obtain ⟨d4, _, rfl, g4, hf⟩ := hf.cons
  obtain ⟨d5, _, rfl, g5, hf⟩ := hf.cons
  obtain rfl := hf.nil
  obtain ⟨a1, e1, b1⟩ := rd_slice Tryz.underlying23 (fun k _ => rd_tym Tryz.underlying122 rfl k) _ g1
  obtain ⟨a2, e2, b2⟩ := rd_slice Tryz.underlying24 (fun k _ => rd_vam k) _ g2
  obtain ⟨a3, e3, b3⟩ := rd_slice Tryz.underlying25 (fun k hk => rd_named Tryz.underlying154 rfl (fun j hj => ih j (by omega))) _ g3
  obtain ⟨a4, e4, b4⟩ := rd_slice Tryz.underlying26 (fun k hk => rd_named Tryz.underlying138 rfl (fun j hj => rd_fn (fun i hi => ih i (by omega)))) _ g4
  obtain ⟨a5, e5, b5⟩ := rd_slice Tryz.underlying27 (fun k hk => rd_named Tryz.underlying139 rfl (fun j hj => rd_ab (fun i hi => ih i (by omega)))) _ g5
  have c3 := sum_goS a3
  have c4 := sum_goF a4
  have c5 := sum_goG a5
  have f4 := sum_le (f := fun m : ByteArray × FnE => m.1.size + fnq m.2) (g := fun m => 1 + m.1.size + fnq m.2) (fun a => by omega) a4
  have f5 := sum_le (f := fun m : ByteArray × List Int × Stx => m.1.size + abq m.2) (g := fun m => 1 + m.1.size + abq m.2) (fun a => by omega) a5
  try dsimp only at b1 b2 b3 b4 b5
  refine ⟨.mk a1 a2 a3 a4 a5, by simp [rdD, rdCat, e1, e2, e3, e4, e5, encSt, encSubs_map, encFuns_map, encSigs_map], ?_⟩
  simp only [stq, Rows.uptoBulk, Rows.uptoBulkAll]
  omega

end


def pl0 : Pl := { at_ := fun _ => none, X := fun _ => False }
theorem hrep0 (w : World) : HRep w pl0 [] := ⟨by simp, by simp, by simp, by simp, fun b h => h.elim, by simp⟩

theorem mut0 : Mut pl0 [] = fun _ => False := by
  funext b
  apply propext
  constructor
  · rintro (⟨id, o, h1, _⟩ | h)
    · simp at h1
    · exact h
  · intro h; exact h.elim

theorem rep_agg {H : Type} {enc : TypeId × Value → H} {w : World} {sp : Nat → Bool} {held : Bool} {t : TypeId} (ht : t ∈ plain13) {v : Value} {d : DataW H} {ps : List MemPlace} {xs : List D}
    {fuel : Nat} (h : DataW.trod enc Tryz.prog w 0 sp held fuel t v.cells.toList = some (d, ps)) (hx : rdD d = xs) (h1 : xs.length ≠ 1) : RepV w pl0 [] (.agg (xs.map .d)) v := by
  have hr := rd_ok plain13_ok fuel t _ d ps ht h
  rw [hx] at hr
  obtain ⟨r1, r2, r3⟩ := hr
  have key : ∀ cs : Array Value, v = .agg cs → RepV w pl0 [] (.agg (xs.map .d)) v := by
    rintro cs rfl
    have r1' : cs.size = Tryz.prog.cellsOf t := by simpa [Value.cells] using r1
    have r3' : ∀ (j : Nat) (x : D) (v : Value), xs[j]? = some x → cs[j]? = some v → RepD w (fun _ => False) x v := fun j x v a b => r3 j x v a (by simpa [Value.cells] using b)
    refine .agg (by simp; omega) (fun j l v hj hv => ?_) (fun v hv => ?_)
    · rw [List.getElem?_map] at hj
      obtain ⟨x, hx, rfl⟩ := Option.map_eq_some_iff.1 hj
      refine .d ?_
      rw [mut0]
      exact r3' j x v hx hv
    · obtain ⟨j, hj, hv⟩ := Array.mem_iff_getElem.1 hv
      exact (r3' j (xs[j]'(by omega)) v (List.getElem?_eq_getElem _) (by rw [← hv]; exact Array.getElem?_eq_getElem hj)).oneCell
  cases v with
  | agg cs => exact key cs rfl
  | _ => exfalso; apply h1; rw [r2, ← r1]; rfl

theorem rep_one {H : Type} {enc : TypeId × Value → H} {w : World} {sp : Nat → Bool} {held : Bool} {t : TypeId} (ht : t ∈ plain13) {v : Value} {d : DataW H} {ps : List MemPlace} {x : D}
    {fuel : Nat} (h : DataW.trod enc Tryz.prog w 0 sp held fuel t v.cells.toList = some (d, ps)) (hx : rdD d = [x]) (ho : v.cells.toList = [v]) : RepV w pl0 [] (.one (.d x)) v := by
  have hr := rd_ok plain13_ok fuel t _ d ps ht h
  rw [hx, ho] at hr
  obtain ⟨r1, r2, r3⟩ := hr
  have r := r3 0 x v rfl rfl
  refine .one r.oneCell (.d ?_)
  rw [mut0]
  exact r

theorem trodAll_more {H : Type} {enc : TypeId × Value → H} {P : Program} {w : World} {base : Nat} {sp : Nat → Bool} {held : Bool} {t : TypeId} {ts : List TypeId} {v : Value} {vs : List Value} {d : DataW H} {ds : List (DataW H)} {p p' : List MemPlace}
    (h : DataW.Trod enc P w base sp held t v d p) (hs : DataW.TrodAll enc P w base sp held ts vs ds p') : DataW.TrodAll enc P w base sp held (t :: ts) (v :: vs) (d :: ds) (p ++ p') := ⟨p, p', h, hs, rfl⟩

theorem below_of {w w' : World} {μ' : Pl} {h' : AHeap} (g : Go.Vt.Good w pl0 [] w' μ' h') : Below w.heap.size w w' :=
  ⟨g.os, g.tape, g.output, g.size, fun b hb => g.block b hb (by rintro ⟨id, o, h1, _⟩; simp at h1)⟩

theorem post_of_below {H : Type} {enc : TypeId × Value → H} {P : Program} {f : Func} {s : ChangeSpec} {apart fresh handsOn again : Bool} {W W' : World} {args : Array Value} {v : Value} {ds gs : List (DataW H)} {before pa pv : List MemPlace}
    (hW : DataW.Whole enc P f.params.toList s.vars apart W args.toList ds gs before) (hb : Below W.heap.size W W')
    (hres : ∀ (b : Nat) (sp : Nat → Bool) (hd : Bool), DataW.TrodAll enc P W' b sp hd f.resultTypes.toList (v.resultList f.resultTypes.size) (s.fn H (ds ++ gs)).results [])
    (hargs : ∀ sp : Nat → Bool, (∀ p ∈ before, sp p.block = true) → DataW.TrodAll enc P W' 0 sp true f.params.toList args.toList (s.fn H (ds ++ gs)).args pa)
    (hvars : ∀ sp : Nat → Bool, (∀ p ∈ before, sp p.block = true) → DataW.TrodVars enc P W' sp s.vars (s.fn H (ds ++ gs)).vars pv)
    (hps : before = pa ++ pv)
    (hok : ∀ (j : Nat) (t : TypeId) (r : Value), f.resultTypes[j]? = some t → (v.resultList f.resultTypes.size)[j]? = some r → Value.okWide P W' .any 0 t r) :
    s.post enc P f apart fresh handsOn again W args v W' := by
  have hold : ∀ p ∈ before, (fun b => decide (b < W.heap.size)) p.block = true := fun p hp => by simpa using hW.lt p hp
  have hlt := hW.lt
  refine ⟨ds, gs, before, [], pa, pv, hW, hres _ _ _, hargs _ hold, hvars _ hold, World.keptBut_mono (fun p hp => ⟨hp, ?_⟩) (hb.frame (· ∈ before)), fun _ => ?_⟩
  · rw [hps, List.mem_append] at hp
    exact Or.inr hp
  · obtain ⟨_, _, _, _, _, hz, hn⟩ := hW
    refine ⟨hok, _, _, ([] ++ pa) ++ pv, ⟨[] ++ pa, pv, trodAll_append (hargs _ (fun _ _ => rfl)) (hres _ _ _), hvars _ (fun _ _ => rfl), rfl, ?_, ?_⟩, ?_⟩
    · intro b off hp
      have hp' : MemPlace.cell b off ∈ before := by rw [hps]; simpa using hp
      rw [hb.frozen (p := ⟨b, off, none⟩) (hlt _ hp')]
      exact hz b off hp'
    · intro ha
      have := hn ha
      rw [hps] at this
      simpa using this
    · intro p hp _
      rw [hps]
      simpa using hp

end Go.Proofs.YtladjgdhpfcmjaaGreatDoor
