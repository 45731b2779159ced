/- The environment: structures at a path. -/
import Derived.Test.YtdabfkmhkoppcaaGreatDoorVtL4
set_option maxRecDepth 100000
set_option linter.unusedSimpArgs false
namespace Go.Vt.Tryz
open Go.Vt renaming opsW_nil → J6, opsW_cons → J7, again_nil → J8, again_cons → J9, obOf_nil → Ja, obOf_cons → Jb, wadd → Jc, ro → Jd, ob_some → Jm, vif_tt → Jp, vif_ff → Jq, wp_ops → Jv, wp_opsW → Jw, wp_seq → Jy, wp_ret → JC, th_normal → JD, ops_nil → JJ, ops_cons → JK, go_none → JL, put_some → JP, put_none → JQ, asL → JS, asFn → JU, opd_tmp → JV, opd_bool → JX, opd_func → J12, so_move → J13, so_assign → J14, so_box → J16, so_makeFunc → J1a, so_extract → J1b, so_call → J1e, esc_func → J1g, bobj_none → J1h, lk_cons → J1i, so_alloc → J1o, so_fieldAddr → J1p, so_load → J1q, so_store → J1r, so_build → J1s, vload → J1t, mkV → J1u, vstore → J1v, vcells → J1w, known → J1x, toDs → J1y, toD → J1z, fzLs → J1A, fzL → J1B, splice → J1D, vfieldAddr → J1E, vbuild → J1G, vfill → J1H, opds → J1N, opdPairs → J1O, vcaps → J1Y, putBack → J2r, fzIds → J2s, lentVs → J2t, lentV → J2u, lentLs → J2v, lentL → J2w
open List renaming any_cons → Je, any_nil → Jf, contains_cons → Jg, contains_nil → Jh, lookup_nil → J2y, getElem?_cons_zero → J2z, getElem?_cons_succ → J2A, take_succ_cons → J2C, take_zero → J2D, take_nil → J2E, drop_succ_cons → J2F, drop_zero → J2G, drop_nil → J2H, length_cons → J2I, length_nil → J2J, append_nil → J2K, nil_append → J2L, cons_append → J2M, map_nil → J2O, set_cons_zero → J2P, set_cons_succ → J2Q, all_nil → J2T
open Bool renaming or_true → Ji, or_false → Jk, and_true → J2V, false_eq_true → J39
open Nat renaming reduceBEq → J2X, reduceLeDiff → J30, reduceAdd → J31, zero_add → J3c, le_refl → J3d
open Option renaming map_some → J34, bind_some → J36
open Go.Proofs

theorem encSubs_map : ∀ l, encSt.subs l = l.map fun m => D.str m.1 :: encSt m.2
  | [] => rfl
  | (s, x) :: r => by simp [encSt.subs, encSubs_map r]

def encSm (m : ByteArray × Stx) : List D := .str m.1 :: encSt m.2
theorem kndSub : Knd SubE encSub (·.1) 13 := ⟨fun a => ⟨_, rfl⟩, fun a => by obtain ⟨n, ⟨a, b, c, d, e⟩, ⟨f, g, h, i, j, k, l⟩⟩ := a; rfl⟩
theorem kndSm : Knd (ByteArray × Stx) encSm (·.1) 6 := ⟨fun a => ⟨_, rfl⟩, fun a => by obtain ⟨n, ⟨a, b, c, d, e⟩⟩ := a; rfl⟩

def farSub (s : ByteArray) (x : SubE) : Option SubE := (lastOf (·.1) x.2.1.subs s).map fun m => (s, m.2, selT s x.2.2)

def zSm : List L := [.d (.str (ByteArray.mk (Array.mk []))), .nils, .nils, .nils, .nils, .nils]

theorem lst49 : Lst 48 67 137 49 115 177 13 zSub where
  S := ⟨_, _, _, ti48, rfl⟩
  E := ⟨_, _, ti67, rfl⟩
  F := ⟨_, ti137⟩
  bS := bt48
  bE := bt67
  bF := bt137
  last := fn49
  back := fn115
  itr := ⟨Tryz.f177, _, Tryz.func177, rfl, rfl, rfl, by kernel_rfl, by kernel_rfl, rfl⟩
  nB := by kernel_rfl
  zl := rfl
  zr := fun _ => rfl
  zd := fun _ _ => rfl

theorem lst52 : Lst 61 140 143 52 116 178 6 zSm where
  S := ⟨_, _, _, ti61, rfl⟩
  E := ⟨_, _, ti140, rfl⟩
  F := ⟨_, ti143⟩
  bS := bt61
  bE := bt140
  bF := bt143
  last := fn52
  back := fn116
  itr := ⟨Tryz.f178, _, Tryz.func178, rfl, rfl, rfl, by kernel_rfl, by kernel_rfl, rfl⟩
  nB := by kernel_rfl
  zl := rfl
  zr := fun _ => rfl
  zd := fun _ _ => rfl

theorem kinSub : Kin 48 67 137 138 144 49 115 177 50 48 47 51 14 3 where
  eq := fn50
  near := fn48
  look := fn47
  whole := fn14
  nl := by kernel_rfl
  no := by kernel_rfl

theorem vc_farSub (x : SubE) (s : ByteArray) (hx : x.2.1.subs.length < 1000000000) : VC Tryz.prog 51 [.agg ((encSub x).map .d), .one (.d (.str s))] [] fun r h' => FarR encSub 13 (farSub s x) r ∧ h' = [] := by
  obtain ⟨xn, ⟨x1, x2, x3, x4, x5⟩, ⟨y1, y2, y3, y4, y5, y6, y7⟩⟩ := x
  have hl := vc_lastN kndSm lst52 fn53 x3 hx s
  have hsel := vc_sel s (.mk y1 y2 y3 y4 y5 y6 y7)
  rw [show x3.map encSm = encSt.subs x3 from (encSubs_map x3).symm] at hl
  simp only [encSub, encSt, encTm, List.map_cons, List.map_nil, List.cons_append, List.nil_append]
  simp only [tmV, encTm, List.map_cons, List.map_nil, selT] at hsel
  refine VC_of_fn mixed fn51 (by simp) ?_
  show vwp Tryz.prog 0 vc51 _ [(0, .agg [.d (.str xn), .d (.sl (x1.map encTym)), .d (.sl (x2.map encVam)), .d (.sl (encSt.subs x3)), .d (.sl (encSt.funs x4)), .d (.sl (encSt.sigs x5)), .d (.int .i64 y1), .d (.int .i64 y2), .d (.int .i64 y3), .d (.str y4), .d (.sl (txts y5)), .d (.sl (encTt.encs y6)), .d (.sl (encTm.encs y7))]), (1, .one (.d (.str s)))] []
  unfold vc51
  rw [vwpI_eq]
  simp -implicitDefEqProofs only [Jg, Jh, Jk, Jm, Jp, Jv, Jy, JD, JJ, JK, JL, JP, JS, JU, JV, JX, J12, J14, J16, J1a, J1e, J1g, noescs, Jg, J1h, J1i, bt9, bt67, bt67, J1o ti67, J1p ti65 rfl, J1p ti67 rfl, J1q ti61, J1t, J1u, J1w, J1x, J1E, J1N, J1Y, J2y, J2z, J2A, J2F, J2G, J2I, J2J, J2K, J2L, J2M, J2O, J2T, J2V, J2X, J30, J31, ↓reduceIte, reduceCtorEq, beq_self_eq_true, cond_true, cond_false, J34, J36, J39, eq_self, J3c]
  cases e : lastOf (·.1) x3 s with
  | none =>
    rw [e] at hl
    simp only [nearR, zSm] at hl
    refine callS [1] (hl) rfl rfl rfl ?_
    rintro _ _ ⟨rfl, rfl⟩
    refine ⟨_, _, rfl, ?_⟩
    simp -implicitDefEqProofs only [J7, Jc, Jd, Je, Jf, Jg, Jh, Ji, Jk, Jm, Jp, Jq, Jw, Jy, JD, JJ, JK, JL, JP, JQ, JS, JU, JV, J12, J13, J14, J1b, J1e, J1g, noescs, Jg, J1h, J1i, bt140, J1o ti140, J1p ti67 rfl, J1p ti140 rfl, J1q ti9, J1q ti39, J1q ti65, J1r ti140, J1t, J1u, J1v, J1w, J1x, J1y, J1z, J1A, J1B, J1D, J1E, J1N, J2r, J2s, J2t, J2u, J2w, J2y, J2z, J2A, J2C, J2D, J2E, J2F, J2G, J2H, J2I, J2J, J2K, J2L, J2M, J2O, J2P, J2Q, J2T, J2V, J2X, J30, J31, ↓reduceIte, reduceCtorEq, beq_self_eq_true, cond_true, cond_false, J34, J36, J39, eq_self, J3c, J3d]
    refine callS [] (hsel) rfl rfl rfl ?_
    rintro _ _ ⟨rfl, rfl⟩
    refine ⟨_, _, rfl, ?_⟩
    simp -implicitDefEqProofs only [J6, J7, J8, J9, Ja, Jb, Jc, Jd, Je, Jf, Jg, Jh, Ji, Jk, Jm, Jp, Jq, JC, JD, JL, JP, JQ, JS, JV, J14, Jg, J1i, J1p ti140 rfl, J1q ti9, J1q ti65, J1r ti67, J1s ti67, J1t, J1u, J1v, J1w, J1x, J1y, J1z, J1A, J1B, J1D, J1E, J1G, J1H, J1O, J2r, J2s, J2t, J2u, J2v, J2w, J2y, J2z, J2A, J2C, J2D, J2E, J2F, J2G, J2H, J2I, J2J, J2K, J2L, J2M, J2P, J2Q, J2X, J30, J31, ↓reduceIte, reduceCtorEq, beq_self_eq_true, cond_true, cond_false, true_and, and_self, J34, J36, J39, eq_self, J3c, J3d]
    apply vend_of []; rfl; rfl
    rw [show farSub s (xn, .mk x1 x2 x3 x4 x5, .mk y1 y2 y3 y4 y5 y6 y7) = none by simp [farSub, Stx.subs, e]]
    exact ⟨⟨_, _, rfl, rfl, fun _ => rfl, rfl⟩, rfl⟩
  | some m =>
    rw [e] at hl
    obtain ⟨mn, ⟨m1, m2, m3, m4, m5⟩⟩ := m
    simp only [nearR, encSm, encSt, List.map_cons, List.map_nil] at hl
    refine callS [1] (hl) rfl rfl rfl ?_
    rintro _ _ ⟨rfl, rfl⟩
    refine ⟨_, _, rfl, ?_⟩
    simp -implicitDefEqProofs only [J7, Jc, Jd, Je, Jf, Jg, Jh, Ji, Jk, Jm, Jp, Jq, Jw, Jy, JD, JJ, JK, JL, JP, JQ, JS, JU, JV, J12, J13, J14, J1b, J1e, J1g, noescs, Jg, J1h, J1i, bt140, J1o ti140, J1p ti67 rfl, J1p ti140 rfl, J1q ti9, J1q ti39, J1q ti65, J1r ti140, J1t, J1u, J1v, J1w, J1x, J1y, J1z, J1A, J1B, J1D, J1E, J1N, J2r, J2s, J2t, J2u, J2w, J2y, J2z, J2A, J2C, J2D, J2E, J2F, J2G, J2H, J2I, J2J, J2K, J2L, J2M, J2O, J2P, J2Q, J2T, J2V, J2X, J30, J31, ↓reduceIte, reduceCtorEq, beq_self_eq_true, cond_true, cond_false, J34, J36, J39, eq_self, J3c, J3d]
    refine callS [] (hsel) rfl rfl rfl ?_
    rintro _ _ ⟨rfl, rfl⟩
    refine ⟨_, _, rfl, ?_⟩
    simp -implicitDefEqProofs only [J6, J7, J8, J9, Ja, Jb, Jc, Jd, Je, Jf, Jg, Jh, Ji, Jk, Jm, Jp, Jq, JC, JD, JL, JP, JQ, JS, JV, J14, Jg, J1i, J1p ti140 rfl, J1q ti9, J1q ti65, J1r ti67, J1s ti67, J1t, J1u, J1v, J1w, J1x, J1y, J1z, J1A, J1B, J1D, J1E, J1G, J1H, J1O, J2r, J2s, J2t, J2u, J2v, J2w, J2y, J2z, J2A, J2C, J2D, J2E, J2F, J2G, J2H, J2I, J2J, J2K, J2L, J2M, J2P, J2Q, J2X, J30, J31, ↓reduceIte, reduceCtorEq, beq_self_eq_true, cond_true, cond_false, true_and, and_self, J34, J36, J39, eq_self, J3c, J3d]
    apply vend_of []; rfl; rfl
    rw [show farSub s (xn, .mk x1 x2 x3 x4 x5, .mk y1 y2 y3 y4 y5 y6 y7) = some (s, .mk m1 m2 m3 m4 m5, selT s (.mk y1 y2 y3 y4 y5 y6 y7)) by simp [farSub, Stx.subs, e]]
    exact ⟨⟨_, _, rfl, rfl, fun _ => rfl, rfl, rfl⟩, rfl⟩

/-- The structure at a path. -/
def subAt (subs : List SubE) : List ByteArray → Option SubE
  | [] => none
  | [s] => lastOf (·.1) subs s
  | s :: t :: r => (subAt subs (t :: r)).bind (farSub s)

theorem lookS_rev {α : Type} (subs : List SubE) (near : Option α) (far : ByteArray → SubE → Option α) : ∀ p : List ByteArray, lookS p.reverse near (subAt subs p.tail) (far (p.reverse.getLastD ByteArray.empty)) = match p with | [] => none | [_] => near | s :: r => (subAt subs r).bind (far s)
  | [] => rfl
  | [s] => rfl
  | s :: t :: r => by
    have h1 : (s :: t :: r).reverse.getLastD ByteArray.empty = s := by simp [List.getLastD_eq_getLast?]
    rw [h1]
    have h2 : 2 ≤ ((s :: t :: r).reverse).length := by simp
    generalize (s :: t :: r).reverse = q at h2
    rcases q with _ | ⟨a, _ | ⟨b, c⟩⟩
    · simp at h2
    · simp at h2
    · rfl

/-! ### How great it is -/

def sumN {α : Type} (f : α → Nat) : List α → Nat
  | [] => 0
  | a :: r => f a + sumN f r
theorem sumN_mem {α : Type} {f : α → Nat} : ∀ {l : List α} {a : α}, a ∈ l → f a ≤ sumN f l
  | b :: r, a, h => by
    rcases List.mem_cons.1 h with rfl | h
    · simp [sumN]
    · have := sumN_mem (f := f) h; simp only [sumN]; omega
theorem sumN_length {α : Type} {f : α → Nat} (hf : ∀ a, 1 ≤ f a) : ∀ l : List α, l.length ≤ sumN f l
  | [] => Nat.le_refl _
  | a :: r => by have := sumN_length hf r; have := hf a; simp only [sumN, List.length_cons]; omega

def ctn (c : Ct) : Nat := 1 + tyn.go c.args
def tymn (m : Tym) : Nat := 1 + tyn m.t + sumN ctn m.cts
def vamn (m : Vam) : Nat := 1 + tyn m.s.t
def stn : Stx → Nat
  | .mk ts vs ss fs gs => 1 + sumN tymn ts + sumN vamn vs + goS ss + goF fs + goG gs
  where
  goS : List (ByteArray × Stx) → Nat
    | [] => 0
    | (_, x) :: r => 1 + stn x + goS r
  goF : List (ByteArray × List Int × Stx × List Int × Stx) → Nat
    | [] => 0
    | (_, l, x, m, y) :: r => 1 + l.length + stn x + m.length + stn y + goF r
  goG : List (ByteArray × List Int × Stx) → Nat
    | [] => 0
    | (_, l, x) :: r => 1 + l.length + stn x + goG r

theorem stn_mem : ∀ {l : List (ByteArray × Stx)} {m : ByteArray × Stx}, m ∈ l → stn m.2 ≤ stn.goS l
  | (a, b) :: r, m, h => by
    rcases List.mem_cons.1 h with rfl | h
    · simp [stn.goS]; omega
    · have := stn_mem h; simp only [stn.goS]; omega
theorem stn_memF : ∀ {l : List (ByteArray × List Int × Stx × List Int × Stx)} {m : ByteArray × List Int × Stx × List Int × Stx}, m ∈ l → m.2.1.length + stn m.2.2.1 + m.2.2.2.1.length + stn m.2.2.2.2 ≤ stn.goF l
  | (a, b, c, d, e) :: r, m, h => by
    rcases List.mem_cons.1 h with rfl | h
    · simp [stn.goF]; omega
    · have := stn_memF h; simp only [stn.goF]; omega
theorem stn_memG : ∀ {l : List (ByteArray × List Int × Stx)} {m : ByteArray × List Int × Stx}, m ∈ l → m.2.1.length + stn m.2.2 ≤ stn.goG l
  | (a, b, c) :: r, m, h => by
    rcases List.mem_cons.1 h with rfl | h
    · simp [stn.goG]; omega
    · have := stn_memG h; simp only [stn.goG]; omega
theorem goS_length : ∀ l : List (ByteArray × Stx), l.length ≤ stn.goS l
  | [] => Nat.le_refl _
  | (a, b) :: r => by have := goS_length r; simp only [stn.goS, List.length_cons]; omega
theorem goF_length : ∀ l : List (ByteArray × List Int × Stx × List Int × Stx), l.length ≤ stn.goF l
  | [] => Nat.le_refl _
  | (a, b, c, d, e) :: r => by have := goF_length r; simp only [stn.goF, List.length_cons]; omega
theorem goG_length : ∀ l : List (ByteArray × List Int × Stx), l.length ≤ stn.goG l
  | [] => Nat.le_refl _
  | (a, b, c) :: r => by have := goG_length r; simp only [stn.goG, List.length_cons]; omega

theorem lastOf_mem {α : Type} {nm : α → ByteArray} {l : List α} {s : ByteArray} {a : α} (h : lastOf nm l s = some a) : a ∈ l ∧ nm a = s := by
  unfold lastOf at h
  refine ⟨List.mem_reverse.1 (List.mem_of_find?_eq_some h), ?_⟩
  have := List.find?_some h
  simpa using this

theorem subAt_small {subs : List SubE} {B : Nat} (hB : ∀ x ∈ subs, stn x.2.1 ≤ B) : ∀ (p : List ByteArray) (x : SubE), subAt subs p = some x → stn x.2.1 ≤ B
  | [], _, h => by cases h
  | [s], x, h => hB x (lastOf_mem h).1
  | s :: t :: r, x, h => by
    unfold subAt at h
    cases e : subAt subs (t :: r) with
    | none => rw [e] at h; cases h
    | some y =>
      rw [e] at h
      have hy := subAt_small hB (t :: r) y e
      simp only [Option.bind_some, farSub] at h
      cases e2 : lastOf (·.1) y.2.1.subs s with
      | none => rw [e2] at h; cases h
      | some m =>
        rw [e2] at h
        cases h
        have hm := stn_mem (lastOf_mem e2).1
        obtain ⟨yn, ⟨a, b, c, d, f⟩, yt⟩ := y
        simp only [stn, Stx.subs] at hy hm ⊢
        omega

theorem subs_small {x : Stx} {B : Nat} (h : stn x ≤ B) : x.subs.length ≤ B ∧ x.vals.length ≤ B ∧ x.types.length ≤ B ∧ x.funs.length ≤ B ∧ x.sigs.length ≤ B := by
  obtain ⟨a, b, c, d, e⟩ := x
  simp only [stn] at h
  simp only [Stx.subs, Stx.vals, Stx.types, Stx.funs, Stx.sigs]
  have h1 := sumN_length (f := tymn) (fun m => by simp [tymn]; omega) a
  have h2 := sumN_length (f := vamn) (fun m => by simp [vamn]) b
  have h3 := goS_length c
  have h4 := goF_length d
  have h5 := goG_length e
  omega

/-- **The structure at a path.** -/
theorem vc_Sub {d0 d1 d2 d4 d5 : D} {subs : List SubE} (hl : subs.length < 1000000000) (hB : ∀ x ∈ subs, stn x.2.1 ≤ 999999990) : ∀ p : List ByteArray, p.length < 1000000000 →
    VC Tryz.prog 14 [.agg [.d d0, .d d1, .d d2, .d (.sl (subs.map encSub)), .d d4, .d d5], .one (.d (.sl (txts p.reverse)))] [] fun r h' => r = resR encSub zSub (subAt subs p) ∧ h' = [] := by
  intro p
  induction p with
  | nil =>
    intro hp
    exact vc_wholeG kndSub lst49 kinSub [] hp subs hl rfl (subAt subs []) (fun h => by simp at h) farSub (fun x s h => by cases h)
  | cons s r ih =>
    intro hp
    simp only [List.length_cons] at hp
    have ih := ih (by omega)
    have := vc_wholeG (d0 := d0) (d1 := d1) (d2 := d2) (d4 := d4) (d5 := d5) kndSub lst49 kinSub (s :: r).reverse (by simpa using hp) subs hl rfl (subAt subs r) (fun _ => by
      rw [show (s :: r).reverse.dropLast = r.reverse by simp]
      exact ih) farSub (fun x s h => vc_farSub x s (by have := (subs_small (subAt_small hB r x h)).1; omega))
    rw [show lookS (s :: r).reverse (lastOf (·.1) subs ((s :: r).reverse.headD ByteArray.empty)) (subAt subs r) (farSub ((s :: r).reverse.getLastD ByteArray.empty)) = subAt subs (s :: r) from ?_] at this
    · exact this
    · have := lookS_rev subs (lastOf (·.1) subs ((s :: r).reverse.headD ByteArray.empty)) farSub (s :: r)
      simp only [List.tail_cons] at this
      rw [this]
      cases r with
      | nil => rfl
      | cons t r => rfl

end Go.Vt.Tryz
