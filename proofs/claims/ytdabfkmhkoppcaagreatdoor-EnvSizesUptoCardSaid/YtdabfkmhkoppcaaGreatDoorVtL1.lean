/- The environment: the last thing of a list for which something holds; for all types at once. -/
import Derived.Test.YtdabfkmhkoppcaaGreatDoorVtN3
set_option maxRecDepth 100000
set_option linter.unusedSimpArgs false
namespace Go.Vt.Tryz
open Go.Proofs

/-! ### An iterator's code, by hand -/

section iter
variable {P : Program} {n : Nat} {Y : Rounds} {T : Sl} {ys : List Tmp} {h : AHeap} {pd : Option VX}

theorem vop_st {l : List VOp} {d : Option Tmp} {op : Op} {r : V} {h' : AHeap} {K : Sl → AHeap → Prop} (hv : vop P T h (mkO op) = some (r, h')) (hk : vops P l (tput T d r) h' K) : vops P (VOp.mk d op none :: l) T h K := by
  show vgoO P (VOp.mk d op none) T h _
  unfold vgoO vstepO vstep
  simp only [hv]
  exact hk

theorem y_st {l : List VOp} {d : Option Tmp} {op : Op} {r : V} {h' : AHeap} {K : KO} (hy : yop (VOp.mk d op none) ys = .no) (hv : vop P T h (mkO op) = some (r, h')) (hk : vopsY P Y l (tput T d r) (dropT d ys) h' pd K) : vopsY P Y (VOp.mk d op none :: l) T ys h pd K := by
  show vgoY P Y (VOp.mk d op none) T ys h pd _
  unfold vgoY
  rw [hy]
  show vgoO P (VOp.mk d op none) T h _
  unfold vgoO vstepO vstep
  simp only [hv]
  exact hk

theorem y_mv {l : List VOp} {d : Tmp} {op : Op} {K : KO} (hy : yop (VOp.mk (some d) op none) ys = .mv d) (hk : vopsY P Y l ((d, .one .any) :: T) (d :: ys) h pd K) : vopsY P Y (VOp.mk (some d) op none :: l) T ys h pd K := by
  show vgoY P Y (VOp.mk (some d) op none) T ys h pd _
  unfold vgoY
  rw [hy]
  exact hk

theorem y_yl {l : List VOp} {d : Option Tmp} {op : Op} {args : List Operand} {vs : List V} {K : KO} (hy : yop (VOp.mk d op none) ys = .yl args) (ha : opds T args = some vs) (hk : Y vs h fun pd' h' => vopsY P Y l (tput T d (.one (.d (.bool pd'.isNone)))) (dropT d ys) h' pd' K) : vopsY P Y (VOp.mk d op none :: l) T ys h none K := by
  show vgoY P Y (VOp.mk d op none) T ys h none _
  unfold vgoY
  rw [hy]
  exact ⟨rfl, vs, ha, hk⟩

theorem beq_f {a b : Nat} (h : a ≠ b) : Nat.beq a b = false := by
  cases e : Nat.beq a b with
  | false => rfl
  | true => exact absurd (Nat.eq_of_beq_eq_true e) h

/-- The slots that hold yield. -/
inductive Yd : Nat → List Tmp → Prop
  | base : Yd 0 [0]
  | more {b : Nat} {ys : List Tmp} : Yd b ys → Yd (b + 1) (11 :: ys)

theorem Yd.mem0 {b : Nat} {ys : List Tmp} (hy : Yd b ys) : memT 0 ys = true := by
  induction hy with
  | base => rfl
  | more _ ih => exact ih

theorem Yd.memN {b j : Nat} {ys : List Tmp} (hy : Yd b ys) (h0 : j ≠ 0) (h1 : j ≠ 11) : memT j ys = false := by
  induction hy with
  | base => show (Nat.beq j 0 || false) = false; rw [beq_f h0]; rfl
  | @more b ys _ ih => show (Nat.beq j 11 || memT j ys) = false; rw [beq_f h1, ih]; rfl

theorem Yd.drop {b d : Nat} {ys : List Tmp} (h0 : d ≠ 0) (h1 : d ≠ 11) (hy : Yd b ys) : Yd b (dropT (some d) ys) := by
  induction hy with
  | base => show Yd 0 (if Nat.beq 0 d = true then [] else [0]); rw [beq_f (Ne.symm h0)]; exact .base
  | @more b ys _ ih =>
    show Yd (b + 1) (if Nat.beq 11 d = true then dropT (some d) ys else 11 :: dropT (some d) ys)
    rw [beq_f (Ne.symm h1)]
    exact .more ih

theorem z_st {b : Nat} {l : List VOp} {d : Tmp} {op : Op} {r : V} {h' : AHeap} {K : KO} (hy : Yd b ys) (hop : yop (VOp.mk (some d) op none) ys = .no) (h0 : d ≠ 0) (h1 : d ≠ 11) (hv : vop P T h (mkO op) = some (r, h')) (hk : ∀ ys, Yd b ys → vopsY P Y l ((d, r) :: T) ys h' pd K) : vopsY P Y (VOp.mk (some d) op none :: l) T ys h pd K :=
  y_st hop hv (hk _ (hy.drop h0 h1))

theorem yop_mv {b d i : Nat} (hy : Yd b ys) (h0 : i ≠ 0) (h1 : i ≠ 11) : yop (VOp.mk (some d) (.move (.tmp i)) none) ys = .no := by
  show (if memT i ys = true then YOp.mv d else .no) = _
  rw [hy.memN h0 h1]
  rfl

theorem z_mv {b : Nat} {l : List VOp} {K : KO} (hy : Yd b ys) (hk : ∀ ys, Yd (b + 1) ys → vopsY P Y l ((11, .one .any) :: T) ys h pd K) : vopsY P Y (VOp.mk (some 11) (.move (.tmp 0)) none :: l) T ys h pd K := by
  refine y_mv ?_ (hk _ ?_)
  · show (if memT 0 ys = true then YOp.mv 11 else .no) = _
    rw [hy.mem0]
    rfl
  · exact .more hy

theorem z_yl {b : Nat} {l : List VOp} {d : Tmp} {args : Array Operand} {ts : Array TypeId} {vs : List V} {K : KO} (hy : Yd (b + 1) ys) (h0 : d ≠ 0) (h1 : d ≠ 11) (ha : opds T args.toList = some vs) (hk : ∀ ys, Yd (b + 1) ys → Y vs h fun pd' h' => vopsY P Y l ((d, .one (.d (.bool pd'.isNone))) :: T) ys h' pd' K) : vopsY P Y (VOp.mk (some d) (.call (.mk (.value (.tmp 11)) args ts)) none :: l) T ys h none K := by
  refine y_yl (args := args.toList) ?_ ha (hk _ (hy.drop h0 h1))
  show (if memT 11 ys = true then YOp.yl args.toList else .no) = _
  have : memT 11 ys = true := by
    cases hy with
    | more _ => rfl
  rw [this]
  rfl

theorem idx_range : ∀ {l : List Nat} {id : Nat} {n : Nat}, l = List.range n → id < n → idx l id = some id := by
  have key : ∀ (m s id : Nat), s ≤ id → id < s + m → idx (List.range' s m) id = some (id - s) := by
    intro m
    induction m with
    | zero => intro s id h1 h2; omega
    | succ m ih =>
      intro s id h1 h2
      rw [List.range'_succ]
      show (if s = id then some 0 else (idx (List.range' (s + 1) m) id).map (· + 1)) = _
      split
      · rename_i e; subst e; simp
      · rw [ih (s + 1) id (by omega) (by omega)]
        simp only [Option.map_some]
        congr 1
        omega
  intro l id n e hlt
  subst e
  rw [List.range_eq_range', key n 0 id (by omega) (by omega)]
  simp

theorem handO_app {m : Nat → Option Nat} {h r : AHeap} : ∀ {ids : List Nat} {x : AHeap}, handO h m ids = some x → handO (h ++ r) m ids = some x
  | [], _, e => e
  | id :: l, x, e => by
    unfold handO at e ⊢
    cases ho : h[id]? with
    | none => simp [ho] at e
    | some o =>
      have hlt : id < h.length := (List.getElem?_eq_some_iff.1 ho).1
      rw [List.getElem?_append_left hlt, ho]
      simp only [ho] at e ⊢
      cases h1 : renO m o with
      | none => simp [h1] at e
      | some x1 =>
        cases h2 : handO h m l with
        | none => simp [h1, h2] at e
        | some x2 =>
          simp only [h1, h2] at e
          simp only [handO_app h2]
          exact e

theorem nodup_range (n : Nat) : nodup (List.range n) = true := by
  have key : ∀ (m s : Nat), nodup (List.range' s m) = true := by
    intro m
    induction m with
    | zero => intro s; rfl
    | succ m ih =>
      intro s
      rw [List.range'_succ]
      show (!(List.range' (s + 1) m).contains s && nodup (List.range' (s + 1) m)) = true
      rw [ih]
      simp [List.mem_range']
      omega
  rw [List.range_eq_range']
  exact key n 0

theorem wrap_p {z : Int} (h1 : -1 ≤ z) (h2 : z < 1000000000) : IntKind.i64.wrap z = z := by rw [IntKind.wrap_i64]; omega

theorem yw_skip {K : KY} : vwpY P n Y .skip K T ys h pd = K .normal T ys h pd := rfl
theorem yw_ops {l : List VOp} {K : KY} : vwpY P n Y (.ops l) K T ys h pd = vopsY P Y l T ys h pd (K .normal) := rfl
theorem yw_seq {a b : VCode} {K : KY} : vwpY P n Y (.seq a b) K T ys h pd = vwpY P n Y a (ythen (vwpY P n Y b K) K) T ys h pd := rfl
theorem yw_cond {c : Operand} {x y : VCode} {K : KY} : vwpY P n Y (.cond c x y) K T ys h pd = vcond (opd T c) (vwpY P n Y x K T ys h pd) (vwpY P n Y y K T ys h pd) := rfl
theorem yw_block {id : Nat} {c : VCode} {K : KY} : vwpY P n Y (.block id c) K T ys h pd = vwpY P n Y c (yblock id K) T ys h pd := rfl
theorem yw_loop {c : VCode} {K : KY} : vwpY P n Y (.loop c) K T ys h pd = ∃ I : Nat → KO, (∃ k T0 h0, Keep n T h T0 h0 ∧ I k T0 ys h0 pd) ∧
      ∀ k T ys h pd, I k T ys h pd → vwpY P n Y c (ythen (fun T' ys' h' pd' => ∃ m T0 h0, m < k ∧ Keep n T' h' T0 h0 ∧ I m T0 ys' h0 pd') K) T ys h pd := rfl
theorem yw_exit {id : Nat} {K : KY} : vwpY P n Y (.exit id) K T ys h pd = K (.exit id) T ys h pd := rfl
theorem yw_ret {K : KY} : vwpY P n Y .ret K T ys h pd = K .ret T ys h pd := rfl
theorem yops_nil {K : KO} : vopsY P Y [] T ys h pd K = K T ys h pd := rfl
end iter

def cItr (tS tE : TypeId) : VCode := (VCode.ops [VOp.mk (some 4) (.load tS (.tmp 1)) none, VOp.mk (some 5) (.call (.mk (.builtin .len) #[.tmp 4] #[tS])) none, VOp.mk (some 6) (.binOp .sub 3 (.tmp 5) (.const (.int .i64 1)) 3) none, VOp.mk (some 3) (.assign (.tmp 6)) none]).seq (VCode.block 0 (((VCode.ops [VOp.mk (some 7) (.move (.tmp 3)) none, VOp.mk (some 8) (.binOp .geq 3
  (.tmp 7) (.const (.int .i64 0)) 3) none]).seq (VCode.cond (.tmp 8) VCode.skip (VCode.exit 0))).seq ((VCode.block 1 ((VCode.ops [VOp.mk (some 11) (.move (.tmp 0)) none, VOp.mk (some 12) (.move (.tmp 3)) none, VOp.mk (some 13) (.load tS (.tmp 1)) none, VOp.mk (some 14) (.move (.tmp 3)) none, VOp.mk (some 15) (.indexAddr tS (.tmp 13) (.tmp 14)) none,
  VOp.mk (some 16) (.load tE (.tmp 15)) none, VOp.mk (some 17) (.call (.mk (.value (.tmp 11)) #[.tmp 12, .tmp 16] #[3, tE])) none, VOp.mk (some 18) (.unOp .not 4 (.tmp 17)) none]).seq (VCode.cond (.tmp 18) VCode.ret VCode.skip))).seq (VCode.ops [VOp.mk (some 9) (.move (.tmp 3)) none, VOp.mk (some 10) (.binOp .sub 3 (.tmp 9) (.const (.int .i64 1)) 3)
  none, VOp.mk (some 3) (.assign (.tmp 10)) none]))).loop)

def cBack (tS : TypeId) (fI : FuncId) : VCode := (VCode.ops [VOp.mk (some 1) (.box tS (.tmp 0)) none, VOp.mk (some 2) (.assign (.const .nilFunc)) none]).seq ((VCode.ops [VOp.mk (some 3) (.makeFunc (.func fI) #[] #[.tmp 1]) none, VOp.mk (some 2) (.assign (.tmp 3)) none]).seq VCode.ret)

def cLast (tS tE tF : TypeId) (fB : FuncId) : VCode := (VCode.ops [VOp.mk (some 3) (.box tF (.tmp 1)) none, VOp.mk (some 4) (.alloc tE) none, VOp.mk (some 5) (.alloc 4) none]).seq (((VCode.ops [VOp.mk (some 9)
  (.move (.tmp 0)) none, VOp.mk (some 10) (.call (.mk (.value (.func fB)) #[.tmp 9] #[tS])) none]).seq (VCode.block 0 (VCode.rangeF (.tmp 10) [11, 12] (VCode.ops [VOp.mk (some 7)
  (.alloc tE) none, VOp.mk none (.store tE (.tmp 7) (.tmp 12)) none]) (VCode.block 1 ((VCode.ops [VOp.mk (some 13) (.load tF (.tmp 3)) none, VOp.mk (some 14) (.load tE (.tmp 7))
  none, VOp.mk (some 15) (.call (.mk (.value (.tmp 13)) #[.tmp 14] #[tE])) none]).seq (VCode.cond (.tmp 15) ((VCode.ops [VOp.mk (some 16) (.load tE (.tmp 7)) none, VOp.mk none
  (.store tE (.tmp 4) (.tmp 16)) none, VOp.mk none (.store 4 (.tmp 5) (.const (.bool true))) none]).seq VCode.ret) VCode.skip)))))).seq ((VCode.ops [VOp.mk (some 8) (.alloc tE)
  none]).seq ((VCode.ops [VOp.mk (some 17) (.load tE (.tmp 8)) none, VOp.mk none (.store tE (.tmp 4) (.tmp 17)) none, VOp.mk none (.store 4 (.tmp 5) (.const (.bool false)))
  none]).seq VCode.ret)))

/-- What is known of the types and functions of one instance. -/
structure Lst (tS tE tF : TypeId) (fl fB fI : FuncId) (k : Nat) (zs : List L) : Prop where
  S : ∃ b z e, ti Tryz.prog tS = some (TI.mk 1 b false z TK.slice [] (some e)) ∧ e.size = k
  E : ∃ b fs, ti Tryz.prog tE = some (TI.mk k b true (some (.agg zs)) TK.struct fs none) ∧ fs[0]? = some (0, 1, false)
  F : ∃ b, ti Tryz.prog tF = some (TI.mk 1 b false (some (.one .nilf)) TK.func [] none)
  bS : bty Tryz.prog tS = none
  bE : bty Tryz.prog tE = none
  bF : bty Tryz.prog tF = none
  last : FnOk Tryz.prog fl 18 (cLast tS tE tF fB) [.cell 4 tE, .cell 5 4]
  back : FnOk Tryz.prog fB 4 (cBack tS fI) [.tmp 2]
  itr : ItOk Tryz.prog fI 19 (cItr tS tE)
  nB : noEsc Tryz.prog fB = false
  zl : zs.length = k
  zr : ∀ m, renL.renLs m zs = some zs
  zd : ∀ h ids, lendLs h ids zs = some zs

theorem vop_int {T : Sl} {h : AHeap} {op : BinOp} {x y : Operand} {a b : Int} {d : D} (hx : opd T x = some (.one (.d (.int .i64 a)))) (hy : opd T y = some (.one (.d (.int .i64 b)))) (hd : vbin2 Tryz.prog h 3 (.int .i64) op (.one (.d (.int .i64 a))) (.one (.d (.int .i64 b))) = some d) : vop Tryz.prog T h (mkO (.binOp op 3 x y 3)) = some (.one (.d d), h) := by
  simp only [vop, hx, hy, ti3, hd]

/-- **The iterator**: round for round, from behind. -/
theorem back_wp {tS tE tF : TypeId} {fl fB fI : FuncId} {k : Nat} {zs : List L} (H : Lst tS tE tF fl fB fI k zs) {n : Nat} {Y : Rounds} {es : List (List D)} (hes : ∀ x ∈ es, x.length = k) (hbig : es.length < 1000000000) {h : AHeap} {id : Nat} (hid : h[id]? = some (.box [.d (.sl es)]))
    (hn : id < n) (hh : handO h (idx (List.range n)) (List.range n) = some h) {K : VX → Sl → AHeap → Prop} {T0 : Sl} (Pass : Nat → Prop)
    (hround : ∀ i x, es[i]? = some x → (∀ j, i < j → j < es.length → Pass j) → ∀ K' : Option VX → AHeap → Prop, (∀ r, Pass i → K' none (h ++ r)) → (∀ h', K .ret T0 h' → K' (some .ret) h') → Y [.one (.d (.int .i64 i)), .agg (x.map .d)] h K')
    (hend : (∀ j, j < es.length → Pass j) → K .normal T0 h) :
    vwpY Tryz.prog n Y (cItr tS tE) (vitend K T0) [(0, .one .any), (1, .one (.ptr id 0))] [0] h none := by
  refine H.S.elim fun bS g => g.elim fun zS g => g.elim fun eS g => ?_
  have hS := g.1
  have hSk := g.2
  refine H.E.elim fun bE g => g.elim fun fs g => ?_
  have hE := g.1
  unfold cItr
  rw [yw_seq, yw_ops]
  refine y_st rfl (r := .one (.d (.sl es))) (h' := h) (by simp [vop, hS, opd, vload, hid, mkV, List.lookup]) ?_
  refine y_st rfl (r := .one (.d (.int .i64 es.length))) (h' := h) (by simp [vop, hS, opd, vlen, List.lookup, tput]) ?_
  refine y_st rfl (r := .one (.d (.int .i64 ((es.length : Int) - 1)))) (h' := h) (vop_int (a := es.length) (b := 1) rfl rfl ?_) ?_
  · simp only [vbin2, vbin, vint]
    rw [wrap_p (by omega) (by omega)]
    simp
  refine y_st rfl (r := .one (.d (.int .i64 ((es.length : Int) - 1)))) (h' := h) rfl ?_
  rw [yops_nil, ythen, yw_block, yw_loop]
  refine ⟨fun m T ys h1 pd => m ≤ es.length ∧ T = [(0, .one .any), (1, .one (.ptr id 0)), (3, .one (.d (.int .i64 ((m : Int) - 1))))] ∧ (∃ b, Yd b ys) ∧ h1 = h ∧ pd = none ∧ ∀ j, m ≤ j → j < es.length → Pass j, ⟨es.length, _, h, ?_, Nat.le_refl _, rfl, ⟨0, .base⟩, rfl, rfl, fun j h1 h2 => absurd h2 (by omega)⟩, ?_⟩
  · refine keepI (List.range n) h (WkH.refl _) (nodup_range n) (by rw [List.take_of_length_le (by simp)]) hh ⟨⟨_, WkV.refl _, rfl⟩, ⟨_, WkV.refl _, ?_⟩, ⟨_, WkV.refl _, rfl⟩, trivial⟩
    simp [lendR, lendV, lendL, renL, idx_range rfl hn]
  · rintro m T ys h1 pd ⟨hm, rfl, ⟨b, hys⟩, rfl, rfl, hp⟩
    rw [yw_seq, yw_seq, yw_ops]
    refine z_st hys (yop_mv hys (by decide) (by decide)) (by decide) (by decide) (r := .one (.d (.int .i64 ((m : Int) - 1)))) (h' := h1) rfl fun ys hys => ?_
    refine z_st hys rfl (by decide) (by decide) (r := .one (.d (.bool (decide (0 ≤ (m : Int) - 1))))) (h' := h1) (vop_int (a := (m : Int) - 1) (b := 0) rfl rfl rfl) fun ys hys => ?_
    rw [yops_nil, ythen, yw_cond]
    refine ⟨fun e => ?_, fun e => ?_⟩
    · rw [yw_skip, ythen, yw_seq, yw_block, yw_seq, yw_ops]
      have e : 0 ≤ (m : Int) - 1 := of_decide_eq_true e
      obtain ⟨i, rfl⟩ : ∃ i, m = i + 1 := ⟨m - 1, by omega⟩
      have hi : i < es.length := by omega
      have hx : es[i]? = some es[i] := List.getElem?_eq_getElem hi
      have hk : es[i].length = k := hes _ (List.getElem_mem hi)
      have hcast : ((i + 1 : Nat) : Int) - 1 = i := by omega
      rw [hcast] at *
      generalize es[i] = x at hx hk
      refine z_mv hys fun ys hys => ?_
      refine z_st hys (yop_mv hys (by decide) (by decide)) (by decide) (by decide) (r := .one (.d (.int .i64 i))) (h' := h1) rfl fun ys hys => ?_
      refine z_st hys rfl (by decide) (by decide) (r := .one (.d (.sl es))) (h' := h1) (by simp [vop, hS, opd, vload, hid, mkV, List.lookup, tput]) fun ys hys => ?_
      refine z_st hys (yop_mv hys (by decide) (by decide)) (by decide) (by decide) (r := .one (.d (.int .i64 i))) (h' := h1) rfl fun ys hys => ?_
      refine z_st hys rfl (by decide) (by decide) (r := .one (.ref x)) (h' := h1) (by simp [vop, hS, opd, vindexAddr, List.lookup, tput, hx, hk, hSk]) fun ys hys => ?_
      refine z_st hys rfl (by decide) (by decide) (r := .agg (x.map .d)) (h' := h1) (by simp [vop, hE, opd, vload, mkV, List.lookup, tput, hk]; rw [← List.map_take, List.take_of_length_le (by omega)]) fun ys hys => ?_
      refine z_yl hys (by decide) (by decide) (vs := [.one (.d (.int .i64 i)), .agg (x.map .d)]) rfl (fun ys hys => hround i x hx (fun j h1 h2 => hp j (by omega) h2) _ (fun r hpi => ?_) (fun h' hK => ?_))
      · refine z_st hys rfl (by decide) (by decide) (r := .one (.d (.bool false))) (h' := h1 ++ r) rfl fun ys hys => ?_
        rw [yops_nil, ythen, yw_cond]
        refine ⟨fun e => (by cases e), fun _ => ?_⟩
        rw [yw_skip, yblock, ythen, yw_ops]
        refine z_st hys (yop_mv hys (by decide) (by decide)) (by decide) (by decide) (r := .one (.d (.int .i64 i))) (h' := h1 ++ r) rfl fun ys hys => ?_
        refine z_st hys rfl (by decide) (by decide) (r := .one (.d (.int .i64 ((i : Int) - 1)))) (h' := h1 ++ r) (vop_int (a := i) (b := 1) rfl rfl ?_) (fun ys hys => ?_)
        · simp only [vbin2, vbin, vint]
          rw [wrap_p (by omega) (by omega)]
          simp
        refine z_st hys rfl (by decide) (by decide) (r := .one (.d (.int .i64 ((i : Int) - 1)))) (h' := h1 ++ r) rfl fun ys hys => ?_
        rw [yops_nil, ythen]
        refine ⟨i, _, h1, Nat.lt_succ_self i, ?_, by omega, rfl, ⟨_, hys⟩, rfl, rfl, fun j h1 h2 => ?_⟩
        · refine keepI (List.range n) (h1 ++ r) (WkH.refl _) (nodup_range n) (by rw [List.take_of_length_le (by simp)]) (handO_app hh) ⟨⟨_, WkV.refl _, rfl⟩, ⟨_, WkV.refl _, ?_⟩, ⟨_, WkV.refl _, rfl⟩, trivial⟩
          simp [lendR, lendV, lendL, renL, idx_range rfl hn]
        · by_cases e : j = i
          · subst e; exact hpi
          · exact hp j (by omega) h2
      · refine z_st hys rfl (by decide) (by decide) (r := .one (.d (.bool true))) (h' := h') rfl fun ys hys => ?_
        rw [yops_nil, ythen, yw_cond]
        exact ⟨fun _ => hK, fun e => (by cases e)⟩
    · have e : ¬ 0 ≤ (m : Int) - 1 := of_decide_eq_false e
      have : m = 0 := by omega
      subst this
      exact hend fun j hj => hp j (Nat.zero_le _) hj

end Go.Vt.Tryz
set_option maxRecDepth 100000
set_option linter.unusedSimpArgs false
namespace Go.Vt.Tryz
open Go.Proofs

section
variable {P : Program} {n : Nat} {T : Sl} {h : AHeap} {Q : VX → Sl → AHeap → Prop}

theorem vcall_st {l : List VOp} {d : Option Tmp} {f : Operand} {args : Array Operand} {ts : Array TypeId} {f' : FuncId} {caps : List L} {vs : List V} {K : Sl → AHeap → Prop} (hn : escOf P f = false) (hf : opd T f = some (.one (.fn f' caps))) (ha : opds T args.toList = some vs) (hcap : caps.all (capOk h) = true)
    (hk : @vcallI P f' (vs ++ caps.map .one) h ⟨fun r => vops P l (tput T d r.1) r.2 K⟩) : vops P (VOp.mk d (.call (.mk (.value f) args ts)) none :: l) T h K := by
  show @vgoI P _ T h ⟨fun p => vops P l p.1 p.2 K⟩
  rw [go_none, so_call hn, hf]
  simp only [asFn, ob_some, ha, List.all_nil, Bool.true_and, hcap, vif_tt, List.map_nil, List.nil_append]
  exact hk

theorem vw_skip : vwp P n .skip Q T h = Q .normal T h := rfl
theorem vw_ops {l : List VOp} : vwp P n (.ops l) Q T h = vops P l T h (Q .normal) := rfl
theorem vw_seq {a b : VCode} : vwp P n (.seq a b) Q T h = vwp P n a (vthen (vwp P n b Q) Q) T h := rfl
theorem vw_cond {c : Operand} {x y : VCode} : vwp P n (.cond c x y) Q T h = vcond (opd T c) (vwp P n x Q T h) (vwp P n y Q T h) := rfl
theorem vw_block {id : Nat} {c : VCode} : vwp P n (.block id c) Q T h = vwp P n c (vblock id Q) T h := rfl
theorem vw_ret : vwp P n .ret Q T h = Q .ret T h := rfl
theorem vb_normal {id : Nat} : vblock id Q .normal = Q .normal := rfl
theorem vt_normal {A : Sl → AHeap → Prop} : vthen A Q .normal = A := rfl
theorem vops_nil {K : Sl → AHeap → Prop} : vops P [] T h K = K T h := rfl

theorem known_ds (x : List D) : known (.agg (x.map .d)) = true := rfl
theorem lendLs_ds {ids : List Nat} : ∀ x : List D, lendLs h ids (x.map .d) = some (x.map .d)
  | [] => rfl
  | d :: r => by simp only [List.map_cons, lendLs, lendLs_ds r]; rfl
theorem lentLs_ds {ids : List Nat} : ∀ x : List D, lentLs ids (x.map .d) = []
  | [] => rfl
  | d :: r => by simp only [List.map_cons, lentLs, lentLs_ds r]; rfl
end

theorem vc_backG {tS tE tF : TypeId} {fl fB fI : FuncId} {k : Nat} {zs : List L} (H : Lst tS tE tF fl fB fI k zs) (es : List (List D)) :
    VC Tryz.prog fB [.one (.d (.sl es))] [] fun r h' => r = .one (.fn fI [.ptr 0 0]) ∧ h' = [.box [.d (.sl es)]] := by
  refine VC_of_fn mixed H.back (by simp) ?_
  show vwp Tryz.prog 0 (cBack tS fI) _ [(0, .one (.d (.sl es)))] []
  unfold cBack
  rw [vw_seq, vw_ops]
  refine vop_st (r := .one (.ptr 0 0)) (h' := [.box [.d (.sl es)]]) ?_ ?_
  · simp [vop, opd, known, vcells, bobj, H.bS]
  refine vop_st (r := .one .nilf) (h' := [.box [.d (.sl es)]]) rfl ?_
  rw [vops_nil, vthen, vw_seq, vw_ops]
  refine vop_st (r := .one (.fn fI [.ptr 0 0])) (h' := [.box [.d (.sl es)]]) ?_ ?_
  · rfl
  refine vop_st (r := .one (.fn fI [.ptr 0 0])) (h' := [.box [.d (.sl es)]]) rfl ?_
  rw [vops_nil, vthen, vw_ret]
  refine vend_of [0] rfl rfl ?_
  exact ⟨rfl, rfl⟩

/-- What stands last of those for which it holds. -/
def lastR (zs : List L) (is : List D → Bool) (es : List (List D)) : V := match es.reverse.find? is with
  | some x => .tup [.agg (x.map .d), .one (.d (.bool true))]
  | none => .tup [.agg zs, .one (.d (.bool false))]

theorem find_last {is : List D → Bool} {es : List (List D)} {i : Nat} {x : List D} (hx : es[i]? = some x) (h1 : is x = true) (h2 : ∀ (j : Nat) (y : List D), i < j → es[j]? = some y → is y = false) : es.reverse.find? is = some x := by
  have hlt : i < es.length := (List.getElem?_eq_some_iff.1 hx).1
  have hsplit : es = es.take i ++ x :: es.drop (i + 1) := by
    conv => lhs; rw [← List.take_append_drop i es]
    rw [List.drop_eq_getElem_cons hlt]
    have : es[i] = x := by rw [List.getElem?_eq_getElem hlt] at hx; exact Option.some.inj hx
    rw [this]
  have hnone : (es.drop (i + 1)).reverse.find? is = none := by
    rw [List.find?_eq_none]
    intro y hy
    rw [List.mem_reverse] at hy
    obtain ⟨j, hj⟩ := List.getElem?_of_mem hy
    rw [List.getElem?_drop] at hj
    rw [h2 _ y (by omega) hj]
    simp
  rw [hsplit, List.reverse_append, List.reverse_cons, List.append_assoc, List.find?_append, hnone]
  simp [h1]

theorem find_none {is : List D → Bool} {es : List (List D)} (h2 : ∀ (j : Nat) (y : List D), es[j]? = some y → is y = false) : es.reverse.find? is = none := by
  rw [List.find?_eq_none]
  intro y hy
  rw [List.mem_reverse] at hy
  obtain ⟨j, hj⟩ := List.getElem?_of_mem hy
  rw [h2 _ y hj]
  simp

theorem vop_alloc {tE : TypeId} {k b : Nat} {zs : List L} {fs : List (Nat × Nat × Bool)} {T : Sl} {h : AHeap} (hE : ti Tryz.prog tE = some (TI.mk k b true (some (.agg zs)) TK.struct fs none)) (hb : bty Tryz.prog tE = none) : vop Tryz.prog T h (mkO (.alloc tE)) = some (.one (.ptr h.length 0), h ++ [.box zs]) := by
  simp [vop, hE, vcells, bobj, hb]

theorem vop_load {tE : TypeId} {k b : Nat} {z : Option V} {fs : List (Nat × Nat × Bool)} {T : Sl} {h : AHeap} {x : Operand} {id : Nat} {ls : List L} (hE : ti Tryz.prog tE = some (TI.mk k b true z TK.struct fs none)) (hx : opd T x = some (.one (.ptr id 0))) (hid : h[id]? = some (.box ls)) (hl : ls.length = k) : vop Tryz.prog T h (mkO (.load tE x)) = some (.agg ls, h) := by
  simp [vop, hE, hx, vload, hid, mkV, hl]
  rw [List.take_of_length_le (by omega)]

theorem vop_store {tE : TypeId} {k b : Nat} {z : Option V} {fs : List (Nat × Nat × Bool)} {T : Sl} {h : AHeap} {x y : Operand} {id : Nat} {ls l0 : List L} (hE : ti Tryz.prog tE = some (TI.mk k b true z TK.struct fs none)) (hx : opd T x = some (.one (.ptr id 0))) (hy : opd T y = some (.agg ls)) (hid : h[id]? = some (.box l0)) (hl : ls.length = k) (hl0 : l0.length = k) : vop Tryz.prog T h (mkO (.store tE x y)) = some (.one .any, h.set id (.box ls)) := by
  simp [vop, hE, hx, hy, known, vstore, vcells, hid, hl, hl0, splice]
  rw [List.drop_of_length_le (by omega)]
  simp

theorem vc_lastG {tS tE tF : TypeId} {fl fB fI : FuncId} {k : Nat} {zs : List L} (H : Lst tS tE tF fl fB fI k zs) {es : List (List D)} (hes : ∀ x ∈ es, x.length = k) (hbig : es.length < 1000000000) (fc : FuncId) (name : ByteArray) (is : List D → Bool)
    (hc : ∀ x ∈ es, VC Tryz.prog fc [.agg (x.map .d), .one (.ptr 0 0)] [.box [.d (.str name)]] fun r h' => r = .one (.d (.bool (is x))) ∧ h' = [.box [.d (.str name)]]) :
    VC Tryz.prog fl [.one (.d (.sl es)), .one (.fn fc [.ptr 0 0])] [.box [.d (.str name)]] fun r h' => r = lastR zs is es ∧ h' = [.box [.d (.str name)]] := by
  refine H.E.elim fun bE g => g.elim fun fs g => ?_
  have hE := g.1
  refine H.F.elim fun bF hF => ?_
  refine VC_of_fn mixed H.last (by simp) ?_
  show vwp Tryz.prog 1 (cLast tS tE tF fB) _ [(0, .one (.d (.sl es))), (1, .one (.fn fc [.ptr 0 0]))] [.box [.d (.str name)]]
  unfold cLast
  rw [vw_seq, vw_ops]
  refine vop_st (r := .one (.ptr 1 0)) (h' := [.box [.d (.str name)], .box [.fn fc [.ptr 0 0]]]) ?_ ?_
  · simp [vop, opd, known, vcells, bobj, H.bF, List.lookup]
  refine vop_st (vop_alloc hE H.bE) ?_
  refine vop_st (r := .one (.ptr 3 0)) (h' := [.box [.d (.str name)], .box [.fn fc [.ptr 0 0]], .box zs, .box [.d (.bool false)]]) ?_ ?_
  · simp [vop, ti4, vcells, bobj, bt4]
  rw [vops_nil, vthen, vw_seq, vw_seq, vw_ops]
  refine vop_st (r := .one (.d (.sl es))) (h' := [.box [.d (.str name)], .box [.fn fc [.ptr 0 0]], .box zs, .box [.d (.bool false)]]) rfl ?_
  refine vcall_st (f' := fB) (caps := []) (vs := [.one (.d (.sl es))]) H.nB rfl rfl rfl ?_
  refine callS [] (vc_backG H es) rfl rfl rfl ?_
  rintro _ _ ⟨rfl, rfl⟩
  refine ⟨.one (.fn fI [.ptr 4 0]), [.box [.d (.str name)], .box [.fn fc [.ptr 0 0]], .box zs, .box [.d (.bool false)], .box [.d (.sl es)]], rfl, ?_⟩
  rw [kn_run, vops_nil, vthen, vw_block]
  have hxl : ∀ (i : Nat) (x : List D), es[i]? = some x → x.length = k := fun i x hx => hes x (List.mem_of_getElem? hx)
  refine ⟨fI, [.ptr 4 0], 19, _, rfl, rfl, H.itr, by decide, ?_⟩
  refine back_wp H hes hbig rfl (show 4 < 5 by decide) ?_ (fun j => ∀ x : List D, es[j]? = some x → is x = false) ?_ ?_
  · show handO [.box [.d (.str name)], .box [.fn fc [.ptr 0 0]], .box zs, .box [.d (.bool false)], .box [.d (.sl es)]] (idx [0, 1, 2, 3, 4]) [0, 1, 2, 3, 4] = _
    simp [handO, renO, renL.renLs, renL, H.zr, idx]
  · intro i x hx hp K' hn hr
    refine ⟨rfl, ?_⟩
    rw [vw_ops]
    refine vop_st (vop_alloc hE H.bE) ?_
    refine vop_st (vop_store (id := 5) (ls := x.map .d) (l0 := zs) hE rfl rfl rfl (by rw [List.length_map]; exact hxl i x hx) H.zl) ?_
    rw [vops_nil, vthen, vw_block, vw_seq, vw_ops]
    refine vop_st (r := .one (.fn fc [.ptr 0 0])) (h' := [.box [.d (.str name)], .box [.fn fc [.ptr 0 0]], .box zs, .box [.d (.bool false)], .box [.d (.sl es)], .box (x.map .d)]) ?_ ?_
    · simp [vop, hF, opd, vload, mkV, lk_cons, put_some, put_none, zipT]
    refine vop_st (vop_load (id := 5) (ls := x.map .d) hE rfl rfl (by rw [List.length_map]; exact hxl i x hx)) ?_
    refine vcall_st (f' := fc) (caps := [.ptr 0 0]) (vs := [.agg (x.map .d)]) rfl rfl rfl rfl ?_
    refine callS [0] (hc x (List.mem_of_getElem? hx)) rfl (by simp [lendVs, lendV, lendLs_ds, lendL, renL, idx]) rfl ?_
    rintro _ _ ⟨rfl, rfl⟩
    refine ⟨.one (.d (.bool (is x))), [.box [.d (.str name)], .box [.fn fc [.ptr 0 0]], .box zs, .box [.d (.bool false)], .box [.d (.sl es)], .box (x.map .d)], ?_, ?_⟩
    · simp [back, lentVs, lentV, lentLs_ds, lentL, idx, renV, renL, renOs, renO, renL.renLs, putBack, fzIds]
    rw [kn_run, vops_nil, vthen, vw_cond]
    refine ⟨fun e => ?_, fun e => ?_⟩
    · rw [vw_seq, vw_ops]
      refine vop_st (vop_load (id := 5) (ls := x.map .d) hE rfl rfl (by rw [List.length_map]; exact hxl i x hx)) ?_
      refine vop_st (vop_store (id := 2) (ls := x.map .d) (l0 := zs) hE rfl rfl rfl (by rw [List.length_map]; exact hxl i x hx) H.zl) ?_
      refine vop_st (r := .one .any) (h' := [.box [.d (.str name)], .box [.fn fc [.ptr 0 0]], .box (x.map .d), .box [.d (.bool true)], .box [.d (.sl es)], .box (x.map .d)]) ?_ ?_
      · simp [vop, ti4, opd_tmp, opd_bool, lk_cons, put_some, put_none, zipT, vstore, vcells, known, splice]
      rw [vops_nil, vthen, vw_ret]
      refine hr _ ?_
      refine vend_of (vs := [.agg (x.map .d), .one (.d (.bool true))]) (r := .tup [.agg (x.map .d), .one (.d (.bool true))]) (hs := [.box [.d (.str name)]]) [0] ?_ ?_ ?_
      · simp [vres, hE, ti4, lk_cons, put_some, put_none, vload, mkV, hxl i x hx]
        rw [List.take_of_length_le (by rw [List.length_map]; have := hxl i x hx; omega)]
      · simp [fin, nodup, handO, lendR, lendVs, lendV, lendLs_ds, lendL, idx, vone, renL, renO, renL.renLs]
      · refine ⟨?_, rfl⟩
        unfold lastR
        rw [find_last hx e (fun j y hj hy => hp j hj (List.getElem?_eq_some_iff.1 hy).1 y hy)]
    · rw [vw_skip]
      exact hn [.box (x.map .d)] (fun y hy => by rw [hx] at hy; cases hy; exact e)
  · intro hp
    rw [vb_normal, vt_normal, vw_seq, vw_ops]
    refine vop_st (vop_alloc hE H.bE) ?_
    rw [vops_nil, vthen, vw_seq, vw_ops]
    refine vop_st (vop_load (id := 5) (ls := zs) hE rfl rfl H.zl) ?_
    refine vop_st (vop_store (id := 2) (ls := zs) (l0 := zs) hE rfl rfl rfl H.zl H.zl) ?_
    refine vop_st (r := .one .any) (h' := [.box [.d (.str name)], .box [.fn fc [.ptr 0 0]], .box zs, .box [.d (.bool false)], .box [.d (.sl es)], .box zs]) ?_ ?_
    · simp [vop, ti4, opd_tmp, opd_bool, lk_cons, put_some, put_none, vstore, vcells, known, splice]
    rw [vops_nil, vthen, vw_ret]
    refine vend_of (vs := [.agg zs, .one (.d (.bool false))]) (r := .tup [.agg zs, .one (.d (.bool false))]) (hs := [.box [.d (.str name)]]) [0] ?_ ?_ ?_
    · simp [vres, hE, ti4, lk_cons, put_some, put_none, vload, mkV, H.zl]
      rw [List.take_of_length_le (by rw [H.zl]; omega)]
    · simp [fin, nodup, handO, lendR, lendVs, lendV, H.zd, lendL, idx, vone, renL, renO, renL.renLs]
    · refine ⟨?_, rfl⟩
      unfold lastR
      rw [find_none (fun j y hy => hp j (List.getElem?_eq_some_iff.1 hy).1 y hy)]

end Go.Vt.Tryz
