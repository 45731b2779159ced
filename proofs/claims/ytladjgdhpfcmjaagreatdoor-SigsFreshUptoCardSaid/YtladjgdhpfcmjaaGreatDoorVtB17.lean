/- What the walks need of numbers, types, iterators, lists. -/
import Derived.Test.YtladjgdhpfcmjaaGreatDoorVtBS
import Derived.Test.YtladjgdhpfcmjaaGreatDoorVtD13
set_option maxRecDepth 100000
set_option linter.unusedSimpArgs false
namespace Go.Vt.Tryz
open Go.Vt renaming vslice → J0
open Nat renaming reduceBEq → J1, reduceEqDiff → J2, reduceLT → J3, reduceLeDiff → J4, reduceAdd → J5, reduceMul → J6, reduceSub → J7
open Go.Proofs

theorem wrap_nat {i : Nat} (h : i < 1000000000000) : IntKind.i64.wrap ((i : Int) + 1) = ((i + 1 : Nat) : Int) := by rw [IntKind.wrap_i64]; omega

theorem vc_number (n : Int) : VC Tryz.prog 207 [.one (.d (.int .i64 n)), .one (.d (.int .i64 n))] [] fun r h' => r = .one (.d (.int .i64 0)) ∧ h' = [] := by
  refine VC_of_fn mixed fn207 (by simp) ?_
  show vwp Tryz.prog 0 vc207 _ [(0, .one (.d (.int .i64 n))), (1, .one (.d (.int .i64 n)))] []
  unfold vc207
  rw [vwpI_eq]
  have hn : ¬ n < n := by omega
  simp -implicitDefEqProofs only [bV.d, oS.d, J0, J1, J2, J3, J4, J5, J6, J7, ↓reduceIte, reduceCtorEq, hn]
  apply vend_of []; rfl; rfl
  exact ⟨rfl, rfl⟩

def tyV (t : Ty) : V := .agg ((encTy t).map .d)

theorem length_tyn : ∀ l : List Ty, l.length ≤ tyn.go l
  | [] => Nat.le_refl _
  | .mk _ _ l :: r => by have := length_tyn r; simp only [tyn.go, tyn, List.length_cons]; omega

theorem vc_cmp : ∀ (t : Ty), tyn t < 1000000000 → VC Tryz.prog 136 [tyV t, tyV t] [] fun r h' => r = .one (.d (.int .i64 0)) ∧ h' = [] := by
  intro t
  induction t using Ty.ind with
  | h k n kids ih =>
  intro hp
  simp only [tyn] at hp
  have hlen := length_tyn kids
  refine VC_of_fn mixed fn136 (by simp) ?_
  show vwp Tryz.prog 0 vc136 _ [(0, .agg [.d (.int .i64 k), .d (.int .i64 n), .d (.sl (encTy.encs kids))]), (1, .agg [.d (.int .i64 k), .d (.int .i64 n), .d (.sl (encTy.encs kids))])] []
  unfold vc136
  rw [vwpI_eq]
  simp -implicitDefEqProofs only [bV.d, oS.d, J0, J1, J2, J3, J4, J5, J6, J7, ↓reduceIte, reduceCtorEq, encsTy_length]
  refine callS [] (vc_number k) rfl rfl rfl ?_
  rintro _ _ ⟨rfl, rfl⟩
  refine ⟨_, _, rfl, ?_⟩
  simp -implicitDefEqProofs only [bV.d, oS.d, J0, J1, J2, J3, J4, J5, J6, J7, ↓reduceIte, reduceCtorEq, encsTy_length]
  refine callS [] (vc_number n) rfl rfl rfl ?_
  rintro _ _ ⟨rfl, rfl⟩
  refine ⟨_, _, rfl, ?_⟩
  simp -implicitDefEqProofs only [bV.d, oS.d, J0, J1, J2, J3, J4, J5, J6, J7, ↓reduceIte, reduceCtorEq, encsTy_length]
  refine callS [] (vc_number kids.length) rfl rfl rfl ?_
  rintro _ _ ⟨rfl, rfl⟩
  refine ⟨_, _, rfl, ?_⟩
  simp -implicitDefEqProofs only [bV.d, oS.d, J0, J1, J2, J3, J4, J5, J6, J7, ↓reduceIte, reduceCtorEq, encsTy_length]
  refine loopI (α := Nat) (fun i => [(8, .one (.d (.int .i64 i))), (3, .one (.ptr 1 0)), (2, .one (.ptr 0 0))])
    (fun _ => [.box [.d (.int .i64 k), .d (.int .i64 n), .d (.sl (encTy.encs kids))], .box [.d (.int .i64 k), .d (.int .i64 n), .d (.sl (encTy.encs kids))]])
    (fun i => i ≤ kids.length) (fun i => kids.length - i) 0
    (keepI [0, 1] _ (WkH.refl _) rfl rfl rfl ⟨⟨_, WkV.refl _, rfl⟩, ⟨_, WkV.refl _, rfl⟩, ⟨_, WkV.refl _, rfl⟩, trivial⟩) (Nat.zero_le _) ?_
  intro i hi
  have hw : IntKind.i64.wrap ((i : Int) + 1) = ((i + 1 : Nat) : Int) := wrap_nat (by omega)
  simp -implicitDefEqProofs only [bV.d, oS.d, J0, J1, J2, J3, J4, J5, J6, J7, ↓reduceIte, reduceCtorEq, encsTy_length]
  refine ⟨fun h5 => ?_, fun h5 => ?_⟩
  · have hi' : i < kids.length := by omega
    obtain ⟨u, hu⟩ : ∃ u, kids[i]? = some u := ⟨kids[i], List.getElem?_eq_getElem hi'⟩
    have hmem := List.mem_of_getElem? hu
    have hnu := tyn_mem hmem
    have iu := ih u hmem (by omega)
    have hg : (encTy.encs kids)[i]? = some (encTy u) := by rw [encsTy, List.getElem?_map, hu]; rfl
    obtain ⟨uk, un, uc⟩ := u
    simp only [tyV, encTy, List.map_cons, List.map_nil] at iu hg
    simp -implicitDefEqProofs only [bV.d, oS.d, J0, J1, J2, J3, J4, J5, J6, J7, ↓reduceIte, reduceCtorEq, hg, Int.natCast_nonneg, Int.toNat_natCast]
    refine callS [] (iu) rfl rfl rfl ?_
    rintro _ _ ⟨rfl, rfl⟩
    refine ⟨_, _, rfl, ?_⟩
    simp -implicitDefEqProofs only [bV.d, oS.d, J0, J1, J2, J3, J4, J5, J6, J7, ↓reduceIte, reduceCtorEq, hw]
    refine ⟨i + 1, by omega, by omega, ?_⟩
    exact (keepI [0, 1] _ (WkH.refl _) rfl rfl rfl ⟨⟨_, WkV.refl _, rfl⟩, ⟨_, WkV.refl _, rfl⟩, ⟨_, WkV.refl _, rfl⟩, trivial⟩)
  · apply vend_of []; rfl; rfl
    exact ⟨rfl, rfl⟩

theorem vc_same8 (t : Ty) (hp : tyn t < 1000000000) : VC Tryz.prog 57 [tyV t, tyV t] [] fun r h' => r = .one (.d (.bool true)) ∧ h' = [] := by
  have ih := vc_cmp t hp
  obtain ⟨k, n, kids⟩ := t
  refine VC_of_fn mixed fn57 (by simp) ?_
  show vwp Tryz.prog 0 vc57 _ [(0, .agg [.d (.int .i64 k), .d (.int .i64 n), .d (.sl (encTy.encs kids))]), (1, .agg [.d (.int .i64 k), .d (.int .i64 n), .d (.sl (encTy.encs kids))])] []
  unfold vc57
  rw [vwpI_eq]
  simp -implicitDefEqProofs only [bV.d, oS.d, J0, J1, J2, J3, J4, J5, J6, J7, ↓reduceIte, reduceCtorEq]
  refine callS [] (ih) rfl rfl rfl ?_
  rintro _ _ ⟨rfl, rfl⟩
  refine ⟨_, _, rfl, ?_⟩
  simp -implicitDefEqProofs only [bV.d, oS.d, J0, J1, J2, J3, J4, J5, J6, J7, ↓reduceIte, reduceCtorEq]
  apply vend_of []; rfl; rfl
  exact ⟨rfl, rfl⟩

def scV (s : Sc) : V := .agg ((encSc s).map .d)

theorem vc_sameScheme (s : Sc) (hp : tyn s.t < 1000000000) : VC Tryz.prog 59 [scV s, scV s] [] fun r h' => r = .one (.d (.bool true)) ∧ h' = [] := by
  obtain ⟨g, t⟩ := s
  have ih := vc_same8 t hp
  obtain ⟨k, n, kids⟩ := t
  refine VC_of_fn mixed fn59 (by simp) ?_
  show vwp Tryz.prog 0 vc59 _ [(0, .agg [.d (.int .i64 g), .d (.int .i64 k), .d (.int .i64 n), .d (.sl (encTy.encs kids))]), (1, .agg [.d (.int .i64 g), .d (.int .i64 k), .d (.int .i64 n), .d (.sl (encTy.encs kids))])] []
  unfold vc59
  rw [vwpI_eq]
  simp -implicitDefEqProofs only [bV.d, oS.d, J0, J1, J2, J3, J4, J5, J6, J7, ↓reduceIte, reduceCtorEq]
  refine callS [] (ih) rfl rfl rfl ?_
  rintro _ _ ⟨rfl, rfl⟩
  refine ⟨_, _, rfl, ?_⟩
  simp -implicitDefEqProofs only [bV.d, oS.d, J0, J1, J2, J3, J4, J5, J6, J7, ↓reduceIte, reduceCtorEq]
  apply vend_of []; rfl; rfl
  exact ⟨rfl, rfl⟩

theorem nums_get {l : List Int} {i : Nat} {n : Int} (h : l[i]? = some n) : (nums l)[i]? = some [.int .i64 n] := by simp [nums, h]

section iter
variable {P : Program} {n : Nat} {Y : Rounds} {T : Sl} {ys : List Tmp} {h : AHeap} {pd : Option VX}

theorem y_st {l : List VOp} {d : Option Tmp} {op : Op} {r : V} {h' : AHeap} {K : KO} (hy : yop (VOp.mk d op none) ys = .no) (hv : vop P T h (mkO op) = some (r, h')) (hk : vopsY P Y l (tput T d r) (dropT d ys) h' pd K) : vopsY P Y (VOp.mk d op none :: l) T ys h pd K := by
  show vgoY P Y (VOp.mk d op none) T ys h pd _
  unfold vgoY
  rw [hy]
  show vgoO P (VOp.mk d op none) T h _
  unfold vgoO vstepO vstep
  simp only [hv]
  exact hk

theorem y_mv {l : List VOp} {d : Tmp} {op : Op} {K : KO} (hy : yop (VOp.mk (some d) op none) ys = .mv d) (hk : vopsY P Y l ((d, .one .any) :: T) (d :: ys) h pd K) : vopsY P Y (VOp.mk (some d) op none :: l) T ys h pd K := by
  show vgoY P Y (VOp.mk (some d) op none) T ys h pd _
  unfold vgoY
  rw [hy]
  exact hk

theorem y_yl {l : List VOp} {d : Option Tmp} {op : Op} {args : List Operand} {vs : List V} {K : KO} (hy : yop (VOp.mk d op none) ys = .yl args) (ha : opds T args = some vs) (hk : Y vs h fun pd' h' => vopsY P Y l (tput T d (.one (.d (.bool pd'.isNone)))) (dropT d ys) h' pd' K) : vopsY P Y (VOp.mk d op none :: l) T ys h none K := by
  show vgoY P Y (VOp.mk d op none) T ys h none _
  unfold vgoY
  rw [hy]
  exact ⟨rfl, vs, ha, hk⟩

theorem beq_f {a b : Nat} (h : a ≠ b) : Nat.beq a b = false := by
  cases e : Nat.beq a b with
  | false => rfl
  | true => exact absurd (Nat.eq_of_beq_eq_true e) h

inductive Yd : Nat → List Tmp → Prop
  | base : Yd 0 [0]
  | more {b : Nat} {ys : List Tmp} : Yd b ys → Yd (b + 1) (11 :: ys)

theorem Yd.mem0 {b : Nat} {ys : List Tmp} (hy : Yd b ys) : memT 0 ys = true := by
  induction hy with
  | base => rfl
  | more _ ih => exact ih

theorem Yd.memN {b j : Nat} {ys : List Tmp} (hy : Yd b ys) (h0 : j ≠ 0) (h1 : j ≠ 11) : memT j ys = false := by
  induction hy with
  | base => show (Nat.beq j 0 || false) = false; rw [beq_f h0]; rfl
  | @more b ys _ ih => show (Nat.beq j 11 || memT j ys) = false; rw [beq_f h1, ih]; rfl

theorem Yd.drop {b d : Nat} {ys : List Tmp} (h0 : d ≠ 0) (h1 : d ≠ 11) (hy : Yd b ys) : Yd b (dropT (some d) ys) := by
  induction hy with
  | base => show Yd 0 (if Nat.beq 0 d = true then [] else [0]); rw [beq_f (Ne.symm h0)]; exact .base
  | @more b ys _ ih =>
    show Yd (b + 1) (if Nat.beq 11 d = true then dropT (some d) ys else 11 :: dropT (some d) ys)
    rw [beq_f (Ne.symm h1)]
    exact .more ih

theorem z_st {b : Nat} {l : List VOp} {d : Tmp} {op : Op} {r : V} {h' : AHeap} {K : KO} (hy : Yd b ys) (hop : yop (VOp.mk (some d) op none) ys = .no) (h0 : d ≠ 0) (h1 : d ≠ 11) (hv : vop P T h (mkO op) = some (r, h')) (hk : ∀ ys, Yd b ys → vopsY P Y l ((d, r) :: T) ys h' pd K) : vopsY P Y (VOp.mk (some d) op none :: l) T ys h pd K :=
  y_st hop hv (hk _ (hy.drop h0 h1))

theorem yop_mv {b d i : Nat} (hy : Yd b ys) (h0 : i ≠ 0) (h1 : i ≠ 11) : yop (VOp.mk (some d) (.move (.tmp i)) none) ys = .no := by
  show (if memT i ys = true then YOp.mv d else .no) = _
  rw [hy.memN h0 h1]
  rfl

theorem z_mv {b : Nat} {l : List VOp} {K : KO} (hy : Yd b ys) (hk : ∀ ys, Yd (b + 1) ys → vopsY P Y l ((11, .one .any) :: T) ys h pd K) : vopsY P Y (VOp.mk (some 11) (.move (.tmp 0)) none :: l) T ys h pd K := by
  refine y_mv ?_ (hk _ ?_)
  · show (if memT 0 ys = true then YOp.mv 11 else .no) = _
    rw [hy.mem0]
    rfl
  · exact .more hy

theorem z_yl {b : Nat} {l : List VOp} {d : Tmp} {args : Array Operand} {ts : Array TypeId} {vs : List V} {K : KO} (hy : Yd (b + 1) ys) (h0 : d ≠ 0) (h1 : d ≠ 11) (ha : opds T args.toList = some vs) (hk : ∀ ys, Yd (b + 1) ys → Y vs h fun pd' h' => vopsY P Y l ((d, .one (.d (.bool pd'.isNone))) :: T) ys h' pd' K) : vopsY P Y (VOp.mk (some d) (.call (.mk (.value (.tmp 11)) args ts)) none :: l) T ys h none K := by
  refine y_yl (args := args.toList) ?_ ha (hk _ (hy.drop h0 h1))
  show (if memT 11 ys = true then YOp.yl args.toList else .no) = _
  have : memT 11 ys = true := by
    cases hy with
    | more _ => rfl
  rw [this]
  rfl

theorem idx_range : ∀ {l : List Nat} {id : Nat} {n : Nat}, l = List.range n → id < n → idx l id = some id := by
  have key : ∀ (m s id : Nat), s ≤ id → id < s + m → idx (List.range' s m) id = some (id - s) := by
    intro m
    induction m with
    | zero => intro s id h1 h2; omega
    | succ m ih =>
      intro s id h1 h2
      rw [List.range'_succ]
      show (if s = id then some 0 else (idx (List.range' (s + 1) m) id).map (· + 1)) = _
      split
      · rename_i e; subst e; simp
      · rw [ih (s + 1) id (by omega) (by omega)]
        simp only [Option.map_some]
        congr 1
        omega
  intro l id n e hlt
  subst e
  rw [List.range_eq_range', key n 0 id (by omega) (by omega)]
  simp

theorem handO_app {m : Nat → Option Nat} {h r : AHeap} : ∀ {ids : List Nat} {x : AHeap}, handO h m ids = some x → handO (h ++ r) m ids = some x
  | [], _, e => e
  | id :: l, x, e => by
    unfold handO at e ⊢
    cases ho : h[id]? with
    | none => simp [ho] at e
    | some o =>
      have hlt : id < h.length := (List.getElem?_eq_some_iff.1 ho).1
      rw [List.getElem?_append_left hlt, ho]
      simp only [ho] at e ⊢
      cases h1 : renO m o with
      | none => simp [h1] at e
      | some x1 =>
        cases h2 : handO h m l with
        | none => simp [h1, h2] at e
        | some x2 =>
          simp only [h1, h2] at e
          simp only [handO_app h2]
          exact e

theorem nodup_range (n : Nat) : nodup (List.range n) = true := by
  have key : ∀ (m s : Nat), nodup (List.range' s m) = true := by
    intro m
    induction m with
    | zero => intro s; rfl
    | succ m ih =>
      intro s
      rw [List.range'_succ]
      show (!(List.range' (s + 1) m).contains s && nodup (List.range' (s + 1) m)) = true
      rw [ih]
      simp [List.mem_range']
      omega
  rw [List.range_eq_range']
  exact key n 0

theorem wrap_p {z : Int} (h1 : -1 ≤ z) (h2 : z < 1000000000) : IntKind.i64.wrap z = z := by rw [IntKind.wrap_i64]; omega

theorem yw_skip {K : KY} : vwpY P n Y .skip K T ys h pd = K .normal T ys h pd := rfl

theorem yw_ops {l : List VOp} {K : KY} : vwpY P n Y (.ops l) K T ys h pd = vopsY P Y l T ys h pd (K .normal) := rfl

theorem yw_seq {a b : VCode} {K : KY} : vwpY P n Y (.seq a b) K T ys h pd = vwpY P n Y a (ythen (vwpY P n Y b K) K) T ys h pd := rfl

theorem yw_cond {c : Operand} {x y : VCode} {K : KY} : vwpY P n Y (.cond c x y) K T ys h pd = vcond (opd T c) (vwpY P n Y x K T ys h pd) (vwpY P n Y y K T ys h pd) := rfl

theorem yw_block {id : Nat} {c : VCode} {K : KY} : vwpY P n Y (.block id c) K T ys h pd = vwpY P n Y c (yblock id K) T ys h pd := rfl

theorem yw_loop {c : VCode} {K : KY} : vwpY P n Y (.loop c) K T ys h pd = ∃ I : Nat → KO, (∃ k T0 h0, Keep n T h T0 h0 ∧ I k T0 ys h0 pd) ∧
      ∀ k T ys h pd, I k T ys h pd → vwpY P n Y c (ythen (fun T' ys' h' pd' => ∃ m T0 h0, m < k ∧ Keep n T' h' T0 h0 ∧ I m T0 ys' h0 pd') K) T ys h pd := rfl

theorem yops_nil {K : KO} : vopsY P Y [] T ys h pd K = K T ys h pd := rfl

theorem vop_int {T : Sl} {h : AHeap} {op : BinOp} {x y : Operand} {a b : Int} {d : D} (hx : opd T x = some (.one (.d (.int .i64 a)))) (hy : opd T y = some (.one (.d (.int .i64 b)))) (hd : vbin2 Tryz.prog h 3 (.int .i64) op (.one (.d (.int .i64 a))) (.one (.d (.int .i64 b))) = some d) : vop Tryz.prog T h (mkO (.binOp op 3 x y 3)) = some (.one (.d d), h) := by
  simp only [vop, hx, hy, ti3, hd]

end iter

section
variable {Q : VX → Sl → AHeap → Prop}
theorem vt_normal {A : Sl → AHeap → Prop} : vthen A Q .normal = A := rfl

end

theorem wrapA {a b c : Nat} (h : a + b = c) (hc : c < 1000000000000) : IntKind.i64.wrap ((a : Int) + (b : Int)) = (c : Int) := by rw [IntKind.wrap_i64]; omega

theorem wrapA1 {a c : Nat} (h : a + 1 = c) (hc : c < 1000000000000) : IntKind.i64.wrap ((a : Int) + 1) = (c : Int) := by rw [IntKind.wrap_i64]; omega

theorem wrapS {a b c : Nat} (h : a = b + c) (ha : a < 1000000000000) : IntKind.i64.wrap ((a : Int) - (b : Int)) = (c : Int) := by rw [IntKind.wrap_i64]; omega

theorem wrapS1 {a c : Nat} (h : a = c + 1) (ha : a < 1000000000000) : IntKind.i64.wrap ((a : Int) - 1) = (c : Int) := by rw [IntKind.wrap_i64]; omega

structure SortE (tS tE : TypeId) (k : Nat) : Prop where
  S : ∃ b z b2 zs, ti Tryz.prog tS = some (TI.mk 1 b false z TK.slice [] (some (EI.mk k b2 (some (.agg zs)) true))) ∧ b2 ≤ 1000 ∧ zs.length = k ∧ k ≠ 0
  E : ∃ b z fs, ti Tryz.prog tE = some (TI.mk k b true z TK.struct fs none)

theorem rowOf {α : Type} {l : List α} {i : Nat} (h : i < l.length) : ∃ x, l[i]? = some x := ⟨l[i], List.getElem?_eq_getElem h⟩

def cClone (tS : TypeId) : VCode := (VCode.ops [VOp.mk (some 2) (.assign (.const (.slice none 0 0))) none]).seq (((VCode.ops [VOp.mk (some 3) (.move (.tmp 0)) none, VOp.mk (some 4) (.binOp .eql tS (.tmp 3)
  (.const (.slice none 0 0)) tS) none]).seq (VCode.cond (.tmp 4) ((VCode.ops [VOp.mk (some 2) (.assign (.const (.slice none 0 0))) none]).seq VCode.ret) VCode.skip)).seq
  ((VCode.ops [VOp.mk (some 5) (.buildSlice tS 0 #[]) none, VOp.mk (some 6) (.move (.tmp 0)) none, VOp.mk (some 7) (.call (.mk (.builtin .append) #[.tmp 5, .tmp 6] #[tS, tS]))
  none, VOp.mk (some 2) (.assign (.tmp 7)) none]).seq VCode.ret))

section
variable {tS tE : TypeId} {k : Nat}
theorem vc_clone (H : SortE tS tE k) {f : FuncId} (hF : FnOk Tryz.prog f 8 (cClone tS) [.tmp 2]) (es : List (List D)) (hr : allLen k es = true) (hbig : es.length < 1000000000) :
    VC Tryz.prog f [.one (.d (.sl es))] [] fun r h' => (es = [] ∧ r = .one .nils ∧ h' = []) ∨ (r = .one (.own 0 1 es.length) ∧ h' = [.arr false k 1 es]) := by
  obtain ⟨b1, z1, b2, z2, hS, hb2, hz2, hk0⟩ := H.S
  refine VC_of_fn mixed hF (by simp) ?_
  show vwp Tryz.prog 0 (cClone tS) _ [(0, .one (.d (.sl es)))] []
  unfold cClone
  rw [vwpI_eq]
  have hbb : es.length * b2 ≤ maxBytes := by
    have := Nat.mul_le_mul (Nat.le_of_lt hbig) hb2
    unfold maxBytes
    omega
  have hb3 : es.length ≤ maxBytes := by unfold maxBytes; omega
  have hr2 := hr
  unfold allLen at hr2
  simp -implicitDefEqProofs only [bV.d, oS.d, J0, J1, J2, J3, J4, J5, J6, J7, ↓reduceIte, reduceCtorEq, so_eqnil hS rfl, so_buildSlice hS rfl, so_append hS rfl, hr2, hbb, hb3, hz2, hk0, Nat.zero_mul, Nat.zero_le]
  refine ⟨fun he => ?_, ?_⟩
  · apply vend_of []; rfl; rfl
    exact .inl ⟨he, rfl, rfl⟩
  · apply vend_of [0]; rfl; rfl
    exact .inr ⟨rfl, rfl⟩

end

end Go.Vt.Tryz
set_option maxRecDepth 100000
set_option linter.unusedSimpArgs false
namespace Go.Vt.Tryz
open Go.Vt renaming vslice → J0
open Nat renaming reduceBEq → J1, reduceEqDiff → J2, reduceLT → J3, reduceLeDiff → J4, reduceAdd → J5, reduceMul → J6, reduceSub → J7
open Go.Proofs

theorem vc_ints66 (l : List Int) (hp : l.length < 1000000000) : VC Tryz.prog 27 [.one (.d (.sl (nums l))), .one (.d (.sl (nums l)))] [] fun r h' => r = .one (.d (.bool true)) ∧ h' = [] := by
  refine VC_of_fn mixed fn27 (by simp) ?_
  show vwp Tryz.prog 0 vc27 _ [(0, .one (.d (.sl (nums l)))), (1, .one (.d (.sl (nums l))))] []
  unfold vc27
  rw [vwpI_eq]
  simp -implicitDefEqProofs only [bV.d, oS.d, J0, J1, J2, J3, J4, J5, J6, J7, ↓reduceIte, reduceCtorEq, nums_length]
  refine loopI (α := Nat) (fun i => [(5, .one (.d (.int .i64 i))), (0, .one (.d (.sl (nums l)))), (1, .one (.d (.sl (nums l))))]) (fun _ => [])
    (fun i => i ≤ l.length) (fun i => l.length - i) 0
    (keepI [] _ (WkH.refl _) rfl rfl rfl ⟨⟨_, WkV.refl _, rfl⟩, ⟨_, WkV.refl _, rfl⟩, ⟨_, WkV.refl _, rfl⟩, trivial⟩) (Nat.zero_le _) ?_
  intro i hi
  have hw : IntKind.i64.wrap ((i : Int) + 1) = ((i + 1 : Nat) : Int) := wrap_nat (by omega)
  simp -implicitDefEqProofs only [bV.d, oS.d, J0, J1, J2, J3, J4, J5, J6, J7, ↓reduceIte, reduceCtorEq, nums_length]
  refine ⟨fun h5 => ?_, fun h5 => ?_⟩
  · have hi' : i < l.length := by omega
    obtain ⟨u, hu⟩ : ∃ u, l[i]? = some u := ⟨l[i], List.getElem?_eq_getElem hi'⟩
    have hg := nums_get hu
    simp -implicitDefEqProofs only [bV.d, oS.d, J0, J1, J2, J3, J4, J5, J6, J7, ↓reduceIte, reduceCtorEq, hg, hw, Int.natCast_nonneg, Int.toNat_natCast]
    refine ⟨i + 1, by omega, by omega, ?_⟩
    exact (keepI [] _ (WkH.refl _) rfl rfl rfl ⟨⟨_, WkV.refl _, rfl⟩, ⟨_, WkV.refl _, rfl⟩, ⟨_, WkV.refl _, rfl⟩, trivial⟩)
  · apply vend_of []; rfl; rfl
    exact ⟨rfl, rfl⟩

theorem vc_sameCtors (l : List Ct) (hp : sumN ctn l < 1000000000) : VC Tryz.prog 58 [.one (.d (.sl (l.map encCt))), .one (.d (.sl (l.map encCt)))] [] fun r h' => r = .one (.d (.bool true)) ∧ h' = [] := by
  have hlen := sumN_length (f := ctn) (fun c => by simp [ctn]) l
  refine VC_of_fn mixed fn58 (by simp) ?_
  show vwp Tryz.prog 0 vc58 _ [(0, .one (.d (.sl (l.map encCt)))), (1, .one (.d (.sl (l.map encCt))))] []
  unfold vc58
  rw [vwpI_eq]
  simp -implicitDefEqProofs only [bV.d, oS.d, J0, J1, J2, J3, J4, J5, J6, J7, ↓reduceIte, reduceCtorEq, List.length_map]
  refine loopI (α := Nat) (fun i => [(5, .one (.d (.int .i64 i))), (0, .one (.d (.sl (l.map encCt)))), (1, .one (.d (.sl (l.map encCt))))]) (fun _ => [])
    (fun i => i ≤ l.length) (fun i => l.length - i) 0
    (keepI [] _ (WkH.refl _) rfl rfl rfl ⟨⟨_, WkV.refl _, rfl⟩, ⟨_, WkV.refl _, rfl⟩, ⟨_, WkV.refl _, rfl⟩, trivial⟩) (Nat.zero_le _) ?_
  intro i hi
  have hw : IntKind.i64.wrap ((i : Int) + 1) = ((i + 1 : Nat) : Int) := wrap_nat (by omega)
  simp -implicitDefEqProofs only [bV.d, oS.d, J0, J1, J2, J3, J4, J5, J6, J7, ↓reduceIte, reduceCtorEq, List.length_map]
  refine ⟨fun h5 => ?_, fun h5 => ?_⟩
  · have hi' : i < l.length := by omega
    obtain ⟨u, hu⟩ : ∃ u, l[i]? = some u := ⟨l[i], List.getElem?_eq_getElem hi'⟩
    have hmem := List.mem_of_getElem? hu
    have hnu := sumN_mem (f := ctn) hmem
    have hg : (l.map encCt)[i]? = some (encCt u) := by rw [List.getElem?_map, hu]; rfl
    obtain ⟨un, uc⟩ := u
    simp only [ctn] at hnu
    have hcl := length_tyn uc
    simp only [encCt] at hg
    simp -implicitDefEqProofs only [bV.d, oS.d, J0, J1, J2, J3, J4, J5, J6, J7, ↓reduceIte, reduceCtorEq, hg, Int.natCast_nonneg, Int.toNat_natCast, encsTy_length]
    refine loopI (α := Nat) (fun k => [(6, .one (.d (.int .i64 k))), (5, .one (.d (.int .i64 i))), (0, .one (.d (.sl (l.map encCt)))), (1, .one (.d (.sl (l.map encCt))))]) (fun _ => [])
      (fun k => k ≤ uc.length) (fun k => uc.length - k) 0
      (keepI [] _ (WkH.refl _) rfl rfl rfl ⟨⟨_, WkV.refl _, rfl⟩, ⟨_, WkV.refl _, rfl⟩, ⟨_, WkV.refl _, rfl⟩, ⟨_, WkV.refl _, rfl⟩, trivial⟩) (Nat.zero_le _) ?_
    intro k hk
    have hwk : IntKind.i64.wrap ((k : Int) + 1) = ((k + 1 : Nat) : Int) := wrap_nat (by omega)
    simp -implicitDefEqProofs only [bV.d, oS.d, J0, J1, J2, J3, J4, J5, J6, J7, ↓reduceIte, reduceCtorEq, hg, Int.natCast_nonneg, Int.toNat_natCast, encsTy_length]
    refine ⟨fun h6 => ?_, fun h6 => ?_⟩
    · have hk' : k < uc.length := by omega
      obtain ⟨t, ht⟩ : ∃ t, uc[k]? = some t := ⟨uc[k], List.getElem?_eq_getElem hk'⟩
      have hmt := tyn_mem (List.mem_of_getElem? ht)
      have iu := vc_same8 t (by omega)
      have hgt : (encTy.encs uc)[k]? = some (encTy t) := by rw [encsTy, List.getElem?_map, ht]; rfl
      obtain ⟨tk, tn, tc⟩ := t
      simp only [tyV, encTy, List.map_cons, List.map_nil] at iu hgt
      simp -implicitDefEqProofs only [bV.d, oS.d, J0, J1, J2, J3, J4, J5, J6, J7, ↓reduceIte, reduceCtorEq, hg, hgt, Int.natCast_nonneg, Int.toNat_natCast]
      refine callS [] (iu) rfl rfl rfl ?_
      rintro _ _ ⟨rfl, rfl⟩
      refine ⟨_, _, rfl, ?_⟩
      simp -implicitDefEqProofs only [bV.d, oS.d, J0, J1, J2, J3, J4, J5, J6, J7, ↓reduceIte, reduceCtorEq, hwk]
      refine ⟨k + 1, by omega, by omega, ?_⟩
      exact (keepI [] _ (WkH.refl _) rfl rfl rfl ⟨⟨_, WkV.refl _, rfl⟩, ⟨_, WkV.refl _, rfl⟩, ⟨_, WkV.refl _, rfl⟩, ⟨_, WkV.refl _, rfl⟩, trivial⟩)
    · simp -implicitDefEqProofs only [bV.d, oS.d, J0, J1, J2, J3, J4, J5, J6, J7, ↓reduceIte, reduceCtorEq, hw]
      refine ⟨i + 1, by omega, by omega, ?_⟩
      exact (keepI [] _ (WkH.refl _) rfl rfl rfl ⟨⟨_, WkV.refl _, rfl⟩, ⟨_, WkV.refl _, rfl⟩, ⟨_, WkV.refl _, rfl⟩, trivial⟩)
  · apply vend_of []; rfl; rfl
    exact ⟨rfl, rfl⟩

end Go.Vt.Tryz
set_option maxRecDepth 100000
set_option linter.unusedSimpArgs false
namespace Go.Vt.Tryz
open Go.Vt renaming vslice → J0
open Nat renaming reduceBEq → J1, reduceEqDiff → J2, reduceLT → J3, reduceLeDiff → J4, reduceAdd → J5, reduceMul → J6, reduceSub → J7
open Go.Proofs

theorem encSubs_sm : ∀ l, encSt.subs l = l.map encSm := encSubs_map

def stV (x : Stx) : V := .agg ((encSt x).map .d)
def abV (l : List Int) (x : Stx) : V := .agg ((L.d (.sl (nums l))) :: (encSt x).map .d)

theorem vc_sameAb (l : List Int) (x : Stx) (hl : l.length < 1000000000) (ih : VC Tryz.prog 28 [stV x, stV x] [] fun r h' => r = .one (.d (.bool true)) ∧ h' = []) :
    VC Tryz.prog 13 [abV l x, abV l x] [] fun r h' => r = .one (.d (.bool true)) ∧ h' = [] := by
  have hi := vc_ints66 l hl
  obtain ⟨x1, x2, x3, x4, x5⟩ := x
  simp only [stV, abV, encSt, List.map_cons, List.map_nil] at ih ⊢
  refine VC_of_fn mixed fn13 (by simp) ?_
  show vwp Tryz.prog 0 vc13 _ [(0, .agg [.d (.sl (nums l)), .d (.sl (x1.map encTym)), .d (.sl (x2.map encVam)), .d (.sl (encSt.subs x3)), .d (.sl (encSt.funs x4)), .d (.sl (encSt.sigs x5))]), (1, .agg [.d (.sl (nums l)), .d (.sl (x1.map encTym)), .d (.sl (x2.map encVam)), .d (.sl (encSt.subs x3)), .d (.sl (encSt.funs x4)), .d (.sl (encSt.sigs x5))])] []
  unfold vc13
  rw [vwpI_eq]
  simp -implicitDefEqProofs only [bV.d, oS.d, J0, J1, J2, J3, J4, J5, J6, J7, ↓reduceIte, reduceCtorEq]
  refine callS [] (hi) rfl rfl rfl ?_
  rintro _ _ ⟨rfl, rfl⟩
  refine ⟨_, _, rfl, ?_⟩
  simp -implicitDefEqProofs only [bV.d, oS.d, J0, J1, J2, J3, J4, J5, J6, J7, ↓reduceIte, reduceCtorEq]
  refine callS [] (ih) rfl rfl rfl ?_
  rintro _ _ ⟨rfl, rfl⟩
  refine ⟨_, _, rfl, ?_⟩
  simp -implicitDefEqProofs only [bV.d, oS.d, J0, J1, J2, J3, J4, J5, J6, J7, ↓reduceIte, reduceCtorEq]
  apply vend_of []; rfl; rfl
  exact ⟨rfl, rfl⟩

set_option maxHeartbeats 4000000 in
theorem vc_sameStr : ∀ x : Stx, stn x < 1000000000 → VC Tryz.prog 28 [stV x, stV x] [] fun r h' => r = .one (.d (.bool true)) ∧ h' = [] := by
  intro x
  induction x using Stx.ind with
  | h x1 x2 x3 x4 x5 ih3 ih4 ih5 =>
  intro hp
  have hsz := subs_small (x := .mk x1 x2 x3 x4 x5) (Nat.le_of_lt hp)
  simp only [Stx.subs, Stx.vals, Stx.types, Stx.funs, Stx.sigs] at hsz
  obtain ⟨z3, z2, z1, z4, z5⟩ := hsz
  have hp0 := hp
  simp only [stn] at hp
  have l3 : (encSt.subs x3).length = x3.length := by rw [encSubs_map, List.length_map]
  have l4 : (encSt.funs x4).length = x4.length := by rw [encFuns_m, List.length_map]
  have l5 : (encSt.sigs x5).length = x5.length := by rw [encSigs_m, List.length_map]
  simp only [stV, encSt, List.map_cons, List.map_nil]
  refine VC_of_fn mixed fn28 (by simp) ?_
  show vwp Tryz.prog 0 vc28 _ [(0, .agg [.d (.sl (x1.map encTym)), .d (.sl (x2.map encVam)), .d (.sl (encSt.subs x3)), .d (.sl (encSt.funs x4)), .d (.sl (encSt.sigs x5))]), (1, .agg [.d (.sl (x1.map encTym)), .d (.sl (x2.map encVam)), .d (.sl (encSt.subs x3)), .d (.sl (encSt.funs x4)), .d (.sl (encSt.sigs x5))])] []
  unfold vc28
  rw [vwpI_eq]
  simp -implicitDefEqProofs only [bV.d, oS.d, J0, J1, J2, J3, J4, J5, J6, J7, ↓reduceIte, reduceCtorEq, List.length_map, l3, l4, l5]
  refine loopI (α := Nat) (fun i => [(5, .one (.d (.int .i64 i))), (3, .one (.ptr 1 0)), (2, .one (.ptr 0 0))])
    (fun _ => [.box [.d (.sl (x1.map encTym)), .d (.sl (x2.map encVam)), .d (.sl (encSt.subs x3)), .d (.sl (encSt.funs x4)), .d (.sl (encSt.sigs x5))], .box [.d (.sl (x1.map encTym)), .d (.sl (x2.map encVam)), .d (.sl (encSt.subs x3)), .d (.sl (encSt.funs x4)), .d (.sl (encSt.sigs x5))]])
    (fun i => i ≤ x1.length) (fun i => x1.length - i) 0
    (keepI [0, 1] _ (WkH.refl _) rfl rfl rfl ⟨⟨_, WkV.refl _, rfl⟩, ⟨_, WkV.refl _, rfl⟩, ⟨_, WkV.refl _, rfl⟩, trivial⟩) (Nat.zero_le _) ?_
  intro i hi
  have hw : IntKind.i64.wrap ((i : Int) + 1) = ((i + 1 : Nat) : Int) := wrap_nat (by omega)
  simp -implicitDefEqProofs only [bV.d, oS.d, J0, J1, J2, J3, J4, J5, J6, J7, ↓reduceIte, reduceCtorEq, List.length_map, l3, l4, l5]
  refine ⟨fun h6 => ?_, fun h6 => ?_⟩
  · have hi' : i < x1.length := by omega
    obtain ⟨u, hu⟩ : ∃ u, x1[i]? = some u := ⟨x1[i], List.getElem?_eq_getElem hi'⟩
    have hmem := List.mem_of_getElem? hu
    have hnu := sumN_mem (f := tymn) hmem
    have hnu2 : tymn u = 1 + tyn u.t + sumN ctn u.cts := rfl
    have iu := vc_same8 u.t (by omega)
    have iv := vc_sameCtors u.cts (by omega)
    have hg : (x1.map encTym)[i]? = some (encTym u) := by rw [List.getElem?_map, hu]; rfl
    obtain ⟨un, ⟨u1, u2, u3⟩, uc⟩ := u
    simp only [tyV, encTy, List.map_cons, List.map_nil] at iu iv
    simp only [encTym, encTy, List.map_cons, List.map_nil, List.cons_append, List.nil_append] at hg
    simp -implicitDefEqProofs only [bV.d, oS.d, J0, J1, J2, J3, J4, J5, J6, J7, ↓reduceIte, reduceCtorEq, hg, Int.natCast_nonneg, Int.toNat_natCast]
    refine callS [] (iu) rfl rfl rfl ?_
    rintro _ _ ⟨rfl, rfl⟩
    refine ⟨_, _, rfl, ?_⟩
    simp -implicitDefEqProofs only [bV.d, oS.d, J0, J1, J2, J3, J4, J5, J6, J7, ↓reduceIte, reduceCtorEq, hg, hw, Int.natCast_nonneg, Int.toNat_natCast]
    refine callS [] (iv) rfl rfl rfl ?_
    rintro _ _ ⟨rfl, rfl⟩
    refine ⟨_, _, rfl, ?_⟩
    simp -implicitDefEqProofs only [bV.d, oS.d, J0, J1, J2, J3, J4, J5, J6, J7, ↓reduceIte, reduceCtorEq, hg, hw, Int.natCast_nonneg, Int.toNat_natCast]
    refine ⟨i + 1, by omega, by omega, ?_⟩
    exact (keepI [0, 1] _ (WkH.refl _) rfl rfl rfl ⟨⟨_, WkV.refl _, rfl⟩, ⟨_, WkV.refl _, rfl⟩, ⟨_, WkV.refl _, rfl⟩, trivial⟩)
  refine loopI (α := Nat) (fun i => [(6, .one (.d (.int .i64 i))), (3, .one (.ptr 1 0)), (2, .one (.ptr 0 0))])
    (fun _ => [.box [.d (.sl (x1.map encTym)), .d (.sl (x2.map encVam)), .d (.sl (encSt.subs x3)), .d (.sl (encSt.funs x4)), .d (.sl (encSt.sigs x5))], .box [.d (.sl (x1.map encTym)), .d (.sl (x2.map encVam)), .d (.sl (encSt.subs x3)), .d (.sl (encSt.funs x4)), .d (.sl (encSt.sigs x5))]])
    (fun i => i ≤ x2.length) (fun i => x2.length - i) 0
    (keepI [0, 1] _ (WkH.refl _) rfl rfl rfl ⟨⟨_, WkV.refl _, rfl⟩, ⟨_, WkV.refl _, rfl⟩, ⟨_, WkV.refl _, rfl⟩, trivial⟩) (Nat.zero_le _) ?_
  intro i hi
  have hw : IntKind.i64.wrap ((i : Int) + 1) = ((i + 1 : Nat) : Int) := wrap_nat (by omega)
  simp -implicitDefEqProofs only [bV.d, oS.d, J0, J1, J2, J3, J4, J5, J6, J7, ↓reduceIte, reduceCtorEq, List.length_map, l3, l4, l5]
  refine ⟨fun h6 => ?_, fun h6 => ?_⟩
  · have hi' : i < x2.length := by omega
    obtain ⟨u, hu⟩ : ∃ u, x2[i]? = some u := ⟨x2[i], List.getElem?_eq_getElem hi'⟩
    have hmem := List.mem_of_getElem? hu
    have hnu := sumN_mem (f := vamn) hmem
    have hnu2 : vamn u = 1 + tyn u.s.t := rfl
    have iu := vc_sameScheme u.s (by omega)
    have hg : (x2.map encVam)[i]? = some (encVam u) := by rw [List.getElem?_map, hu]; rfl
    obtain ⟨un, ⟨u0, ⟨u1, u2, u3⟩⟩⟩ := u
    simp only [scV, encSc, encTy, List.map_cons, List.map_nil] at iu
    simp only [encVam, encSc, encTy, List.map_cons, List.map_nil, List.cons_append, List.nil_append] at hg
    simp -implicitDefEqProofs only [bV.d, oS.d, J0, J1, J2, J3, J4, J5, J6, J7, ↓reduceIte, reduceCtorEq, hg, Int.natCast_nonneg, Int.toNat_natCast]
    refine callS [] (iu) rfl rfl rfl ?_
    rintro _ _ ⟨rfl, rfl⟩
    refine ⟨_, _, rfl, ?_⟩
    simp -implicitDefEqProofs only [bV.d, oS.d, J0, J1, J2, J3, J4, J5, J6, J7, ↓reduceIte, reduceCtorEq, hg, hw, Int.natCast_nonneg, Int.toNat_natCast]
    refine ⟨i + 1, by omega, by omega, ?_⟩
    exact (keepI [0, 1] _ (WkH.refl _) rfl rfl rfl ⟨⟨_, WkV.refl _, rfl⟩, ⟨_, WkV.refl _, rfl⟩, ⟨_, WkV.refl _, rfl⟩, trivial⟩)
  refine loopI (α := Nat) (fun i => [(7, .one (.d (.int .i64 i))), (3, .one (.ptr 1 0)), (2, .one (.ptr 0 0))])
    (fun _ => [.box [.d (.sl (x1.map encTym)), .d (.sl (x2.map encVam)), .d (.sl (encSt.subs x3)), .d (.sl (encSt.funs x4)), .d (.sl (encSt.sigs x5))], .box [.d (.sl (x1.map encTym)), .d (.sl (x2.map encVam)), .d (.sl (encSt.subs x3)), .d (.sl (encSt.funs x4)), .d (.sl (encSt.sigs x5))]])
    (fun i => i ≤ x3.length) (fun i => x3.length - i) 0
    (keepI [0, 1] _ (WkH.refl _) rfl rfl rfl ⟨⟨_, WkV.refl _, rfl⟩, ⟨_, WkV.refl _, rfl⟩, ⟨_, WkV.refl _, rfl⟩, trivial⟩) (Nat.zero_le _) ?_
  intro i hi
  have hw : IntKind.i64.wrap ((i : Int) + 1) = ((i + 1 : Nat) : Int) := wrap_nat (by omega)
  simp -implicitDefEqProofs only [bV.d, oS.d, J0, J1, J2, J3, J4, J5, J6, J7, ↓reduceIte, reduceCtorEq, List.length_map, l3, l4, l5]
  refine ⟨fun h6 => ?_, fun h6 => ?_⟩
  · have hi' : i < x3.length := by omega
    obtain ⟨u, hu⟩ : ∃ u, x3[i]? = some u := ⟨x3[i], List.getElem?_eq_getElem hi'⟩
    have hmem := List.mem_of_getElem? hu
    have hnu := stn_mem hmem
    have iu := ih3 u hmem (by omega)
    have hg : (encSt.subs x3)[i]? = some (encSm u) := by rw [encSubs_sm, List.getElem?_map, hu]; rfl
    obtain ⟨un, ⟨u1, u2, u3, u4, u5⟩⟩ := u
    simp only [stV, encSt, List.map_cons, List.map_nil] at iu
    simp only [encSm, encSt, List.map_cons, List.map_nil, List.cons_append, List.nil_append] at hg
    simp -implicitDefEqProofs only [bV.d, oS.d, J0, J1, J2, J3, J4, J5, J6, J7, ↓reduceIte, reduceCtorEq, hg, Int.natCast_nonneg, Int.toNat_natCast]
    refine callS [] (iu) rfl rfl rfl ?_
    rintro _ _ ⟨rfl, rfl⟩
    refine ⟨_, _, rfl, ?_⟩
    simp -implicitDefEqProofs only [bV.d, oS.d, J0, J1, J2, J3, J4, J5, J6, J7, ↓reduceIte, reduceCtorEq, hg, hw, Int.natCast_nonneg, Int.toNat_natCast]
    refine ⟨i + 1, by omega, by omega, ?_⟩
    exact (keepI [0, 1] _ (WkH.refl _) rfl rfl rfl ⟨⟨_, WkV.refl _, rfl⟩, ⟨_, WkV.refl _, rfl⟩, ⟨_, WkV.refl _, rfl⟩, trivial⟩)
  refine loopI (α := Nat) (fun i => [(8, .one (.d (.int .i64 i))), (3, .one (.ptr 1 0)), (2, .one (.ptr 0 0))])
    (fun _ => [.box [.d (.sl (x1.map encTym)), .d (.sl (x2.map encVam)), .d (.sl (encSt.subs x3)), .d (.sl (encSt.funs x4)), .d (.sl (encSt.sigs x5))], .box [.d (.sl (x1.map encTym)), .d (.sl (x2.map encVam)), .d (.sl (encSt.subs x3)), .d (.sl (encSt.funs x4)), .d (.sl (encSt.sigs x5))]])
    (fun i => i ≤ x4.length) (fun i => x4.length - i) 0
    (keepI [0, 1] _ (WkH.refl _) rfl rfl rfl ⟨⟨_, WkV.refl _, rfl⟩, ⟨_, WkV.refl _, rfl⟩, ⟨_, WkV.refl _, rfl⟩, trivial⟩) (Nat.zero_le _) ?_
  intro i hi
  have hw : IntKind.i64.wrap ((i : Int) + 1) = ((i + 1 : Nat) : Int) := wrap_nat (by omega)
  simp -implicitDefEqProofs only [bV.d, oS.d, J0, J1, J2, J3, J4, J5, J6, J7, ↓reduceIte, reduceCtorEq, List.length_map, l3, l4, l5]
  refine ⟨fun h6 => ?_, fun h6 => ?_⟩
  · have hi' : i < x4.length := by omega
    obtain ⟨u, hu⟩ : ∃ u, x4[i]? = some u := ⟨x4[i], List.getElem?_eq_getElem hi'⟩
    have hmem := List.mem_of_getElem? hu
    have hnu := stn_memF hmem
    have ia := vc_ints66 u.2.1 (by omega)
    have iu := (ih4 u hmem).1 (by omega)
    have iv := vc_sameAb u.2.2.2.1 u.2.2.2.2 (by omega) ((ih4 u hmem).2 (by omega))
    have hg : (encSt.funs x4)[i]? = some (encFm u) := by rw [encFuns_m, List.getElem?_map, hu]; rfl
    obtain ⟨un, l1, ⟨u1, u2, u3, u4, u5⟩, l2, ⟨w1, w2, w3, w4, w5⟩⟩ := u
    simp only [stV, abV, encSt, List.map_cons, List.map_nil] at iu iv
    simp only [encFm, encFn, encSt, List.map_cons, List.map_nil, List.cons_append, List.nil_append] at hg
    simp -implicitDefEqProofs only [bV.d, oS.d, J0, J1, J2, J3, J4, J5, J6, J7, ↓reduceIte, reduceCtorEq, hg, Int.natCast_nonneg, Int.toNat_natCast]
    refine callS [] (ia) rfl rfl rfl ?_
    rintro _ _ ⟨rfl, rfl⟩
    refine ⟨_, _, rfl, ?_⟩
    simp -implicitDefEqProofs only [bV.d, oS.d, J0, J1, J2, J3, J4, J5, J6, J7, ↓reduceIte, reduceCtorEq, hg, hw, Int.natCast_nonneg, Int.toNat_natCast]
    refine callS [] (iu) rfl rfl rfl ?_
    rintro _ _ ⟨rfl, rfl⟩
    refine ⟨_, _, rfl, ?_⟩
    simp -implicitDefEqProofs only [bV.d, oS.d, J0, J1, J2, J3, J4, J5, J6, J7, ↓reduceIte, reduceCtorEq, hg, hw, Int.natCast_nonneg, Int.toNat_natCast]
    refine callS [] (iv) rfl rfl rfl ?_
    rintro _ _ ⟨rfl, rfl⟩
    refine ⟨_, _, rfl, ?_⟩
    simp -implicitDefEqProofs only [bV.d, oS.d, J0, J1, J2, J3, J4, J5, J6, J7, ↓reduceIte, reduceCtorEq, hg, hw, Int.natCast_nonneg, Int.toNat_natCast]
    refine ⟨i + 1, by omega, by omega, ?_⟩
    exact (keepI [0, 1] _ (WkH.refl _) rfl rfl rfl ⟨⟨_, WkV.refl _, rfl⟩, ⟨_, WkV.refl _, rfl⟩, ⟨_, WkV.refl _, rfl⟩, trivial⟩)
  refine loopI (α := Nat) (fun i => [(11, .one (.d (.int .i64 i))), (3, .one (.ptr 1 0)), (2, .one (.ptr 0 0))])
    (fun _ => [.box [.d (.sl (x1.map encTym)), .d (.sl (x2.map encVam)), .d (.sl (encSt.subs x3)), .d (.sl (encSt.funs x4)), .d (.sl (encSt.sigs x5))], .box [.d (.sl (x1.map encTym)), .d (.sl (x2.map encVam)), .d (.sl (encSt.subs x3)), .d (.sl (encSt.funs x4)), .d (.sl (encSt.sigs x5))]])
    (fun i => i ≤ x5.length) (fun i => x5.length - i) 0
    (keepI [0, 1] _ (WkH.refl _) rfl rfl rfl ⟨⟨_, WkV.refl _, rfl⟩, ⟨_, WkV.refl _, rfl⟩, ⟨_, WkV.refl _, rfl⟩, trivial⟩) (Nat.zero_le _) ?_
  intro i hi
  have hw : IntKind.i64.wrap ((i : Int) + 1) = ((i + 1 : Nat) : Int) := wrap_nat (by omega)
  simp -implicitDefEqProofs only [bV.d, oS.d, J0, J1, J2, J3, J4, J5, J6, J7, ↓reduceIte, reduceCtorEq, List.length_map, l3, l4, l5]
  refine ⟨fun h6 => ?_, fun h6 => ?_⟩
  · have hi' : i < x5.length := by omega
    obtain ⟨u, hu⟩ : ∃ u, x5[i]? = some u := ⟨x5[i], List.getElem?_eq_getElem hi'⟩
    have hmem := List.mem_of_getElem? hu
    have hnu := stn_memG hmem
    have iv := vc_sameAb u.2.1 u.2.2 (by omega) (ih5 u hmem (by omega))
    have hg : (encSt.sigs x5)[i]? = some (encSig u) := by rw [encSigs_m, List.getElem?_map, hu]; rfl
    obtain ⟨un, l1, ⟨u1, u2, u3, u4, u5⟩⟩ := u
    simp only [abV, encSt, List.map_cons, List.map_nil] at iv
    simp only [encSig, encSt, List.map_cons, List.map_nil, List.cons_append, List.nil_append] at hg
    simp -implicitDefEqProofs only [bV.d, oS.d, J0, J1, J2, J3, J4, J5, J6, J7, ↓reduceIte, reduceCtorEq, hg, Int.natCast_nonneg, Int.toNat_natCast]
    refine callS [] (iv) rfl rfl rfl ?_
    rintro _ _ ⟨rfl, rfl⟩
    refine ⟨_, _, rfl, ?_⟩
    simp -implicitDefEqProofs only [bV.d, oS.d, J0, J1, J2, J3, J4, J5, J6, J7, ↓reduceIte, reduceCtorEq, hg, hw, Int.natCast_nonneg, Int.toNat_natCast]
    refine ⟨i + 1, by omega, by omega, ?_⟩
    exact (keepI [0, 1] _ (WkH.refl _) rfl rfl rfl ⟨⟨_, WkV.refl _, rfl⟩, ⟨_, WkV.refl _, rfl⟩, ⟨_, WkV.refl _, rfl⟩, trivial⟩)
  apply vend_of []; rfl; rfl
  exact ⟨rfl, rfl⟩

end Go.Vt.Tryz
