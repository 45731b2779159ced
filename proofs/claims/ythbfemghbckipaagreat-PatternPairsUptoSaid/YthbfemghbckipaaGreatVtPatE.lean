/- The pattern laws' seat: functions that put a call off, slices.Compact, and the table of what can be run. -/
import Derived.Test.YthbfemghbckipaaGreatVtPat
import Derived.Test.YthbfemghbckipaaGreatVtComp
import Derived.WalkKit
import Derived.TacticsInMore
set_option maxRecDepth 100000
namespace Go.Vt.Tryz
open Go.Proofs Go.Shelf

theorem mixed : Tryz.prog.follows .mixedOrders = true := by kernel_rfl

def ren18 : Ren := ⟨fun n => if n = 194 then 18 else n, fun n => if n = 31 then 22 else n, fun n => n⟩

theorem laysCompact : Lays.n194 Tryz.prog ren18 where
  mixed := mixed
  f194 := by kernel_rfl
  t0 := Tryz.underlying0
  a0 := Tryz.isAgg0
  z0 := Tryz.sizeOf0
  v0 := Tryz.zeroValue0
  t3 := Tryz.underlying3
  a3 := Tryz.isAgg3
  z3 := Tryz.sizeOf3
  v3 := Tryz.zeroValue3
  t4 := Tryz.underlying4
  a4 := Tryz.isAgg4
  z4 := Tryz.sizeOf4
  v4 := Tryz.zeroValue4
  t9 := Tryz.underlying9
  a9 := Tryz.isAgg9
  z9 := Tryz.sizeOf9
  v9 := Tryz.zeroValue9
  t31 := Tryz.underlying22
  a31 := Tryz.isAgg22
  z31 := Tryz.sizeOf22
  v31 := Tryz.zeroValue22

theorem own_tells : Tells Tryz.prog (evCompact 18) := evCompact_tells (ρ := ren18) laysCompact (by kernel_rfl)

/-- The call that 'caught' puts off: nothing is to be recovered. -/
theorem vcd75 (l : L) (h : AHeap) : VCD Tryz.prog 75 [.one l] h fun h' => h' = h := by
  refine ⟨by kernel_rfl, fun w μ args H hl ha => ?_⟩
  refine (callsDIn_of_wpSIn (R := fun e u' w' => u' = .returning ∧ ∃ x, e = .returned x ∧ w' = w) Tryz.func75 rfl trivial ?_).mono ?_
  · match args, hl with
    | ⟨[v]⟩, _ =>
    intro c₀ cs hu
    apply wpSIn_seq
    apply wpSIn_region
    simp [wpOpsSIn, go_sem, recoverD, hu, Tryz.ntmps75, Exit.thenS]
    apply wpSIn_seq
    apply wpSIn_region
    simp [wpOpsSIn, go_sem, Exit.thenS]
    refine wpSIn_cond (t := false) (by simp [Act.eval, Array.replicate]) ?_
    simp only [Bool.false_eq_true, if_false]
    refine wpSIn_of_wpIn rfl (wpIn_skip ?_)
    cases c₀
    simp_all [bodyPostS, results, Tryz.results75]
  · rintro e u' w' ⟨rfl, x, rfl, rfl⟩
    exact ⟨rfl, x, h, μ, rfl, rfl, H, Good.refl _ _ _⟩

def hdC : Code → Code
  | .seq a _ => a
  | c => c
def tlC : Code → Code
  | .seq _ b => b
  | c => c
def tlN : Nat → Code → Code
  | 0, c => c
  | k + 1, c => tlN k (tlC c)
def preC : Nat → Code → List Code
  | 0, _ => []
  | k + 1, c => hdC c :: preC k (tlC c)
def regOps : Code → List Oper
  | .region _ ops _ => ops.toList
  | _ => []
def regId : Code → Nat
  | .region id _ _ => id
  | _ => 0
def bodyOf (fn : Func) : Code := fn.body.getD .skip

/-- A function that puts a call off in the part behind the first k. -/
noncomputable def dfOf (fn : Func) (k : Nat) (d : Tmp) : DF :=
  let b := bodyOf fn
  let ops := regOps (hdC (tlN k b))
  { N := fn.ntmps, pre := (preC k b).map (compile []), ops := ops.dropLast.map (cop ops), slot := d, rest := compile [] (tlC (tlN k b)), rs := fn.results.toList }

theorem df38 : DfOk Tryz.prog 38 (dfOf Tryz.f38 1 3) :=
  ⟨Tryz.f38, preC 1 (bodyOf Tryz.f38), tlC (tlN 1 (bodyOf Tryz.f38)), regId (hdC (tlN 1 (bodyOf Tryz.f38))), (regOps (hdC (tlN 1 (bodyOf Tryz.f38)))).dropLast, (regOps (hdC (tlN 1 (bodyOf Tryz.f38)))).getLast!, [], Tryz.func38,
    by kernel_rfl, by kernel_rfl, by kernel_rfl, by kernel_rfl, by kernel_rfl, by kernel_rfl, by kernel_rfl, by kernel_rfl, by kernel_rfl, by kernel_rfl, by kernel_rfl, by kernel_rfl, by kernel_rfl⟩

theorem df41 : DfOk Tryz.prog 41 (dfOf Tryz.f41 4 30) :=
  ⟨Tryz.f41, preC 4 (bodyOf Tryz.f41), tlC (tlN 4 (bodyOf Tryz.f41)), regId (hdC (tlN 4 (bodyOf Tryz.f41))), (regOps (hdC (tlN 4 (bodyOf Tryz.f41)))).dropLast, (regOps (hdC (tlN 4 (bodyOf Tryz.f41)))).getLast!, [], Tryz.func41,
    by kernel_rfl, by kernel_rfl, by kernel_rfl, by kernel_rfl, by kernel_rfl, by kernel_rfl, by kernel_rfl, by kernel_rfl, by kernel_rfl, by kernel_rfl, by kernel_rfl, by kernel_rfl, by kernel_rfl⟩

noncomputable def dtbl (f : FuncId) : Option DF := match Nat.beq f 38, Nat.beq f 41 with
  | true, _ => some (dfOf Tryz.f38 1 3)
  | false, true => some (dfOf Tryz.f41 4 30)
  | false, false => none

theorem dtbl_ok : ∀ f x, dtbl f = some x → DfOk Tryz.prog f x := by
  intro f x h
  unfold dtbl at h
  split at h
  · rename_i e; have := nat_beq e; subst this; cases h; exact df38
  · rename_i e; have := nat_beq e; subst this; cases h; exact df41
  · cases h

def ownD : CallerD := fun f avs h => match Nat.beq f 75, avs with
  | true, [.one _] => some h
  | _, _ => none

theorem ownD_tells : TellsD Tryz.prog ownD := by
  intro f avs h h' he
  unfold ownD at he
  split at he
  · rename_i l e; have := nat_beq e; subst this; cases he; exact vcd75 l h
  · cases he

noncomputable def tbl : List (Nat × Nat × VCode × List ResultVar) := [(3, 65, vc3, [ResultVar.tmp 4]), (4, 117, vc4, [ResultVar.tmp 8]), (5, 16, vc5, [ResultVar.tmp 4, ResultVar.tmp 5, ResultVar.tmp 6]), (6, 32, vc6, [ResultVar.cell 2 25]), (7, 94, vc7, [ResultVar.tmp 0]), (8, 53, vc8, [ResultVar.tmp 4]), (9, 167, vc9, [ResultVar.tmp 6]), (10, 14, vc10, []), (11, 3, vc11, [ResultVar.tmp 0]), (12, 77, vc12, [ResultVar.cell 6 42, ResultVar.tmp 7, ResultVar.tmp 8]), (13, 193, vc13, [ResultVar.cell 2 54]), (14, 17, vc14, [ResultVar.cell 4 42, ResultVar.tmp 5]), (15, 10, vc15, [ResultVar.tmp 2]), (16, 25, vc16, [ResultVar.tmp 2]), (17, 11, vc17, []), (18, 61, vc18, [ResultVar.tmp 2]), (19, 24, vc19, [ResultVar.tmp 4]), (20, 21, vc20, [ResultVar.tmp 2]), (21, 145, vc21, [ResultVar.cell 4 42, ResultVar.tmp 5]), (22, 30, vc22, [ResultVar.tmp 6]), (23, 36, vc23, [ResultVar.cell 4 42]), (24, 12, vc24, [ResultVar.tmp 4]), (25, 9, vc25, [ResultVar.tmp 4]), (26, 3, vc26, []), (27, 82, vc27, []), (28, 134, vc28, []), (29, 8, vc29, [ResultVar.tmp 2]), (31, 9, vc31, [ResultVar.tmp 4]), (32, 8, vc32, [ResultVar.tmp 3]), (33, 23, vc33, [ResultVar.cell 2 42]), (34, 26, vc34, [ResultVar.cell 6 42, ResultVar.tmp 7]), (35, 59, vc35, [ResultVar.tmp 6]), (36, 35, vc36, [ResultVar.cell 4 42]), (37, 8, vc37, [ResultVar.tmp 2]), (39, 16, vc39, []), (40, 6, vc40, []), (42, 6, vc42, []), (43, 5, vc43, []), (44, 9, vc44, []), (46, 49, vc46, []), (52, 17, vc52, [ResultVar.tmp 4]), (55, 19, vc55, [ResultVar.tmp 2]), (56, 25, vc56, [ResultVar.tmp 2]), (70, 19, vc70, [ResultVar.tmp 4]), (71, 8, vc71, [ResultVar.tmp 2]), (72, 14, vc72, [ResultVar.tmp 6]), (73, 116, vc73, [ResultVar.tmp 8]), (74, 29, vc74, [ResultVar.tmp 4]), (75, 16, vc75, []), (76, 8, vc76, []), (77, 6, vc77, []), (78, 52, vc78, [ResultVar.tmp 2]), (79, 11, vc79, [ResultVar.tmp 2]), (87, 6, vc87, [ResultVar.tmp 2]), (91, 19, vc91, [ResultVar.tmp 2]), (92, 12, vc92, [ResultVar.tmp 2]), (93, 9, vc93, [ResultVar.tmp 2]), (94, 9, vc94, [ResultVar.tmp 2]), (95, 9, vc95, [ResultVar.tmp 2]), (96, 29, vc96, [ResultVar.tmp 2])]
theorem tbl_ok : AllOk Tryz.prog tbl := ⟨fn3, fn4, fn5, fn6, fn7, fn8, fn9, fn10, fn11, fn12, fn13, fn14, fn15, fn16, fn17, fn18, fn19, fn20, fn21, fn22, fn23, fn24, fn25, fn26, fn27, fn28, fn29, fn31, fn32, fn33, fn34, fn35, fn36, fn37, fn39, fn40, fn42, fn43, fn44, fn46, fn52, fn55, fn56, fn70, fn71, fn72, fn73, fn74, fn75, fn76, fn77, fn78, fn79, fn87, fn91, fn92, fn93, fn94, fn95, fn96, trivial⟩

noncomputable def run : Caller := evAll Tryz.prog (lookF tbl) dtbl (evCompact 18) ownD 100000 200
theorem run_tells : Tells Tryz.prog run := evAll_tells mixed (lookF_ok tbl_ok) dtbl_ok own_tells ownD_tells 200

end Go.Vt.Tryz
