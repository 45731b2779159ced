/- Types and functions of this seat, at the level of values (printed). -/
import Derived.Test.YtladjgdhpfcmjaaGreatDoorProg
import Derived.Test.YtladjgdhpfcmjaaGreatDoorVtComp
set_option maxRecDepth 100000
namespace Go.Vt.Tryz
open Go.Proofs
open Go.Vt.VOp renaming mk → m
open Option renaming some → s, none → n
open Go.Operand renaming tmp → t
open Go.Vt.VCode renaming ops → o, opsW → w, cond → c, block → b, skip → k, ret → r
open Go.Op renaming move → j0, load → j1, fieldAddr → j2, indexAddr → j3, binOp → j4, assign → j5, call → j6, store → j7, alloc → j8, build → j9, buildSlice → ja, extract → jb, pick → jc, box → jd, nilCheck → je, field → jf

theorem mixed : Tryz.prog.follows .mixedOrders = true := by kernel_rfl
theorem noescs (f : Nat) : noEsc Tryz.prog f = List.contains [264] f := noEsc_tbl (by kernel_rfl) (by kernel_rfl) f
theorem bt3 : bty Tryz.prog 3 = none := by kernel_rfl
theorem bt5 : bty Tryz.prog 5 = none := by kernel_rfl
theorem bt9 : bty Tryz.prog 9 = none := by kernel_rfl
theorem bt22 : bty Tryz.prog 22 = none := by kernel_rfl
theorem bt23 : bty Tryz.prog 23 = none := by kernel_rfl
theorem bt24 : bty Tryz.prog 24 = none := by kernel_rfl
theorem bt25 : bty Tryz.prog 25 = none := by kernel_rfl
theorem bt26 : bty Tryz.prog 26 = none := by kernel_rfl
theorem bt27 : bty Tryz.prog 27 = none := by kernel_rfl
theorem bt29 : bty Tryz.prog 29 = none := by kernel_rfl
theorem bt31 : bty Tryz.prog 31 = none := by kernel_rfl
theorem bt66 : bty Tryz.prog 66 = none := by kernel_rfl
theorem bt68 : bty Tryz.prog 68 = none := by kernel_rfl
theorem bt79 : bty Tryz.prog 79 = none := by kernel_rfl
theorem bt80 : bty Tryz.prog 80 = none := by kernel_rfl
theorem bt82 : bty Tryz.prog 82 = none := by kernel_rfl
theorem bt100 : bty Tryz.prog 100 = none := by kernel_rfl
theorem bt102 : bty Tryz.prog 102 = none := by kernel_rfl
theorem bt115 : bty Tryz.prog 115 = none := by kernel_rfl
theorem bt117 : bty Tryz.prog 117 = none := by kernel_rfl
theorem bt120 : bty Tryz.prog 120 = none := by kernel_rfl
theorem bt122 : bty Tryz.prog 122 = none := by kernel_rfl
theorem bt126 : bty Tryz.prog 126 = none := by kernel_rfl
theorem bt129 : bty Tryz.prog 129 = none := by kernel_rfl
theorem bt131 : bty Tryz.prog 131 = none := by kernel_rfl
theorem bt136 : bty Tryz.prog 136 = none := by kernel_rfl
theorem bt138 : bty Tryz.prog 138 = none := by kernel_rfl
theorem bt139 : bty Tryz.prog 139 = none := by kernel_rfl
theorem bt145 : bty Tryz.prog 145 = none := by kernel_rfl
theorem bt154 : bty Tryz.prog 154 = none := by kernel_rfl
theorem bt159 : bty Tryz.prog 159 = none := by kernel_rfl
theorem bt329 : bty Tryz.prog 329 = none := by kernel_rfl
theorem ti3 : ti Tryz.prog 3 = some (TI.mk 1 8 false (some (V.one (L.d (D.int IntKind.i64 (0))))) (TK.int IntKind.i64) [] none) := by kernel_rfl
theorem ti5 : ti Tryz.prog 5 = some (TI.mk 1 1 false (some (V.one (L.d (D.int IntKind.u8 (0))))) (TK.int IntKind.u8) [] none) := by kernel_rfl
theorem ti9 : ti Tryz.prog 9 = some (TI.mk 1 16 false (some (V.one (L.d (D.str (ByteArray.mk (Array.mk [])))))) TK.str [] none) := by kernel_rfl
theorem ti22 : ti Tryz.prog 22 = some (TI.mk 1 24 false (some (V.one L.nils)) TK.slice [] (some (EI.mk 1 8 (some (V.one (L.d (D.int IntKind.i64 (0))))) false))) := by kernel_rfl
theorem ti23 : ti Tryz.prog 23 = some (TI.mk 1 24 false (some (V.one L.nils)) TK.slice [] (some (EI.mk 5 80 (some (V.agg [L.d (D.str (ByteArray.mk (Array.mk []))), L.d (D.int
  IntKind.i64 (0)), L.d (D.int IntKind.i64 (0)), L.nils, L.nils])) true))) := by kernel_rfl
theorem ti24 : ti Tryz.prog 24 = some (TI.mk 1 24 false (some (V.one L.nils)) TK.slice [] (some (EI.mk 5 64 (some (V.agg [L.d (D.str (ByteArray.mk (Array.mk []))), L.d (D.int
  IntKind.i64 (0)), L.d (D.int IntKind.i64 (0)), L.d (D.int IntKind.i64 (0)), L.nils])) true))) := by kernel_rfl
theorem ti25 : ti Tryz.prog 25 = some (TI.mk 1 24 false (some (V.one L.nils)) TK.slice [] (some (EI.mk 6 136 (some (V.agg [L.d (D.str (ByteArray.mk (Array.mk []))), L.nils, L.nils,
  L.nils, L.nils, L.nils])) true))) := by kernel_rfl
theorem ti26 : ti Tryz.prog 26 = some (TI.mk 1 24 false (some (V.one L.nils)) TK.slice [] (some (EI.mk 13 304 (some (V.agg [L.d (D.str (ByteArray.mk (Array.mk []))), L.nils, L.nils,
  L.nils, L.nils, L.nils, L.nils, L.nils, L.nils, L.nils, L.nils, L.nils, L.nils])) true))) := by kernel_rfl
theorem ti27 : ti Tryz.prog 27 = some (TI.mk 1 24 false (some (V.one L.nils)) TK.slice [] (some (EI.mk 7 160 (some (V.agg [L.d (D.str (ByteArray.mk (Array.mk []))), L.nils, L.nils,
  L.nils, L.nils, L.nils, L.nils])) true))) := by kernel_rfl
theorem ti29 : ti Tryz.prog 29 = some (TI.mk 5 120 true (some (V.agg [L.nils, L.nils, L.nils, L.nils, L.nils])) TK.struct [(0, 1, false), (1, 1, false), (2, 1, false), (3, 1,
  false), (4, 1, false)] none) := by kernel_rfl
theorem ti31 : ti Tryz.prog 31 = some (TI.mk 6 144 true (some (V.agg [L.nils, L.nils, L.nils, L.nils, L.nils, L.nils])) TK.struct [(0, 1, false), (1, 5, true)] none) := by
  kernel_rfl
theorem ti66 : ti Tryz.prog 66 = some (TI.mk 1 24 false (some (V.one L.nils)) TK.slice [] (some (EI.mk 2 16 (some (V.agg [L.d (D.int IntKind.i64 (0)), L.d (D.int IntKind.i64 (0))]))
  true))) := by kernel_rfl
theorem ti68 : ti Tryz.prog 68 = some (TI.mk 6 128 true (some (V.agg [L.nils, L.nils, L.nils, L.d (D.int IntKind.i64 (0)), L.nils, L.nils])) TK.struct [(0, 1, false), (1, 1, false),
  (2, 1, false), (3, 1, false), (4, 1, false), (5, 1, false)] none) := by kernel_rfl
theorem ti79 : ti Tryz.prog 79 = some (TI.mk 1 8 false (some (V.one (L.d D.nilp))) TK.ptr [] none) := by kernel_rfl
theorem ti80 : ti Tryz.prog 80 = some (TI.mk 1 8 false (some (V.one L.nilf)) TK.func [] none) := by kernel_rfl
theorem ti82 : ti Tryz.prog 82 = some (TI.mk 3 56 true (some (V.agg [L.nils, L.nils, L.nilf])) TK.struct [(0, 1, false), (1, 1, false), (2, 1, false)] none) := by kernel_rfl
theorem ti100 : ti Tryz.prog 100 = some (TI.mk 1 24 false (some (V.one L.nils)) TK.slice [] (some (EI.mk 3 40 (some (V.agg [L.d (D.int IntKind.i64 (0)), L.d (D.int IntKind.i64 (0)),
  L.nils])) true))) := by kernel_rfl
theorem ti102 : ti Tryz.prog 102 = some (TI.mk 3 40 true (some (V.agg [L.d (D.int IntKind.i64 (0)), L.d (D.int IntKind.i64 (0)), L.nils])) TK.struct [(0, 1, false), (1, 1, false),
  (2, 1, false)] none) := by kernel_rfl
theorem ti115 : ti Tryz.prog 115 = some (TI.mk 1 8 false (some (V.one (L.d D.nilp))) TK.ptr [] none) := by kernel_rfl
theorem ti117 : ti Tryz.prog 117 = some (TI.mk 2 48 true (some (V.agg [L.nils, L.nils])) TK.struct [(0, 1, false), (1, 1, false)] none) := by kernel_rfl
theorem ti120 : ti Tryz.prog 120 = some (TI.mk 1 24 false (some (V.one L.nils)) TK.slice [] (some (EI.mk 2 40 (some (V.agg [L.d (D.str (ByteArray.mk (Array.mk []))), L.nils]))
  true))) := by kernel_rfl
theorem ti122 : ti Tryz.prog 122 = some (TI.mk 5 80 true (some (V.agg [L.d (D.str (ByteArray.mk (Array.mk []))), L.d (D.int IntKind.i64 (0)), L.d (D.int IntKind.i64 (0)), L.nils,
  L.nils])) TK.struct [(0, 1, false), (1, 3, true), (4, 1, false)] none) := by kernel_rfl
theorem ti126 : ti Tryz.prog 126 = some (TI.mk 2 40 true (some (V.agg [L.d (D.str (ByteArray.mk (Array.mk []))), L.nils])) TK.struct [(0, 1, false), (1, 1, false)] none) := by
  kernel_rfl
theorem ti129 : ti Tryz.prog 129 = some (TI.mk 4 48 true (some (V.agg [L.d (D.int IntKind.i64 (0)), L.d (D.int IntKind.i64 (0)), L.d (D.int IntKind.i64 (0)), L.nils])) TK.struct
  [(0, 1, false), (1, 3, true)] none) := by kernel_rfl
theorem ti131 : ti Tryz.prog 131 = some (TI.mk 5 64 true (some (V.agg [L.d (D.str (ByteArray.mk (Array.mk []))), L.d (D.int IntKind.i64 (0)), L.d (D.int IntKind.i64 (0)), L.d (D.int
  IntKind.i64 (0)), L.nils])) TK.struct [(0, 1, false), (1, 4, true)] none) := by kernel_rfl
theorem ti136 : ti Tryz.prog 136 = some (TI.mk 12 288 true (some (V.agg [L.nils, L.nils, L.nils, L.nils, L.nils, L.nils, L.nils, L.nils, L.nils, L.nils, L.nils, L.nils])) TK.struct
  [(0, 1, false), (1, 5, true), (6, 6, true)] none) := by kernel_rfl
theorem ti138 : ti Tryz.prog 138 = some (TI.mk 13 304 true (some (V.agg [L.d (D.str (ByteArray.mk (Array.mk []))), L.nils, L.nils, L.nils, L.nils, L.nils, L.nils, L.nils, L.nils,
  L.nils, L.nils, L.nils, L.nils])) TK.struct [(0, 1, false), (1, 12, true)] none) := by kernel_rfl
theorem ti139 : ti Tryz.prog 139 = some (TI.mk 7 160 true (some (V.agg [L.d (D.str (ByteArray.mk (Array.mk []))), L.nils, L.nils, L.nils, L.nils, L.nils, L.nils])) TK.struct [(0, 1,
  false), (1, 6, true)] none) := by kernel_rfl
theorem ti145 : ti Tryz.prog 145 = some (TI.mk 1 24 false (some (V.one L.nils)) TK.slice [] (some (EI.mk 1 24 (some (V.one L.nils)) false))) := by kernel_rfl
theorem ti154 : ti Tryz.prog 154 = some (TI.mk 6 136 true (some (V.agg [L.d (D.str (ByteArray.mk (Array.mk []))), L.nils, L.nils, L.nils, L.nils, L.nils])) TK.struct [(0, 1, false),
  (1, 5, true)] none) := by kernel_rfl
theorem ti159 : ti Tryz.prog 159 = some (TI.mk 2 16 true (some (V.agg [L.d (D.int IntKind.i64 (0)), L.d (D.int IntKind.i64 (0))])) TK.struct [(0, 1, false), (1, 1, false)] none) :=
  by kernel_rfl
theorem ti329 : ti Tryz.prog 329 = some (TI.mk 2 32 true (some (V.agg [L.d (D.int IntKind.i64 (0)), L.nils])) TK.struct [(0, 1, false), (1, 1, false)] none) := by kernel_rfl
def vc3 : VCode := (o [m (s 2) (jd 31 (t 0)) n,m (s 4) (j5 (.const (.bool false))) n]).seq (((o [m (s 10) (j0 (t 1)) n,m (s 11) (j4 .lss 3 (t 10) (.const (.int .i64 0)) 3) n,m (s 12) (j0 (t 11)) n,m (s 13) (j0 (t 1)) (some (some 12, false)),m (s 14)
 (j4 .gtr 3 (t 13) (.const (.int .i64 536870912)) 3) (some (some 12, false)),m (s 15) (jc (t 12) (.const (.bool true)) (t 14)) n,m (s 16) (j0 (t 15)) n,m (s 17) (j2 31 (t 2) 1) (some (some 16, false)),m (s 18) (j1 29 (t 17)) (some (some 16, false)),m
 (s 19) (j6 (.mk (.value (.func 5)) #[.tmp 18] #[29])) (some (some 16, false)),m (s 20) (j0 (t 1)) (some (some 16, false)),m (s 21) (j6 (.mk (.value (.func 4)) #[.tmp 19, .tmp 20] #[22, 3])) (some (some 16, false)),m (s 22) (.unOp .not 4 (t 21)) (some
 (some 16, false)),m (s 23) (jc (t 16) (.const (.bool true)) (t 22)) n,m (s 24) (j0 (t 23)) n,m (s 25) (j2 31 (t 2) 0) (some (some 24, false)),m (s 26) (j1 22 (t 25)) (some (some 24, false)),m (s 27) (j0 (t 1)) (some (some 24, false)),m (s 28) (j6
 (.mk (.value (.func 4)) #[.tmp 26, .tmp 27] #[22, 3])) (some (some 24, false)),m (s 29) (.unOp .not 4 (t 28)) (some (some 24, false)),m (s 30) (jc (t 24) (.const (.bool true)) (t 29)) n]).seq (c (t 30) ((o [m (s 31) (j6 (.mk (.value (.func 6)) #[]
 #[])) n,m (s 4) (j5 (t 31)) n]).seq r) k)).seq (((o [m (s 5) (j5 (.const (.int .i64 0))) n]).seq (b 0 (((o [m (s 32) (j0 (t 5)) n,m (s 33) (j2 31 (t 2) 0) n,m (s 34) (j1 22 (t 33)) n,m (s 35) (j6 (.mk (.builtin .len) #[.tmp 34] #[22])) n,m (s 36) (j4
 .lss 3 (t 32) (t 35) 3) n]).seq (c (t 36) k (VCode.exit 0))).seq ((b 1 ((o [m (s 6) (j5 (.const (.int .i64 0))) n]).seq (b 2 (((o [m (s 39) (j0 (t 6)) n,m (s 40) (j0 (t 5)) n,m (s 41) (j4 .lss 3 (t 39) (t 40) 3) n]).seq (c (t 41) k (VCode.exit
 2))).seq ((b 3 ((o [m (s 44) (j2 31 (t 2) 0) n,m (s 45) (j1 22 (t 44)) n,m (s 46) (j0 (t 5)) n,m (s 47) (j3 22 (t 45) (t 46)) n,m (s 48) (j1 3 (t 47)) n,m (s 49) (j2 31 (t 2) 0) n,m (s 50) (j1 22 (t 49)) n,m (s 51) (j0 (t 6)) n,m (s 52) (j3 22 (t 50)
 (t 51)) n,m (s 53) (j1 3 (t 52)) n,m (s 54) (j4 .eql 3 (t 48) (t 53) 3) n]).seq (c (t 54) ((o [m (s 55) (j6 (.mk (.value (.func 6)) #[] #[])) n,m (s 4) (j5 (t 55)) n]).seq r) k))).seq (o [m (s 42) (j0 (t 6)) n,m (s 43) (j4 .add 3 (t 42) (.const (.int
 .i64 1)) 3) n,m (s 6) (j5 (t 43)) n]))).loop))).seq (o [m (s 37) (j0 (t 5)) n,m (s 38) (j4 .add 3 (t 37) (.const (.int .i64 1)) 3) n,m (s 5) (j5 (t 38)) n]))).loop)).seq ((o [m (s 57) (j1 31 (t 2)) n,m (s 58) (j0 (t 1)) n,m (s 59) (j6 (.mk (.value
 (.func 7)) #[.tmp 57, .tmp 58] #[31, 3])) n,m (s 56) (j0 (t 59)) n,m (s 60) (jb (t 56) 0) n,m (s 61) (jb (t 56) 1) n,m (s 7) (j8 31) n,m n (j7 31 (t 7) (t 60)) n,m (s 8) (j5 (t 61)) n]).seq (((o [m (s 62) (j2 31 (t 7) 0) n,m (s 63) (j1 22 (t 62)) n,m
 (s 64) (j6 (.mk (.builtin .len) #[.tmp 63] #[22])) n,m (s 65) (j2 31 (t 2) 0) n,m (s 66) (j1 22 (t 65)) n,m (s 67) (j6 (.mk (.builtin .len) #[.tmp 66] #[22])) n,m (s 68) (j4 .neq 3 (t 64) (t 67) 3) n,m (s 69) (j0 (t 68)) n,m (s 70) (j0 (t 8)) (some
 (some 69, false)),m (s 71) (j0 (t 1)) (some (some 69, false)),m (s 72) (j2 31 (t 2) 0) (some (some 69, false)),m (s 73) (j1 22 (t 72)) (some (some 69, false)),m (s 74) (j6 (.mk (.builtin .len) #[.tmp 73] #[22])) (some (some 69, false)),m (s 75) (j4
 .add 3 (t 71) (t 74) 3) (some (some 69, false)),m (s 76) (j4 .neq 3 (t 70) (t 75) 3) (some (some 69, false)),m (s 77) (jc (t 69) (.const (.bool true)) (t 76)) n]).seq (c (t 77) ((o [m (s 4) (j5 (.const (.bool false))) n]).seq r) k)).seq (((o [m (s 9)
 (j5 (.const (.int .i64 0))) n]).seq (b 4 (((o [m (s 78) (j0 (t 9)) n,m (s 79) (j2 31 (t 7) 0) n,m (s 80) (j1 22 (t 79)) n,m (s 81) (j6 (.mk (.builtin .len) #[.tmp 80] #[22])) n,m (s 82) (j4 .lss 3 (t 78) (t 81) 3) n]).seq (c (t 82) k (VCode.exit
 4))).seq ((b 5 ((o [m (s 85) (j2 31 (t 7) 0) n,m (s 86) (j1 22 (t 85)) n,m (s 87) (j0 (t 9)) n,m (s 88) (j3 22 (t 86) (t 87)) n,m (s 89) (j1 3 (t 88)) n,m (s 90) (j0 (t 1)) n,m (s 91) (j0 (t 9)) n,m (s 92) (j4 .add 3 (t 90) (t 91) 3) n,m (s 93) (j4
 .neq 3 (t 89) (t 92) 3) n]).seq (c (t 93) ((o [m (s 4) (j5 (.const (.bool false))) n]).seq r) k))).seq (o [m (s 83) (j0 (t 9)) n,m (s 84) (j4 .add 3 (t 83) (.const (.int .i64 1)) 3) n,m (s 9) (j5 (t 84)) n]))).loop)).seq ((o [m (s 94) (j1 31 (t 2))
 n,m (s 95) (j1 31 (t 7)) n,m (s 96) (j6 (.mk (.value (.func 8)) #[.tmp 94, .tmp 95] #[31, 31])) n,m (s 97) (j0 (t 96)) n,m (s 98) (j6 (.mk (.value (.func 6)) #[] #[])) (some (some 97, true)),m (s 99) (jc (t 97) (t 98) (.const (.bool false))) n,m (s
 4) (j5 (t 99)) n]).seq r))))))
theorem fn3 : FnOk Tryz.prog 3 100 vc3 [ResultVar.tmp 4] := ⟨Tryz.f3, _, [], Tryz.func3, rfl, rfl, rfl, by kernel_rfl, by kernel_rfl, by kernel_rfl⟩
def vc4 : VCode := (o [m (s 4) (j5 (.const (.bool false))) n]).seq (((o [m (s 5) (j5 (.const (.int .i64 0))) n]).seq (b 0 (((o [m (s 6) (j0 (t 5)) n,m (s 7) (j0 (t 0)) n,m (s 8) (j6 (.mk (.builtin .len) #[.tmp 7] #[22])) n,m (s 9) (j4 .lss 3 (t 6) (t
 8) 3) n]).seq (c (t 9) k (VCode.exit 0))).seq ((b 1 ((o [m (s 12) (j0 (t 0)) n,m (s 13) (j0 (t 5)) n,m (s 14) (j3 22 (t 12) (t 13)) n,m (s 15) (j1 3 (t 14)) n,m (s 16) (j4 .lss 3 (t 15) (.const (.int .i64 0)) 3) n,m (s 17) (j0 (t 16)) n,m (s 18) (j0
 (t 0)) (some (some 17, false)),m (s 19) (j0 (t 5)) (some (some 17, false)),m (s 20) (j3 22 (t 18) (t 19)) (some (some 17, false)),m (s 21) (j1 3 (t 20)) (some (some 17, false)),m (s 22) (j0 (t 1)) (some (some 17, false)),m (s 23) (j4 .geq 3 (t 21) (t
 22) 3) (some (some 17, false)),m (s 24) (jc (t 17) (.const (.bool true)) (t 23)) n]).seq (c (t 24) ((o [m (s 4) (j5 (.const (.bool false))) n]).seq r) k))).seq (o [m (s 10) (j0 (t 5)) n,m (s 11) (j4 .add 3 (t 10) (.const (.int .i64 1)) 3) n,m (s 5)
 (j5 (t 11)) n]))).loop)).seq ((o [m (s 4) (j5 (.const (.bool true))) n]).seq r))
theorem fn4 : FnOk Tryz.prog 4 25 vc4 [ResultVar.tmp 4] := ⟨Tryz.f4, _, [], Tryz.func4, rfl, rfl, rfl, by kernel_rfl, by kernel_rfl, by kernel_rfl⟩
def vc5 : VCode := (o [m (s 1) (jd 29 (t 0)) n,m (s 2) (j5 (.const (.slice n 0 0))) n]).seq ((o [m (s 3) (j1 29 (t 1)) n,m (s 4) (j9 31 #[(1, .tmp 3)]) n,m (s 5) (j6 (.mk (.value (.func 9)) #[.tmp 4] #[31])) n,m (s 2) (j5 (t 5)) n]).seq r)
theorem fn5 : FnOk Tryz.prog 5 6 vc5 [ResultVar.tmp 2] := ⟨Tryz.f5, _, [], Tryz.func5, rfl, rfl, rfl, by kernel_rfl, by kernel_rfl, by kernel_rfl⟩
def vc7 : VCode := (o [m (s 2) (jd 31 (t 0)) n,m (s 4) (j8 31) n,m (s 5) (j5 (.const (.int .i64 0))) n]).seq ((o [m (s 6) (j5 (.const (.slice n 0 0))) n]).seq (((o [m (s 7) (j2 31 (t 2) 0) n,m (s 8) (j1 22 (t 7)) n,m (s 9) (j6 (.mk (.builtin .len)
 #[.tmp 8] #[22])) n,m (s 10) (j0 (.const (.int .i64 0))) n]).seq (b 0 ((o [m (s 11) (j4 .lss 3 (t 10) (t 9) 3) n]).seq ((c (t 11) k (VCode.exit 0)).seq ((b 1 ((o [m (s 12) (j0 (t 6)) n,m (s 13) (j0 (t 1)) n,m (s 14) (ja 22 1 #[(0, .tmp 13)]) n,m (s
 15) (j6 (.mk (.builtin .append) #[.tmp 12, .tmp 14] #[22, 22])) n,m (s 6) (j5 (t 15)) n]).seq (o [m (s 16) (j0 (t 1)) n,m (s 17) (j4 .add 3 (t 16) (.const (.int .i64 1)) 3) n,m (s 1) (j5 (t 17)) n]))).seq (o [m (s 18) (j4 .add 3 (t 10) (.const (.int
 .i64 1)) 3) n,m (s 10) (j0 (t 18)) n])))).loop)).seq ((o [m (s 19) (j0 (t 6)) n,m (s 20) (j2 31 (t 2) 1) n,m (s 21) (j1 29 (t 20)) n,m (s 22) (j9 31 #[(1, .tmp 21)]) n,m (s 23) (j2 31 (t 2) 0) n,m (s 24) (j1 22 (t 23)) n,m (s 25) (j0 (t 6)) n,m (s
 26) (j6 (.mk (.value (.func 12)) #[.tmp 22, .tmp 24, .tmp 25] #[31, 22, 22])) n,m (s 27) (jf 31 (t 26) 1) n,m (s 28) (j9 31 #[(0, .tmp 19), (1, .tmp 27)]) n,m (s 29) (j0 (t 1)) n,m n (j7 31 (t 4) (t 28)) n,m (s 5) (j5 (t 29)) n]).seq r)))
theorem fn7 : FnOk Tryz.prog 7 30 vc7 [ResultVar.cell 4 31, ResultVar.tmp 5] := ⟨Tryz.f7, _, [], Tryz.func7, rfl, rfl, rfl, by kernel_rfl, by kernel_rfl, by kernel_rfl⟩
def vc8 : VCode := (o [m (s 2) (jd 31 (t 0)) n,m (s 3) (jd 31 (t 1)) n,m (s 4) (j5 (.const (.bool false))) n]).seq ((w [(0,m (s 5) (j1 31 (t 2)) n), (2,m (s 7) (j1 31 (t 3)) n), (1,m (s 6) (j6 (.mk (.value (.func 14)) #[.tmp 5] #[31])) n), (3,m (s 8)
 (j6 (.mk (.value (.func 14)) #[.tmp 7] #[31])) n), (4,m (s 9) (j6 (.mk (.value (.func 13)) #[.tmp 6, .tmp 8] #[31, 31])) n), (5,m (s 4) (j5 (t 9)) n)] [(1, [2])]).seq r)
theorem fn8 : FnOk Tryz.prog 8 10 vc8 [ResultVar.tmp 4] := ⟨Tryz.f8, _, [(1, [([0, 2, 1, 3, 4, 5], [(1, [2])])])], Tryz.func8, rfl, rfl, rfl, by kernel_rfl, by kernel_rfl, by
  kernel_rfl⟩
def vc9 : VCode := (o [m (s 1) (jd 31 (t 0)) n,m (s 2) (j5 (.const (.slice n 0 0))) n]).seq ((o [m (s 4) (j9 68 #[]) n,m (s 5) (jd 68 (t 4)) n,m (s 3) (j5 (t 5)) n]).seq ((o [m (s 6) (j0 (t 3)) n,m (s 7) (j1 31 (t 1)) n,m (s 8) (j6 (.mk (.value (.func
 15)) #[.tmp 6, .tmp 7] #[65, 31])) n]).seq ((o [m (s 9) (j0 (t 3)) n,m (s 10) (je (t 9)) n,m (s 11) (j2 68 (t 10) 5) n,m (s 12) (j1 22 (t 11)) n,m (s 2) (j5 (t 12)) n]).seq r)))
theorem fn9 : FnOk Tryz.prog 9 13 vc9 [ResultVar.tmp 2] := ⟨Tryz.f9, _, [], Tryz.func9, rfl, rfl, rfl, by kernel_rfl, by kernel_rfl, by kernel_rfl⟩
def vc12 : VCode := (o [m (s 3) (jd 31 (t 0)) n,m (s 6) (j8 31) n]).seq ((o [m (s 10) (j0 (t 1)) n,m (s 11) (j6 (.mk (.builtin .len) #[.tmp 10] #[22])) n,m (s 12) (j0 (t 2)) n,m (s 13) (j6 (.mk (.builtin .len) #[.tmp 12] #[22])) n,m (s 14) (j6 (.mk
 (.builtin .min) #[.tmp 11, .tmp 13] #[3, 3])) n,m (s 7) (j5 (t 14)) n]).seq ((o [m (s 15) (j9 82 #[]) n,m (s 16) (jd 82 (t 15)) n,m (s 8) (j8 79) n,m n (j7 79 (t 8) (t 16)) n]).seq (((o [m (s 17) (j0 (t 7)) n,m (s 18) (j0 (.const (.int .i64 0)))
 n]).seq (b 0 ((o [m (s 19) (j4 .lss 3 (t 18) (t 17) 3) n]).seq ((c (t 19) k (VCode.exit 0)).seq ((b 1 ((o [m (s 20) (j0 (t 18)) n,m (s 9) (j5 (t 20)) n]).seq (VCode.opsB (VBT.ro 0 (m (s 21) (j1 79 (t 8)) n) (VBT.ro 1 (m (s 22) (j1 79 (t 8)) n)
 (VBT.ro 2 (m (s 23) (j1 79 (t 8)) n) (VBT.ro 3 (m (s 24) (je (t 23)) n) (VBT.ro 4 (m (s 25) (j2 82 (t 24) 0) n) (VBT.ro 5 (m (s 26) (j1 22 (t 25)) n) (VBT.ro 6 (m (s 27) (j0 (t 1)) n) (VBT.ro 7 (m (s 28) (j0 (t 7)) n) (VBT.ro 8 (m (s 29) (j4 .sub 3
 (t 28) (.const (.int .i64 1)) 3) n) (VBT.ro 9 (m (s 30) (j0 (t 9)) n) (VBT.ro 10 (m (s 31) (j4 .sub 3 (t 29) (t 30) 3) n) (VBT.ro 11 (m (s 32) (j3 22 (t 27) (t 31)) n) (VBT.ro 12 (m (s 33) (j1 3 (t 32)) n) (VBT.ro 15 (m (s 36) (j1 79 (t 8)) n)
 (VBT.ro 16 (m (s 37) (je (t 36)) n) (VBT.ro 17 (m (s 38) (j2 82 (t 37) 1) n) (VBT.ro 18 (m (s 39) (j1 22 (t 38)) n) (VBT.ro 19 (m (s 40) (j0 (t 2)) n) (VBT.ro 20 (m (s 41) (j0 (t 7)) n) (VBT.ro 21 (m (s 42) (j4 .sub 3 (t 41) (.const (.int .i64 1)) 3)
 n) (VBT.ro 22 (m (s 43) (j0 (t 9)) n) (VBT.ro 23 (m (s 44) (j4 .sub 3 (t 42) (t 43) 3) n) (VBT.ro 24 (m (s 45) (j3 22 (t 40) (t 44)) n) (VBT.ro 25 (m (s 46) (j1 3 (t 45)) n) (VBT.alt 13 (m (s 34) (ja 22 1 #[(0, .tmp 33)]) n) (VBT.alt 14 (m (s 35) (j6
 (.mk (.builtin .append) #[.tmp 26, .tmp 34] #[22, 22])) n) (VBT.alt 26 (m (s 47) (ja 22 1 #[(0, .tmp 46)]) n) (VBT.alt 27 (m (s 48) (j6 (.mk (.builtin .append) #[.tmp 39, .tmp 47] #[22, 22])) n) (VBT.ro 28 (m (s 49) (je (t 21)) n) (VBT.ro 29 (m (s
 50) (j2 82 (t 49) 0) n) (VBT.alt 30 (m n (j7 22 (t 50) (t 35)) n) (VBT.ro 31 (m (s 51) (je (t 22)) n) (VBT.ro 32 (m (s 52) (j2 82 (t 51) 1) n) (VBT.alt 33 (m n (j7 22 (t 52) (t 48)) n) VBT.leaf VBT.no))) VBT.no))) VBT.no) VBT.no) (VBT.alt 26 (m (s
 47) (ja 22 1 #[(0, .tmp 46)]) n) (VBT.alt 14 (m (s 35) (j6 (.mk (.builtin .append) #[.tmp 26, .tmp 34] #[22, 22])) n) (VBT.alt 27 (m (s 48) (j6 (.mk (.builtin .append) #[.tmp 39, .tmp 47] #[22, 22])) n) (VBT.ro 28 (m (s 49) (je (t 21)) n) (VBT.ro 29
 (m (s 50) (j2 82 (t 49) 0) n) (VBT.alt 30 (m n (j7 22 (t 50) (t 35)) n) (VBT.ro 31 (m (s 51) (je (t 22)) n) (VBT.ro 32 (m (s 52) (j2 82 (t 51) 1) n) (VBT.alt 33 (m n (j7 22 (t 52) (t 48)) n) VBT.leaf VBT.no))) VBT.no))) VBT.no) VBT.no) VBT.no))
 (VBT.alt 26 (m (s 47) (ja 22 1 #[(0, .tmp 46)]) n) (VBT.alt 13 (m (s 34) (ja 22 1 #[(0, .tmp 33)]) n) (VBT.alt 14 (m (s 35) (j6 (.mk (.builtin .append) #[.tmp 26, .tmp 34] #[22, 22])) n) (VBT.alt 27 (m (s 48) (j6 (.mk (.builtin .append) #[.tmp 39,
 .tmp 47] #[22, 22])) n) (VBT.ro 28 (m (s 49) (je (t 21)) n) (VBT.ro 29 (m (s 50) (j2 82 (t 49) 0) n) (VBT.alt 30 (m n (j7 22 (t 50) (t 35)) n) (VBT.ro 31 (m (s 51) (je (t 22)) n) (VBT.ro 32 (m (s 52) (j2 82 (t 51) 1) n) (VBT.alt 33 (m n (j7 22 (t 52)
 (t 48)) n) VBT.leaf VBT.no))) VBT.no))) VBT.no) VBT.no) VBT.no) VBT.no)))))))))))))))))))))))))) [(13, [0, 1, 2, 3, 4, 5, 15, 16, 17, 18, 24, 25]), (14, [0, 1, 15, 16, 17, 18, 24, 25]), (26, [0, 1, 2, 3, 4, 5, 11, 12, 15, 16, 17, 18]), (27, [0, 1]),
 (30, [1])]))).seq (o [m (s 53) (j4 .add 3 (t 18) (.const (.int .i64 1)) 3) n,m (s 18) (j0 (t 53)) n])))).loop)).seq ((o [m (s 54) (j1 79 (t 8)) n,m (s 55) (.makeFunc (.func 22) #[] #[.tmp 8]) n,m (s 56) (je (t 54)) n,m (s 57) (j2 82 (t 56) 2) n,m n
 (j7 80 (t 57) (t 55)) n]).seq ((o [m (s 58) (j1 79 (t 8)) n,m (s 59) (j1 31 (t 3)) n,m (s 60) (j6 (.mk (.value (.func 26)) #[.tmp 58, .tmp 59] #[79, 31])) n,m n (j7 31 (t 6) (t 60)) n]).seq r)))))
theorem fn12 : FnOk Tryz.prog 12 61 vc12 [ResultVar.cell 6 31] := ⟨Tryz.f12, _, [(6, [([0, 1, 2, 3, 4, 5, 6, 7, 8, 9, 10, 11, 12, 15, 16, 17, 18, 19, 20, 21, 22, 23, 24, 25, 13, 14,
  26, 27, 28, 29, 30, 31, 32, 33], [(13, [0, 1, 2, 3, 4, 5, 15, 16, 17, 18, 24, 25]), (14, [0, 1, 15, 16, 17, 18, 24, 25]), (26, [0, 1, 2, 3, 4, 5, 11, 12, 15, 16, 17, 18]), (27,
  [0, 1]), (30, [1])]), ([0, 1, 2, 3, 4, 5, 6, 7, 8, 9, 10, 11, 12, 15, 16, 17, 18, 19, 20, 21, 22, 23, 24, 25, 13, 26, 14, 27, 28, 29, 30, 31, 32, 33], []), ([0, 1, 2, 3, 4, 5, 6,
  7, 8, 9, 10, 11, 12, 15, 16, 17, 18, 19, 20, 21, 22, 23, 24, 25, 26, 13, 14, 27, 28, 29, 30, 31, 32, 33], [])])], Tryz.func12, rfl, rfl, rfl, by kernel_rfl, by kernel_rfl, by
  kernel_rfl⟩
def vc13 : VCode := (o [m (s 2) (jd 31 (t 0)) n,m (s 3) (jd 31 (t 1)) n,m (s 4) (j5 (.const (.bool false))) n]).seq ((o [m (s 5) (j2 31 (t 2) 0) n,m (s 6) (j1 22 (t 5)) n,m (s 7) (j2 31 (t 3) 0) n,m (s 8) (j1 22 (t 7)) n,m (s 9) (j6 (.mk (.value
 (.func 27)) #[.tmp 6, .tmp 8] #[22, 22])) n,m (s 10) (j0 (t 9)) n,m (s 11) (j2 31 (t 2) 1) (some (some 10, true)),m (s 12) (j1 29 (t 11)) (some (some 10, true)),m (s 13) (j2 31 (t 3) 1) (some (some 10, true)),m (s 14) (j1 29 (t 13)) (some (some 10,
 true)),m (s 15) (j6 (.mk (.value (.func 28)) #[.tmp 12, .tmp 14] #[29, 29])) (some (some 10, true)),m (s 16) (jc (t 10) (t 15) (.const (.bool false))) n,m (s 4) (j5 (t 16)) n]).seq r)
theorem fn13 : FnOk Tryz.prog 13 17 vc13 [ResultVar.tmp 4] := ⟨Tryz.f13, _, [], Tryz.func13, rfl, rfl, rfl, by kernel_rfl, by kernel_rfl, by kernel_rfl⟩
def vc14 : VCode := (o [m (s 1) (jd 31 (t 0)) n,m (s 2) (j8 31) n]).seq ((o [m (s 4) (j1 31 (t 1)) n,m (s 5) (j6 (.mk (.value (.func 9)) #[.tmp 4] #[31])) n,m (s 6) (j9 68 #[(4, .tmp 5)]) n,m (s 7) (jd 68 (t 6)) n,m (s 3) (j5 (t 7)) n]).seq ((w [(0,m
 (s 8) (j0 (t 3)) n), (1,m (s 9) (j2 31 (t 1) 0) n), (2,m (s 10) (j1 22 (t 9)) n), (3,m (s 11) (j2 31 (t 1) 1) n), (4,m (s 12) (j1 29 (t 11)) n), (5,m (s 13) (j6 (.mk (.value (.func 29)) #[.tmp 12] #[29])) n), (6,m (s 14) (j9 31 #[(0, .tmp 10), (1,
 .tmp 13)]) n), (7,m (s 15) (j6 (.mk (.value (.func 15)) #[.tmp 8, .tmp 14] #[65, 31])) n), (8,m n (j7 31 (t 2) (t 15)) n)] [(5, [1, 2])]).seq r))
theorem fn14 : FnOk Tryz.prog 14 16 vc14 [ResultVar.cell 2 31] := ⟨Tryz.f14, _, [(2, [([0, 1, 2, 3, 4, 5, 6, 7, 8], [(5, [1, 2])])])], Tryz.func14, rfl, rfl, rfl, by kernel_rfl, by
  kernel_rfl, by kernel_rfl⟩
def vc15 : VCode := (o [m (s 3) (jd 31 (t 1)) n,m (s 4) (j8 31) n]).seq ((o [m (s 6) (j0 (t 0)) n,m (s 7) (j2 31 (t 3) 0) n,m (s 8) (j1 22 (t 7)) n,m (s 9) (j6 (.mk (.value (.func 30)) #[.tmp 6, .tmp 8] #[65, 22])) n]).seq ((o [m (s 10) (j0 (t 0)) n,m
 (s 11) (j2 31 (t 3) 1) n,m (s 12) (j1 29 (t 11)) n,m (s 13) (j6 (.mk (.value (.func 31)) #[.tmp 10, .tmp 12] #[65, 29])) n,m (s 5) (j8 29) n,m n (j7 29 (t 5) (t 13)) n]).seq ((w [(0,m (s 14) (j0 (t 0)) n), (1,m (s 15) (j2 31 (t 3) 0) n), (2,m (s 16)
 (j1 22 (t 15)) n), (3,m (s 17) (j6 (.mk (.builtin .len) #[.tmp 16] #[22])) n), (5,m (s 19) (j1 29 (t 5)) n), (4,m (s 18) (j6 (.mk (.value (.func 32)) #[.tmp 14, .tmp 17] #[65, 3])) n), (6,m (s 20) (j9 31 #[(0, .tmp 18), (1, .tmp 19)]) n), (7,m n (j7
 31 (t 4) (t 20)) n)] [(4, [5])]).seq r)))
theorem fn15 : FnOk Tryz.prog 15 21 vc15 [ResultVar.cell 4 31] := ⟨Tryz.f15, _, [(3, [([0, 1, 2, 3, 5, 4, 6, 7], [(4, [5])])])], Tryz.func15, rfl, rfl, rfl, by kernel_rfl, by
  kernel_rfl, by kernel_rfl⟩
def vc22 : VCode := (o [m (s 5) (j5 (.const (.slice n 0 0))) n]).seq ((o [m (s 6) (j5 (.const (.slice n 0 0))) n]).seq (((o [m (s 12) (j0 (t 1)) n,m (s 13) (j6 (.mk (.builtin .len) #[.tmp 12] #[22])) n,m (s 14) (j0 (.const (.int .i64 0))) n]).seq (b 0
 ((o [m (s 15) (j4 .lss 3 (t 14) (t 13) 3) n]).seq ((c (t 15) k (VCode.exit 0)).seq ((b 1 ((o [m (s 16) (j3 22 (t 12) (t 14)) n,m (s 17) (j1 3 (t 16)) n,m (s 8) (j5 (t 17)) n]).seq ((o [m (s 18) (j0 (t 0)) n,m (s 19) (j0 (t 8)) n,m (s 20) (j6 (.mk
 (.value (.func 23)) #[.tmp 18, .tmp 19] #[22, 3])) n,m (s 21) (.unOp .not 4 (t 20)) n]).seq (c (t 21) (o [m (s 22) (j0 (t 6)) n,m (s 23) (j1 79 (t 2)) n,m (s 24) (j0 (t 8)) n,m (s 25) (j6 (.mk (.value (.func 24)) #[.tmp 23, .tmp 24] #[79, 3])) n,m (s
 26) (ja 22 1 #[(0, .tmp 25)]) n,m (s 27) (j6 (.mk (.builtin .append) #[.tmp 22, .tmp 26] #[22, 22])) n,m (s 6) (j5 (t 27)) n]) k)))).seq (o [m (s 28) (j4 .add 3 (t 14) (.const (.int .i64 1)) 3) n,m (s 14) (j0 (t 28)) n])))).loop)).seq ((o [m (s 9)
 (j5 (.const (.slice n 0 0))) n]).seq (((o [m (s 29) (j0 (t 0)) n,m (s 30) (j6 (.mk (.builtin .len) #[.tmp 29] #[22])) n,m (s 31) (j0 (.const (.int .i64 0))) n]).seq (b 2 ((o [m (s 32) (j4 .lss 3 (t 31) (t 30) 3) n]).seq ((c (t 32) k (VCode.exit
 2)).seq ((b 3 ((o [m (s 33) (j3 22 (t 29) (t 31)) n,m (s 34) (j1 3 (t 33)) n,m (s 11) (j5 (t 34)) n]).seq (((o [m (s 35) (j0 (t 6)) n,m (s 36) (j0 (t 11)) n,m (s 37) (j6 (.mk (.value (.func 23)) #[.tmp 35, .tmp 36] #[22, 3])) n]).seq (c (t 37) (o [m
 (s 38) (j0 (t 6)) n,m (s 39) (j0 (t 0)) n,m (s 40) (j0 (t 9)) n,m (s 41) (j0 (t 1)) n,m (s 42) (ja 145 4 #[(0, .tmp 38), (1, .tmp 39), (2, .tmp 40), (3, .tmp 41)]) n,m (s 43) (j6 (.mk (.value (.func 25)) #[.tmp 42] #[145])) n,m (s 11) (j5 (t 43)) n])
 k)).seq (o [m (s 44) (j0 (t 9)) n,m (s 45) (j0 (t 11)) n,m (s 46) (ja 22 1 #[(0, .tmp 45)]) n,m (s 47) (j6 (.mk (.builtin .append) #[.tmp 44, .tmp 46] #[22, 22])) n,m (s 9) (j5 (t 47)) n])))).seq (o [m (s 48) (j4 .add 3 (t 31) (.const (.int .i64 1))
 3) n,m (s 31) (j0 (t 48)) n])))).loop)).seq ((o [m (s 49) (j0 (t 9)) n,m (s 5) (j5 (t 49)) n]).seq r)))))
theorem fn22 : FnOk Tryz.prog 22 50 vc22 [ResultVar.tmp 5] := ⟨Tryz.f22, _, [], Tryz.func22, rfl, rfl, rfl, by kernel_rfl, by kernel_rfl, by kernel_rfl⟩
def vc23 : VCode := (o [m (s 4) (j5 (.const (.bool false))) n]).seq ((o [m (s 5) (j0 (t 0)) n,m (s 6) (j0 (t 1)) n,m (s 7) (j6 (.mk (.value (.func 49)) #[.tmp 5, .tmp 6] #[22, 3])) n,m (s 8) (j4 .geq 3 (t 7) (.const (.int .i64 0)) 3) n,m (s 4) (j5 (t
 8)) n]).seq r)
theorem fn23 : FnOk Tryz.prog 23 9 vc23 [ResultVar.tmp 4] := ⟨Tryz.f23, _, [], Tryz.func23, rfl, rfl, rfl, by kernel_rfl, by kernel_rfl, by kernel_rfl⟩
def vc24 : VCode := (o [m (s 2) (jd 79 (t 0)) n,m (s 3) (jd 3 (t 1)) n,m (s 4) (j8 3) n]).seq (((o [m (s 6) (j1 79 (t 2)) n,m (s 7) (je (t 6)) n,m (s 8) (j2 82 (t 7) 0) n,m (s 9) (j1 22 (t 8)) n,m (s 10) (j6 (.mk (.value (.func 50)) #[.tmp 9] #[22]))
 n]).seq (b 0 (VCode.rangeF (t 10) [11, 12] (o [m (s 5) (j5 (t 11)) n]) (b 1 ((o [m (s 13) (j1 79 (t 2)) n,m (s 14) (je (t 13)) n,m (s 15) (j2 82 (t 14) 0) n,m (s 16) (j1 22 (t 15)) n,m (s 17) (j0 (t 5)) n,m (s 18) (j3 22 (t 16) (t 17)) n,m (s 19) (j1
 3 (t 18)) n,m (s 20) (j1 3 (t 3)) n,m (s 21) (j4 .eql 3 (t 19) (t 20) 3) n]).seq (c (t 21) ((o [m (s 22) (j1 79 (t 2)) n,m (s 23) (je (t 22)) n,m (s 24) (j2 82 (t 23) 1) n,m (s 25) (j1 22 (t 24)) n,m (s 26) (j0 (t 5)) n,m (s 27) (j3 22 (t 25) (t 26))
 n,m (s 28) (j1 3 (t 27)) n,m n (j7 3 (t 4) (t 28)) n]).seq r) k)))))).seq ((o [m (s 29) (j1 3 (t 3)) n,m n (j7 3 (t 4) (t 29)) n]).seq r))
theorem fn24 : FnOk Tryz.prog 24 30 vc24 [ResultVar.cell 4 3] := ⟨Tryz.f24, _, [], Tryz.func24, rfl, rfl, rfl, by kernel_rfl, by kernel_rfl, by kernel_rfl⟩
def vc25 : VCode := (o [m (s 2) (j5 (.const (.int .i64 0))) n]).seq ((o [m (s 3) (j8 3) n,m n (j7 3 (t 3) (.const (.int .i64 0))) n]).seq ((b 0 (((o [m (s 4) (j0 (t 0)) n,m (s 5) (.makeFunc (.func 52) #[] #[.tmp 3]) n,m (s 6) (j6 (.mk (.value (.func
 51)) #[.tmp 4, .tmp 5] #[145, 147])) n]).seq (c (t 6) k (VCode.exit 0))).seq (b 1 (o [m (s 7) (j1 3 (t 3)) n,m (s 8) (j4 .add 3 (t 7) (.const (.int .i64 1)) 3) n,m n (j7 3 (t 3) (t 8)) n]))).loop).seq ((o [m (s 9) (j1 3 (t 3)) n,m (s 2) (j5 (t 9))
 n]).seq r)))
theorem fn25 : FnOk Tryz.prog 25 10 vc25 [ResultVar.tmp 2] := ⟨Tryz.f25, _, [], Tryz.func25, rfl, rfl, rfl, by kernel_rfl, by kernel_rfl, by kernel_rfl⟩
def vc26 : VCode := (o [m (s 2) (jd 79 (t 0)) n,m (s 3) (jd 31 (t 1)) n,m (s 4) (j8 31) n]).seq ((o [m (s 6) (j9 117 #[]) n,m (s 7) (jd 117 (t 6)) n,m (s 5) (j5 (t 7)) n]).seq ((o [m (s 8) (j0 (t 5)) n,m (s 9) (j2 31 (t 3) 1) n,m (s 10) (j1 29 (t 9))
 n,m (s 11) (j6 (.mk (.value (.func 53)) #[.tmp 8, .tmp 10] #[115, 29])) n]).seq ((o [m (s 12) (j1 79 (t 2)) n,m (s 13) (j2 31 (t 3) 0) n,m (s 14) (j1 22 (t 13)) n,m (s 15) (j0 (t 5)) n,m (s 16) (je (t 15)) n,m (s 17) (j2 117 (t 16) 1) n,m (s 18) (j1
 22 (t 17)) n,m (s 19) (.makeFunc (.func 55) #[] #[.tmp 2, .tmp 3, .tmp 4]) n,m (s 20) (j6 (.mk (.value (.func 54)) #[.tmp 12, .tmp 14, .tmp 18, .tmp 19] #[79, 22, 22, 88])) n]).seq ((o [m (s 21) (j1 31 (t 4)) n,m n (j7 31 (t 4) (t 21)) n]).seq r))))
theorem fn26 : FnOk Tryz.prog 26 22 vc26 [ResultVar.cell 4 31] := ⟨Tryz.f26, _, [], Tryz.func26, rfl, rfl, rfl, by kernel_rfl, by kernel_rfl, by kernel_rfl⟩
def vc27 : VCode := (o [m (s 4) (j5 (.const (.bool false))) n]).seq (((o [m (s 6) (j0 (t 0)) n,m (s 7) (j6 (.mk (.builtin .len) #[.tmp 6] #[22])) n,m (s 8) (j0 (t 1)) n,m (s 9) (j6 (.mk (.builtin .len) #[.tmp 8] #[22])) n,m (s 10) (j4 .neq 3 (t 7) (t
 9) 3) n]).seq (c (t 10) ((o [m (s 4) (j5 (.const (.bool false))) n]).seq r) k)).seq (((o [m (s 5) (j5 (.const (.int .i64 0))) n]).seq (b 0 (((o [m (s 11) (j0 (t 5)) n,m (s 12) (j0 (t 0)) n,m (s 13) (j6 (.mk (.builtin .len) #[.tmp 12] #[22])) n,m (s
 14) (j4 .lss 3 (t 11) (t 13) 3) n]).seq (c (t 14) k (VCode.exit 0))).seq ((b 1 ((o [m (s 17) (j0 (t 0)) n,m (s 18) (j0 (t 5)) n,m (s 19) (j3 22 (t 17) (t 18)) n,m (s 20) (j1 3 (t 19)) n,m (s 21) (j0 (t 1)) n,m (s 22) (j0 (t 5)) n,m (s 23) (j3 22 (t
 21) (t 22)) n,m (s 24) (j1 3 (t 23)) n,m (s 25) (j4 .neq 3 (t 20) (t 24) 3) n]).seq (c (t 25) ((o [m (s 4) (j5 (.const (.bool false))) n]).seq r) k))).seq (o [m (s 15) (j0 (t 5)) n,m (s 16) (j4 .add 3 (t 15) (.const (.int .i64 1)) 3) n,m (s 5) (j5 (t
 16)) n]))).loop)).seq ((o [m (s 4) (j5 (.const (.bool true))) n]).seq r)))
theorem fn27 : FnOk Tryz.prog 27 26 vc27 [ResultVar.tmp 4] := ⟨Tryz.f27, _, [], Tryz.func27, rfl, rfl, rfl, by kernel_rfl, by kernel_rfl, by kernel_rfl⟩
def vc28 : VCode := (o [m (s 2) (jd 29 (t 0)) n,m (s 3) (jd 29 (t 1)) n,m (s 4) (j5 (.const (.bool false))) n]).seq (((o [m (s 12) (j2 29 (t 2) 0) n,m (s 13) (j1 23 (t 12)) n,m (s 14) (j6 (.mk (.builtin .len) #[.tmp 13] #[23])) n,m (s 15) (j2 29 (t 3)
 0) n,m (s 16) (j1 23 (t 15)) n,m (s 17) (j6 (.mk (.builtin .len) #[.tmp 16] #[23])) n,m (s 18) (j4 .neq 3 (t 14) (t 17) 3) n,m (s 19) (j0 (t 18)) n,m (s 20) (j2 29 (t 2) 1) (some (some 19, false)),m (s 21) (j1 24 (t 20)) (some (some 19, false)),m (s
 22) (j6 (.mk (.builtin .len) #[.tmp 21] #[24])) (some (some 19, false)),m (s 23) (j2 29 (t 3) 1) (some (some 19, false)),m (s 24) (j1 24 (t 23)) (some (some 19, false)),m (s 25) (j6 (.mk (.builtin .len) #[.tmp 24] #[24])) (some (some 19, false)),m (s
 26) (j4 .neq 3 (t 22) (t 25) 3) (some (some 19, false)),m (s 27) (jc (t 19) (.const (.bool true)) (t 26)) n,m (s 28) (j0 (t 27)) n,m (s 29) (j2 29 (t 2) 2) (some (some 28, false)),m (s 30) (j1 25 (t 29)) (some (some 28, false)),m (s 31) (j6 (.mk
 (.builtin .len) #[.tmp 30] #[25])) (some (some 28, false)),m (s 32) (j2 29 (t 3) 2) (some (some 28, false)),m (s 33) (j1 25 (t 32)) (some (some 28, false)),m (s 34) (j6 (.mk (.builtin .len) #[.tmp 33] #[25])) (some (some 28, false)),m (s 35) (j4 .neq
 3 (t 31) (t 34) 3) (some (some 28, false)),m (s 36) (jc (t 28) (.const (.bool true)) (t 35)) n,m (s 37) (j0 (t 36)) n,m (s 38) (j2 29 (t 2) 3) (some (some 37, false)),m (s 39) (j1 26 (t 38)) (some (some 37, false)),m (s 40) (j6 (.mk (.builtin .len)
 #[.tmp 39] #[26])) (some (some 37, false)),m (s 41) (j2 29 (t 3) 3) (some (some 37, false)),m (s 42) (j1 26 (t 41)) (some (some 37, false)),m (s 43) (j6 (.mk (.builtin .len) #[.tmp 42] #[26])) (some (some 37, false)),m (s 44) (j4 .neq 3 (t 40) (t 43)
 3) (some (some 37, false)),m (s 45) (jc (t 37) (.const (.bool true)) (t 44)) n,m (s 46) (j0 (t 45)) n,m (s 47) (j2 29 (t 2) 4) (some (some 46, false)),m (s 48) (j1 27 (t 47)) (some (some 46, false)),m (s 49) (j6 (.mk (.builtin .len) #[.tmp 48]
 #[27])) (some (some 46, false)),m (s 50) (j2 29 (t 3) 4) (some (some 46, false)),m (s 51) (j1 27 (t 50)) (some (some 46, false)),m (s 52) (j6 (.mk (.builtin .len) #[.tmp 51] #[27])) (some (some 46, false)),m (s 53) (j4 .neq 3 (t 49) (t 52) 3) (some
 (some 46, false)),m (s 54) (jc (t 46) (.const (.bool true)) (t 53)) n]).seq (c (t 54) ((o [m (s 4) (j5 (.const (.bool false))) n]).seq r) k)).seq (((o [m (s 5) (j5 (.const (.int .i64 0))) n]).seq (b 0 (((o [m (s 55) (j0 (t 5)) n,m (s 56) (j2 29 (t 2)
 0) n,m (s 57) (j1 23 (t 56)) n,m (s 58) (j6 (.mk (.builtin .len) #[.tmp 57] #[23])) n,m (s 59) (j4 .lss 3 (t 55) (t 58) 3) n]).seq (c (t 59) k (VCode.exit 0))).seq ((b 1 ((o [m (s 62) (j2 29 (t 2) 0) n,m (s 63) (j1 23 (t 62)) n,m (s 64) (j0 (t 5))
 n,m (s 65) (j3 23 (t 63) (t 64)) n,m (s 66) (j2 122 (t 65) 0) n,m (s 67) (j1 9 (t 66)) n,m (s 68) (j2 29 (t 3) 0) n,m (s 69) (j1 23 (t 68)) n,m (s 70) (j0 (t 5)) n,m (s 71) (j3 23 (t 69) (t 70)) n,m (s 72) (j2 122 (t 71) 0) n,m (s 73) (j1 9 (t 72))
 n,m (s 74) (j4 .neq 9 (t 67) (t 73) 9) n,m (s 75) (j0 (t 74)) n,m (s 76) (j2 29 (t 2) 0) (some (some 75, false)),m (s 77) (j1 23 (t 76)) (some (some 75, false)),m (s 78) (j0 (t 5)) (some (some 75, false)),m (s 79) (j3 23 (t 77) (t 78)) (some (some
 75, false)),m (s 80) (j2 122 (t 79) 1) (some (some 75, false)),m (s 81) (j1 102 (t 80)) (some (some 75, false)),m (s 82) (j2 29 (t 3) 0) (some (some 75, false)),m (s 83) (j1 23 (t 82)) (some (some 75, false)),m (s 84) (j0 (t 5)) (some (some 75,
 false)),m (s 85) (j3 23 (t 83) (t 84)) (some (some 75, false)),m (s 86) (j2 122 (t 85) 1) (some (some 75, false)),m (s 87) (j1 102 (t 86)) (some (some 75, false)),m (s 88) (j6 (.mk (.value (.func 57)) #[.tmp 81, .tmp 87] #[102, 102])) (some (some 75,
 false)),m (s 89) (.unOp .not 4 (t 88)) (some (some 75, false)),m (s 90) (jc (t 75) (.const (.bool true)) (t 89)) n,m (s 91) (j0 (t 90)) n,m (s 92) (j2 29 (t 2) 0) (some (some 91, false)),m (s 93) (j1 23 (t 92)) (some (some 91, false)),m (s 94) (j0 (t
 5)) (some (some 91, false)),m (s 95) (j3 23 (t 93) (t 94)) (some (some 91, false)),m (s 96) (j2 122 (t 95) 2) (some (some 91, false)),m (s 97) (j1 120 (t 96)) (some (some 91, false)),m (s 98) (j2 29 (t 3) 0) (some (some 91, false)),m (s 99) (j1 23 (t
 98)) (some (some 91, false)),m (s 100) (j0 (t 5)) (some (some 91, false)),m (s 101) (j3 23 (t 99) (t 100)) (some (some 91, false)),m (s 102) (j2 122 (t 101) 2) (some (some 91, false)),m (s 103) (j1 120 (t 102)) (some (some 91, false)),m (s 104) (j6
 (.mk (.value (.func 58)) #[.tmp 97, .tmp 103] #[120, 120])) (some (some 91, false)),m (s 105) (.unOp .not 4 (t 104)) (some (some 91, false)),m (s 106) (jc (t 91) (.const (.bool true)) (t 105)) n]).seq (c (t 106) ((o [m (s 4) (j5 (.const (.bool
 false))) n]).seq r) k))).seq (o [m (s 60) (j0 (t 5)) n,m (s 61) (j4 .add 3 (t 60) (.const (.int .i64 1)) 3) n,m (s 5) (j5 (t 61)) n]))).loop)).seq (((o [m (s 6) (j5 (.const (.int .i64 0))) n]).seq (b 2 (((o [m (s 107) (j0 (t 6)) n,m (s 108) (j2 29 (t
 2) 1) n,m (s 109) (j1 24 (t 108)) n,m (s 110) (j6 (.mk (.builtin .len) #[.tmp 109] #[24])) n,m (s 111) (j4 .lss 3 (t 107) (t 110) 3) n]).seq (c (t 111) k (VCode.exit 2))).seq ((b 3 ((o [m (s 114) (j2 29 (t 2) 1) n,m (s 115) (j1 24 (t 114)) n,m (s
 116) (j0 (t 6)) n,m (s 117) (j3 24 (t 115) (t 116)) n,m (s 118) (j2 131 (t 117) 0) n,m (s 119) (j1 9 (t 118)) n,m (s 120) (j2 29 (t 3) 1) n,m (s 121) (j1 24 (t 120)) n,m (s 122) (j0 (t 6)) n,m (s 123) (j3 24 (t 121) (t 122)) n,m (s 124) (j2 131 (t
 123) 0) n,m (s 125) (j1 9 (t 124)) n,m (s 126) (j4 .neq 9 (t 119) (t 125) 9) n,m (s 127) (j0 (t 126)) n,m (s 128) (j2 29 (t 2) 1) (some (some 127, false)),m (s 129) (j1 24 (t 128)) (some (some 127, false)),m (s 130) (j0 (t 6)) (some (some 127,
 false)),m (s 131) (j3 24 (t 129) (t 130)) (some (some 127, false)),m (s 132) (j2 131 (t 131) 1) (some (some 127, false)),m (s 133) (j1 129 (t 132)) (some (some 127, false)),m (s 134) (j2 29 (t 3) 1) (some (some 127, false)),m (s 135) (j1 24 (t 134))
 (some (some 127, false)),m (s 136) (j0 (t 6)) (some (some 127, false)),m (s 137) (j3 24 (t 135) (t 136)) (some (some 127, false)),m (s 138) (j2 131 (t 137) 1) (some (some 127, false)),m (s 139) (j1 129 (t 138)) (some (some 127, false)),m (s 140) (j6
 (.mk (.value (.func 59)) #[.tmp 133, .tmp 139] #[129, 129])) (some (some 127, false)),m (s 141) (.unOp .not 4 (t 140)) (some (some 127, false)),m (s 142) (jc (t 127) (.const (.bool true)) (t 141)) n]).seq (c (t 142) ((o [m (s 4) (j5 (.const (.bool
 false))) n]).seq r) k))).seq (o [m (s 112) (j0 (t 6)) n,m (s 113) (j4 .add 3 (t 112) (.const (.int .i64 1)) 3) n,m (s 6) (j5 (t 113)) n]))).loop)).seq (((o [m (s 7) (j5 (.const (.int .i64 0))) n]).seq (b 4 (((o [m (s 143) (j0 (t 7)) n,m (s 144) (j2
 29 (t 2) 2) n,m (s 145) (j1 25 (t 144)) n,m (s 146) (j6 (.mk (.builtin .len) #[.tmp 145] #[25])) n,m (s 147) (j4 .lss 3 (t 143) (t 146) 3) n]).seq (c (t 147) k (VCode.exit 4))).seq ((b 5 ((o [m (s 150) (j2 29 (t 2) 2) n,m (s 151) (j1 25 (t 150)) n,m
 (s 152) (j0 (t 7)) n,m (s 153) (j3 25 (t 151) (t 152)) n,m (s 154) (j2 154 (t 153) 0) n,m (s 155) (j1 9 (t 154)) n,m (s 156) (j2 29 (t 3) 2) n,m (s 157) (j1 25 (t 156)) n,m (s 158) (j0 (t 7)) n,m (s 159) (j3 25 (t 157) (t 158)) n,m (s 160) (j2 154 (t
 159) 0) n,m (s 161) (j1 9 (t 160)) n,m (s 162) (j4 .neq 9 (t 155) (t 161) 9) n,m (s 163) (j0 (t 162)) n,m (s 164) (j2 29 (t 2) 2) (some (some 163, false)),m (s 165) (j1 25 (t 164)) (some (some 163, false)),m (s 166) (j0 (t 7)) (some (some 163,
 false)),m (s 167) (j3 25 (t 165) (t 166)) (some (some 163, false)),m (s 168) (j2 154 (t 167) 1) (some (some 163, false)),m (s 169) (j1 29 (t 168)) (some (some 163, false)),m (s 170) (j2 29 (t 3) 2) (some (some 163, false)),m (s 171) (j1 25 (t 170))
 (some (some 163, false)),m (s 172) (j0 (t 7)) (some (some 163, false)),m (s 173) (j3 25 (t 171) (t 172)) (some (some 163, false)),m (s 174) (j2 154 (t 173) 1) (some (some 163, false)),m (s 175) (j1 29 (t 174)) (some (some 163, false)),m (s 176) (j6
 (.mk (.value (.func 28)) #[.tmp 169, .tmp 175] #[29, 29])) (some (some 163, false)),m (s 177) (.unOp .not 4 (t 176)) (some (some 163, false)),m (s 178) (jc (t 163) (.const (.bool true)) (t 177)) n]).seq (c (t 178) ((o [m (s 4) (j5 (.const (.bool
 false))) n]).seq r) k))).seq (o [m (s 148) (j0 (t 7)) n,m (s 149) (j4 .add 3 (t 148) (.const (.int .i64 1)) 3) n,m (s 7) (j5 (t 149)) n]))).loop)).seq (((o [m (s 8) (j5 (.const (.int .i64 0))) n]).seq (b 6 (((o [m (s 179) (j0 (t 8)) n,m (s 180) (j2
 29 (t 2) 3) n,m (s 181) (j1 26 (t 180)) n,m (s 182) (j6 (.mk (.builtin .len) #[.tmp 181] #[26])) n,m (s 183) (j4 .lss 3 (t 179) (t 182) 3) n]).seq (c (t 183) k (VCode.exit 6))).seq ((b 7 ((o [m (s 186) (j2 29 (t 2) 3) n,m (s 187) (j1 26 (t 186)) n,m
 (s 188) (j0 (t 8)) n,m (s 189) (j3 26 (t 187) (t 188)) n,m (s 190) (j2 138 (t 189) 1) n,m (s 191) (j1 136 (t 190)) n,m (s 9) (j8 136) n,m n (j7 136 (t 9) (t 191)) n]).seq ((o [m (s 192) (j2 29 (t 3) 3) n,m (s 193) (j1 26 (t 192)) n,m (s 194) (j0 (t
 8)) n,m (s 195) (j3 26 (t 193) (t 194)) n,m (s 196) (j2 138 (t 195) 1) n,m (s 197) (j1 136 (t 196)) n,m (s 10) (j8 136) n,m n (j7 136 (t 10) (t 197)) n]).seq ((o [m (s 198) (j2 29 (t 2) 3) n,m (s 199) (j1 26 (t 198)) n,m (s 200) (j0 (t 8)) n,m (s
 201) (j3 26 (t 199) (t 200)) n,m (s 202) (j2 138 (t 201) 0) n,m (s 203) (j1 9 (t 202)) n,m (s 204) (j2 29 (t 3) 3) n,m (s 205) (j1 26 (t 204)) n,m (s 206) (j0 (t 8)) n,m (s 207) (j3 26 (t 205) (t 206)) n,m (s 208) (j2 138 (t 207) 0) n,m (s 209) (j1 9
 (t 208)) n,m (s 210) (j4 .neq 9 (t 203) (t 209) 9) n,m (s 211) (j0 (t 210)) n,m (s 212) (j2 136 (t 9) 0) (some (some 211, false)),m (s 213) (j1 22 (t 212)) (some (some 211, false)),m (s 214) (j2 136 (t 10) 0) (some (some 211, false)),m (s 215) (j1 22
 (t 214)) (some (some 211, false)),m (s 216) (j6 (.mk (.value (.func 27)) #[.tmp 213, .tmp 215] #[22, 22])) (some (some 211, false)),m (s 217) (.unOp .not 4 (t 216)) (some (some 211, false)),m (s 218) (jc (t 211) (.const (.bool true)) (t 217)) n,m (s
 219) (j0 (t 218)) n,m (s 220) (j2 136 (t 9) 1) (some (some 219, false)),m (s 221) (j1 29 (t 220)) (some (some 219, false)),m (s 222) (j2 136 (t 10) 1) (some (some 219, false)),m (s 223) (j1 29 (t 222)) (some (some 219, false)),m (s 224) (j6 (.mk
 (.value (.func 28)) #[.tmp 221, .tmp 223] #[29, 29])) (some (some 219, false)),m (s 225) (.unOp .not 4 (t 224)) (some (some 219, false)),m (s 226) (jc (t 219) (.const (.bool true)) (t 225)) n,m (s 227) (j0 (t 226)) n,m (s 228) (j2 136 (t 9) 2) (some
 (some 227, false)),m (s 229) (j1 31 (t 228)) (some (some 227, false)),m (s 230) (j2 136 (t 10) 2) (some (some 227, false)),m (s 231) (j1 31 (t 230)) (some (some 227, false)),m (s 232) (j6 (.mk (.value (.func 13)) #[.tmp 229, .tmp 231] #[31, 31]))
 (some (some 227, false)),m (s 233) (.unOp .not 4 (t 232)) (some (some 227, false)),m (s 234) (jc (t 227) (.const (.bool true)) (t 233)) n]).seq (c (t 234) ((o [m (s 4) (j5 (.const (.bool false))) n]).seq r) k))))).seq (o [m (s 184) (j0 (t 8)) n,m (s
 185) (j4 .add 3 (t 184) (.const (.int .i64 1)) 3) n,m (s 8) (j5 (t 185)) n]))).loop)).seq (((o [m (s 11) (j5 (.const (.int .i64 0))) n]).seq (b 8 (((o [m (s 235) (j0 (t 11)) n,m (s 236) (j2 29 (t 2) 4) n,m (s 237) (j1 27 (t 236)) n,m (s 238) (j6 (.mk
 (.builtin .len) #[.tmp 237] #[27])) n,m (s 239) (j4 .lss 3 (t 235) (t 238) 3) n]).seq (c (t 239) k (VCode.exit 8))).seq ((b 9 ((o [m (s 242) (j2 29 (t 2) 4) n,m (s 243) (j1 27 (t 242)) n,m (s 244) (j0 (t 11)) n,m (s 245) (j3 27 (t 243) (t 244)) n,m
 (s 246) (j2 139 (t 245) 0) n,m (s 247) (j1 9 (t 246)) n,m (s 248) (j2 29 (t 3) 4) n,m (s 249) (j1 27 (t 248)) n,m (s 250) (j0 (t 11)) n,m (s 251) (j3 27 (t 249) (t 250)) n,m (s 252) (j2 139 (t 251) 0) n,m (s 253) (j1 9 (t 252)) n,m (s 254) (j4 .neq 9
 (t 247) (t 253) 9) n,m (s 255) (j0 (t 254)) n,m (s 256) (j2 29 (t 2) 4) (some (some 255, false)),m (s 257) (j1 27 (t 256)) (some (some 255, false)),m (s 258) (j0 (t 11)) (some (some 255, false)),m (s 259) (j3 27 (t 257) (t 258)) (some (some 255,
 false)),m (s 260) (j2 139 (t 259) 1) (some (some 255, false)),m (s 261) (j1 31 (t 260)) (some (some 255, false)),m (s 262) (j2 29 (t 3) 4) (some (some 255, false)),m (s 263) (j1 27 (t 262)) (some (some 255, false)),m (s 264) (j0 (t 11)) (some (some
 255, false)),m (s 265) (j3 27 (t 263) (t 264)) (some (some 255, false)),m (s 266) (j2 139 (t 265) 1) (some (some 255, false)),m (s 267) (j1 31 (t 266)) (some (some 255, false)),m (s 268) (j6 (.mk (.value (.func 13)) #[.tmp 261, .tmp 267] #[31, 31]))
 (some (some 255, false)),m (s 269) (.unOp .not 4 (t 268)) (some (some 255, false)),m (s 270) (jc (t 255) (.const (.bool true)) (t 269)) n]).seq (c (t 270) ((o [m (s 4) (j5 (.const (.bool false))) n]).seq r) k))).seq (o [m (s 240) (j0 (t 11)) n,m (s
 241) (j4 .add 3 (t 240) (.const (.int .i64 1)) 3) n,m (s 11) (j5 (t 241)) n]))).loop)).seq ((o [m (s 4) (j5 (.const (.bool true))) n]).seq r)))))))
theorem fn28 : FnOk Tryz.prog 28 271 vc28 [ResultVar.tmp 4] := ⟨Tryz.f28, _, [], Tryz.func28, rfl, rfl, rfl, by kernel_rfl, by kernel_rfl, by kernel_rfl⟩
def vc29 : VCode := (o [m (s 1) (jd 29 (t 0)) n,m (s 2) (j8 29) n]).seq ((o [m (s 3) (j8 29) n]).seq (((o [m (s 4) (j5 (.const (.int .i64 0))) n]).seq (b 0 (((o [m (s 13) (j0 (t 4)) n,m (s 14) (j2 29 (t 1) 0) n,m (s 15) (j1 23 (t 14)) n,m (s 16) (j6
 (.mk (.builtin .len) #[.tmp 15] #[23])) n,m (s 17) (j4 .lss 3 (t 13) (t 16) 3) n]).seq (c (t 17) k (VCode.exit 0))).seq ((b 1 ((o [m (s 20) (j2 29 (t 3) 0) n,m (s 21) (j1 23 (t 20)) n,m (s 22) (j6 (.mk (.builtin .len) #[.tmp 21] #[23])) n,m (s 5) (j5
 (t 22)) n]).seq ((w [(0,m (s 23) (j2 29 (t 3) 0) n), (1,m (s 24) (j1 23 (t 23)) n), (2,m (s 25) (j2 29 (t 1) 0) n), (3,m (s 26) (j1 23 (t 25)) n), (4,m (s 27) (j0 (t 4)) n), (5,m (s 28) (j3 23 (t 26) (t 27)) n), (6,m (s 29) (j1 122 (t 28)) n), (7,m
 (s 30) (ja 23 1 #[(0, .tmp 29)]) n), (8,m (s 31) (j6 (.mk (.builtin .append) #[.tmp 24, .tmp 30] #[23, 23])) n), (9,m (s 32) (j2 29 (t 3) 0) n), (10,m n (j7 23 (t 32) (t 31)) n)] [(7, [0, 1])]).seq (b 2 (((o [m (s 33) (j0 (t 5)) n,m (s 34) (j4 .gtr 3
 (t 33) (.const (.int .i64 0)) 3) n,m (s 35) (j0 (t 34)) n,m (s 36) (j2 29 (t 3) 0) (some (some 35, true)),m (s 37) (j1 23 (t 36)) (some (some 35, true)),m (s 38) (j0 (t 5)) (some (some 35, true)),m (s 39) (j3 23 (t 37) (t 38)) (some (some 35,
 true)),m (s 40) (j2 122 (t 39) 0) (some (some 35, true)),m (s 41) (j1 9 (t 40)) (some (some 35, true)),m (s 42) (j2 29 (t 3) 0) (some (some 35, true)),m (s 43) (j1 23 (t 42)) (some (some 35, true)),m (s 44) (j0 (t 5)) (some (some 35, true)),m (s 45)
 (j4 .sub 3 (t 44) (.const (.int .i64 1)) 3) (some (some 35, true)),m (s 46) (j3 23 (t 43) (t 45)) (some (some 35, true)),m (s 47) (j2 122 (t 46) 0) (some (some 35, true)),m (s 48) (j1 9 (t 47)) (some (some 35, true)),m (s 49) (j6 (.mk (.value (.func
 60)) #[.tmp 41, .tmp 48] #[9, 9])) (some (some 35, true)),m (s 50) (j4 .lss 3 (t 49) (.const (.int .i64 0)) 3) (some (some 35, true)),m (s 51) (jc (t 35) (t 50) (.const (.bool false))) n]).seq (c (t 51) k (VCode.exit 2))).seq ((b 3 ((o [m (s 54) (j2
 29 (t 3) 0) n,m (s 55) (j1 23 (t 54)) n,m (s 56) (j0 (t 5)) n,m (s 57) (j3 23 (t 55) (t 56)) n,m (s 58) (j1 122 (t 57)) n,m (s 6) (j8 122) n,m n (j7 122 (t 6) (t 58)) n]).seq ((o [m (s 59) (j2 29 (t 3) 0) n,m (s 60) (j1 23 (t 59)) n,m (s 61) (j0 (t
 5)) n,m (s 62) (j2 29 (t 3) 0) n,m (s 63) (j1 23 (t 62)) n,m (s 64) (j0 (t 5)) n,m (s 65) (j4 .sub 3 (t 64) (.const (.int .i64 1)) 3) n,m (s 66) (j3 23 (t 63) (t 65)) n,m (s 67) (j1 122 (t 66)) n,m (s 68) (j3 23 (t 60) (t 61)) n,m n (j7 122 (t 68) (t
 67)) n]).seq (o [m (s 69) (j2 29 (t 3) 0) n,m (s 70) (j1 23 (t 69)) n,m (s 71) (j0 (t 5)) n,m (s 72) (j4 .sub 3 (t 71) (.const (.int .i64 1)) 3) n,m (s 73) (j1 122 (t 6)) n,m (s 74) (j3 23 (t 70) (t 72)) n,m n (j7 122 (t 74) (t 73)) n])))).seq (o [m
 (s 52) (j0 (t 5)) n,m (s 53) (j4 .sub 3 (t 52) (.const (.int .i64 1)) 3) n,m (s 5) (j5 (t 53)) n]))).loop)))).seq (o [m (s 18) (j0 (t 4)) n,m (s 19) (j4 .add 3 (t 18) (.const (.int .i64 1)) 3) n,m (s 4) (j5 (t 19)) n]))).loop)).seq (((o [m (s 7) (j5
 (.const (.int .i64 0))) n]).seq (b 4 (((o [m (s 75) (j0 (t 7)) n,m (s 76) (j2 29 (t 1) 1) n,m (s 77) (j1 24 (t 76)) n,m (s 78) (j6 (.mk (.builtin .len) #[.tmp 77] #[24])) n,m (s 79) (j4 .lss 3 (t 75) (t 78) 3) n]).seq (c (t 79) k (VCode.exit 4))).seq
 ((b 5 ((o [m (s 82) (j2 29 (t 3) 1) n,m (s 83) (j1 24 (t 82)) n,m (s 84) (j6 (.mk (.builtin .len) #[.tmp 83] #[24])) n,m (s 8) (j5 (t 84)) n]).seq ((w [(0,m (s 85) (j2 29 (t 3) 1) n), (1,m (s 86) (j1 24 (t 85)) n), (2,m (s 87) (j2 29 (t 1) 1) n),
 (3,m (s 88) (j1 24 (t 87)) n), (4,m (s 89) (j0 (t 7)) n), (5,m (s 90) (j3 24 (t 88) (t 89)) n), (6,m (s 91) (j1 131 (t 90)) n), (7,m (s 92) (ja 24 1 #[(0, .tmp 91)]) n), (8,m (s 93) (j6 (.mk (.builtin .append) #[.tmp 86, .tmp 92] #[24, 24])) n), (9,m
 (s 94) (j2 29 (t 3) 1) n), (10,m n (j7 24 (t 94) (t 93)) n)] [(7, [0, 1])]).seq (b 6 (((o [m (s 95) (j0 (t 8)) n,m (s 96) (j4 .gtr 3 (t 95) (.const (.int .i64 0)) 3) n,m (s 97) (j0 (t 96)) n,m (s 98) (j2 29 (t 3) 1) (some (some 97, true)),m (s 99)
 (j1 24 (t 98)) (some (some 97, true)),m (s 100) (j0 (t 8)) (some (some 97, true)),m (s 101) (j3 24 (t 99) (t 100)) (some (some 97, true)),m (s 102) (j2 131 (t 101) 0) (some (some 97, true)),m (s 103) (j1 9 (t 102)) (some (some 97, true)),m (s 104)
 (j2 29 (t 3) 1) (some (some 97, true)),m (s 105) (j1 24 (t 104)) (some (some 97, true)),m (s 106) (j0 (t 8)) (some (some 97, true)),m (s 107) (j4 .sub 3 (t 106) (.const (.int .i64 1)) 3) (some (some 97, true)),m (s 108) (j3 24 (t 105) (t 107)) (some
 (some 97, true)),m (s 109) (j2 131 (t 108) 0) (some (some 97, true)),m (s 110) (j1 9 (t 109)) (some (some 97, true)),m (s 111) (j6 (.mk (.value (.func 60)) #[.tmp 103, .tmp 110] #[9, 9])) (some (some 97, true)),m (s 112) (j4 .lss 3 (t 111) (.const
 (.int .i64 0)) 3) (some (some 97, true)),m (s 113) (jc (t 97) (t 112) (.const (.bool false))) n]).seq (c (t 113) k (VCode.exit 6))).seq ((b 7 ((o [m (s 116) (j2 29 (t 3) 1) n,m (s 117) (j1 24 (t 116)) n,m (s 118) (j0 (t 8)) n,m (s 119) (j3 24 (t 117)
 (t 118)) n,m (s 120) (j1 131 (t 119)) n,m (s 9) (j8 131) n,m n (j7 131 (t 9) (t 120)) n]).seq ((o [m (s 121) (j2 29 (t 3) 1) n,m (s 122) (j1 24 (t 121)) n,m (s 123) (j0 (t 8)) n,m (s 124) (j2 29 (t 3) 1) n,m (s 125) (j1 24 (t 124)) n,m (s 126) (j0 (t
 8)) n,m (s 127) (j4 .sub 3 (t 126) (.const (.int .i64 1)) 3) n,m (s 128) (j3 24 (t 125) (t 127)) n,m (s 129) (j1 131 (t 128)) n,m (s 130) (j3 24 (t 122) (t 123)) n,m n (j7 131 (t 130) (t 129)) n]).seq (o [m (s 131) (j2 29 (t 3) 1) n,m (s 132) (j1 24
 (t 131)) n,m (s 133) (j0 (t 8)) n,m (s 134) (j4 .sub 3 (t 133) (.const (.int .i64 1)) 3) n,m (s 135) (j1 131 (t 9)) n,m (s 136) (j3 24 (t 132) (t 134)) n,m n (j7 131 (t 136) (t 135)) n])))).seq (o [m (s 114) (j0 (t 8)) n,m (s 115) (j4 .sub 3 (t 114)
 (.const (.int .i64 1)) 3) n,m (s 8) (j5 (t 115)) n]))).loop)))).seq (o [m (s 80) (j0 (t 7)) n,m (s 81) (j4 .add 3 (t 80) (.const (.int .i64 1)) 3) n,m (s 7) (j5 (t 81)) n]))).loop)).seq (((o [m (s 10) (j5 (.const (.int .i64 0))) n]).seq (b 8 (((o [m
 (s 137) (j0 (t 10)) n,m (s 138) (j2 29 (t 1) 2) n,m (s 139) (j1 25 (t 138)) n,m (s 140) (j6 (.mk (.builtin .len) #[.tmp 139] #[25])) n,m (s 141) (j4 .lss 3 (t 137) (t 140) 3) n]).seq (c (t 141) k (VCode.exit 8))).seq ((b 9 ((o [m (s 144) (j2 29 (t 3)
 2) n,m (s 145) (j1 25 (t 144)) n,m (s 146) (j6 (.mk (.builtin .len) #[.tmp 145] #[25])) n,m (s 11) (j5 (t 146)) n]).seq ((w [(0,m (s 147) (j2 29 (t 3) 2) n), (1,m (s 148) (j1 25 (t 147)) n), (2,m (s 149) (j2 29 (t 1) 2) n), (3,m (s 150) (j1 25 (t
 149)) n), (4,m (s 151) (j0 (t 10)) n), (5,m (s 152) (j3 25 (t 150) (t 151)) n), (6,m (s 153) (j2 154 (t 152) 0) n), (7,m (s 154) (j1 9 (t 153)) n), (8,m (s 155) (j2 29 (t 1) 2) n), (9,m (s 156) (j1 25 (t 155)) n), (10,m (s 157) (j0 (t 10)) n), (11,m
 (s 158) (j3 25 (t 156) (t 157)) n), (12,m (s 159) (j2 154 (t 158) 1) n), (13,m (s 160) (j1 29 (t 159)) n), (14,m (s 161) (j6 (.mk (.value (.func 29)) #[.tmp 160] #[29])) n), (15,m (s 162) (j9 154 #[(0, .tmp 154), (1, .tmp 161)]) n), (16,m (s 163) (ja
 25 1 #[(0, .tmp 162)]) n), (17,m (s 164) (j6 (.mk (.builtin .append) #[.tmp 148, .tmp 163] #[25, 25])) n), (18,m (s 165) (j2 29 (t 3) 2) n), (19,m n (j7 25 (t 165) (t 164)) n)] [(14, [0, 1, 2, 3, 5, 6, 7]), (16, [0, 1])]).seq (b 10 (((o [m (s 166)
 (j0 (t 11)) n,m (s 167) (j4 .gtr 3 (t 166) (.const (.int .i64 0)) 3) n,m (s 168) (j0 (t 167)) n,m (s 169) (j2 29 (t 3) 2) (some (some 168, true)),m (s 170) (j1 25 (t 169)) (some (some 168, true)),m (s 171) (j0 (t 11)) (some (some 168, true)),m (s
 172) (j3 25 (t 170) (t 171)) (some (some 168, true)),m (s 173) (j2 154 (t 172) 0) (some (some 168, true)),m (s 174) (j1 9 (t 173)) (some (some 168, true)),m (s 175) (j2 29 (t 3) 2) (some (some 168, true)),m (s 176) (j1 25 (t 175)) (some (some 168,
 true)),m (s 177) (j0 (t 11)) (some (some 168, true)),m (s 178) (j4 .sub 3 (t 177) (.const (.int .i64 1)) 3) (some (some 168, true)),m (s 179) (j3 25 (t 176) (t 178)) (some (some 168, true)),m (s 180) (j2 154 (t 179) 0) (some (some 168, true)),m (s
 181) (j1 9 (t 180)) (some (some 168, true)),m (s 182) (j6 (.mk (.value (.func 60)) #[.tmp 174, .tmp 181] #[9, 9])) (some (some 168, true)),m (s 183) (j4 .lss 3 (t 182) (.const (.int .i64 0)) 3) (some (some 168, true)),m (s 184) (jc (t 168) (t 183)
 (.const (.bool false))) n]).seq (c (t 184) k (VCode.exit 10))).seq ((b 11 ((o [m (s 187) (j2 29 (t 3) 2) n,m (s 188) (j1 25 (t 187)) n,m (s 189) (j0 (t 11)) n,m (s 190) (j3 25 (t 188) (t 189)) n,m (s 191) (j1 154 (t 190)) n,m (s 12) (j8 154) n,m n
 (j7 154 (t 12) (t 191)) n]).seq ((o [m (s 192) (j2 29 (t 3) 2) n,m (s 193) (j1 25 (t 192)) n,m (s 194) (j0 (t 11)) n,m (s 195) (j2 29 (t 3) 2) n,m (s 196) (j1 25 (t 195)) n,m (s 197) (j0 (t 11)) n,m (s 198) (j4 .sub 3 (t 197) (.const (.int .i64 1))
 3) n,m (s 199) (j3 25 (t 196) (t 198)) n,m (s 200) (j1 154 (t 199)) n,m (s 201) (j3 25 (t 193) (t 194)) n,m n (j7 154 (t 201) (t 200)) n]).seq (o [m (s 202) (j2 29 (t 3) 2) n,m (s 203) (j1 25 (t 202)) n,m (s 204) (j0 (t 11)) n,m (s 205) (j4 .sub 3 (t
 204) (.const (.int .i64 1)) 3) n,m (s 206) (j1 154 (t 12)) n,m (s 207) (j3 25 (t 203) (t 205)) n,m n (j7 154 (t 207) (t 206)) n])))).seq (o [m (s 185) (j0 (t 11)) n,m (s 186) (j4 .sub 3 (t 185) (.const (.int .i64 1)) 3) n,m (s 11) (j5 (t 186))
 n]))).loop)))).seq (o [m (s 142) (j0 (t 10)) n,m (s 143) (j4 .add 3 (t 142) (.const (.int .i64 1)) 3) n,m (s 10) (j5 (t 143)) n]))).loop)).seq ((o [m (s 208) (j2 29 (t 1) 3) n,m (s 209) (j1 26 (t 208)) n,m (s 210) (j6 (.mk (.value (.func 61)) #[.tmp
 209] #[26])) n,m (s 211) (j2 29 (t 3) 3) n,m n (j7 26 (t 211) (t 210)) n]).seq ((o [m (s 212) (j2 29 (t 1) 4) n,m (s 213) (j1 27 (t 212)) n,m (s 214) (j6 (.mk (.value (.func 62)) #[.tmp 213] #[27])) n,m (s 215) (j2 29 (t 3) 4) n,m n (j7 27 (t 215) (t
 214)) n]).seq ((o [m (s 216) (j1 29 (t 3)) n,m n (j7 29 (t 2) (t 216)) n]).seq r)))))))
theorem fn29 : FnOk Tryz.prog 29 217 vc29 [ResultVar.cell 2 29] := ⟨Tryz.f29, _, [(6, [([0, 1, 2, 3, 4, 5, 6, 7, 8, 9, 10], [(7, [0, 1])])]), (16, [([0, 1, 2, 3, 4, 5, 6, 7, 8, 9,
  10], [(7, [0, 1])])]), (26, [([0, 1, 2, 3, 4, 5, 6, 7, 8, 9, 10, 11, 12, 13, 14, 15, 16, 17, 18, 19], [(14, [0, 1, 2, 3, 5, 6, 7]), (16, [0, 1])])])], Tryz.func29, rfl, rfl, rfl,
  by kernel_rfl, by kernel_rfl, by kernel_rfl⟩
def vc30 : VCode := (o [m (s 4) (j5 (.const (.int .i64 0))) n]).seq (b 0 (((o [m (s 5) (j0 (t 4)) n,m (s 6) (j0 (t 1)) n,m (s 7) (j6 (.mk (.builtin .len) #[.tmp 6] #[22])) n,m (s 8) (j4 .lss 3 (t 5) (t 7) 3) n]).seq (c (t 8) k (VCode.exit 0))).seq ((b
 1 (w [(0,m (s 11) (j0 (t 0)) n), (1,m (s 12) (j0 (t 0)) n), (2,m (s 13) (je (t 12)) n), (3,m (s 14) (j2 68 (t 13) 0) n), (4,m (s 15) (j1 66 (t 14)) n), (5,m (s 16) (j0 (t 1)) n), (6,m (s 17) (j0 (t 4)) n), (7,m (s 18) (j3 22 (t 16) (t 17)) n), (8,m
 (s 19) (j1 3 (t 18)) n), (9,m (s 20) (j9 159 #[(0, .tmp 19), (1, .const (.int .i64 (-1)))]) n), (10,m (s 21) (ja 66 1 #[(0, .tmp 20)]) n), (11,m (s 22) (j6 (.mk (.builtin .append) #[.tmp 15, .tmp 21] #[66, 66])) n), (12,m (s 23) (je (t 11)) n), (13,m
 (s 24) (j2 68 (t 23) 0) n), (14,m n (j7 66 (t 24) (t 22)) n)] [(10, [2, 3, 4])])).seq (o [m (s 9) (j0 (t 4)) n,m (s 10) (j4 .add 3 (t 9) (.const (.int .i64 1)) 3) n,m (s 4) (j5 (t 10)) n]))).loop)
theorem fn30 : FnOk Tryz.prog 30 25 vc30 [] := ⟨Tryz.f30, _, [(3, [([0, 1, 2, 3, 4, 5, 6, 7, 8, 9, 10, 11, 12, 13, 14], [(10, [2, 3, 4])])])], Tryz.func30, rfl, rfl, rfl, by
  kernel_rfl, by kernel_rfl, by kernel_rfl⟩
def vc31 : VCode := (o [m (s 3) (jd 29 (t 1)) n,m (s 4) (j8 29) n]).seq ((o [m (s 5) (j8 29) n]).seq (((o [m (s 6) (j5 (.const (.int .i64 0))) n]).seq (b 0 (((o [m (s 13) (j0 (t 6)) n,m (s 14) (j2 29 (t 3) 0) n,m (s 15) (j1 23 (t 14)) n,m (s 16) (j6
 (.mk (.builtin .len) #[.tmp 15] #[23])) n,m (s 17) (j4 .lss 3 (t 13) (t 16) 3) n]).seq (c (t 17) k (VCode.exit 0))).seq ((b 1 ((VCode.opsB (VBT.ro 0 (m (s 20) (j2 29 (t 3) 0) n) (VBT.ro 1 (m (s 21) (j1 23 (t 20)) n) (VBT.ro 2 (m (s 22) (j0 (t 6)) n)
 (VBT.ro 3 (m (s 23) (j3 23 (t 21) (t 22)) n) (VBT.ro 4 (m (s 24) (j2 122 (t 23) 0) n) (VBT.ro 5 (m (s 25) (j1 9 (t 24)) n) (VBT.ro 6 (m (s 26) (j0 (t 0)) n) (VBT.ro 7 (m (s 27) (j2 29 (t 3) 0) n) (VBT.ro 8 (m (s 28) (j1 23 (t 27)) n) (VBT.ro 9 (m (s
 29) (j0 (t 6)) n) (VBT.ro 10 (m (s 30) (j3 23 (t 28) (t 29)) n) (VBT.ro 11 (m (s 31) (j2 122 (t 30) 1) n) (VBT.ro 12 (m (s 32) (j1 102 (t 31)) n) (VBT.alt 13 (m (s 33) (j6 (.mk (.value (.func 63)) #[.tmp 26, .tmp 32] #[65, 102])) n) (VBT.ro 14 (m (s
 34) (j9 122 #[(0, .tmp 25), (1, .tmp 33)]) n) (VBT.alt 15 (m (s 7) (j8 122) n) (VBT.alt 16 (m n (j7 122 (t 7) (t 34)) n) VBT.leaf VBT.no) VBT.no)) (VBT.alt 15 (m (s 7) (j8 122) n) (VBT.alt 13 (m (s 33) (j6 (.mk (.value (.func 63)) #[.tmp 26, .tmp 32]
 #[65, 102])) n) (VBT.ro 14 (m (s 34) (j9 122 #[(0, .tmp 25), (1, .tmp 33)]) n) (VBT.alt 16 (m n (j7 122 (t 7) (t 34)) n) VBT.leaf VBT.no)) VBT.no) VBT.no))))))))))))))) [(13, [0, 1, 3, 4, 5]), (15, [0, 1, 3, 4, 5, 7, 8, 10, 11, 12])]).seq ((o [m (s
 35) (j0 (t 0)) n,m (s 36) (j2 29 (t 3) 0) n,m (s 37) (j1 23 (t 36)) n,m (s 38) (j0 (t 6)) n,m (s 39) (j3 23 (t 37) (t 38)) n,m (s 40) (j2 122 (t 39) 2) n,m (s 41) (j1 120 (t 40)) n,m (s 42) (j6 (.mk (.value (.func 64)) #[.tmp 35, .tmp 41] #[65,
 120])) n,m (s 43) (j2 122 (t 7) 2) n,m n (j7 120 (t 43) (t 42)) n]).seq (o [m (s 44) (j2 29 (t 5) 0) n,m (s 45) (j1 23 (t 44)) n,m (s 46) (j1 122 (t 7)) n,m (s 47) (ja 23 1 #[(0, .tmp 46)]) n,m (s 48) (j6 (.mk (.builtin .append) #[.tmp 45, .tmp 47]
 #[23, 23])) n,m (s 49) (j2 29 (t 5) 0) n,m n (j7 23 (t 49) (t 48)) n])))).seq (o [m (s 18) (j0 (t 6)) n,m (s 19) (j4 .add 3 (t 18) (.const (.int .i64 1)) 3) n,m (s 6) (j5 (t 19)) n]))).loop)).seq (((o [m (s 8) (j5 (.const (.int .i64 0))) n]).seq (b 2
 (((o [m (s 50) (j0 (t 8)) n,m (s 51) (j2 29 (t 3) 1) n,m (s 52) (j1 24 (t 51)) n,m (s 53) (j6 (.mk (.builtin .len) #[.tmp 52] #[24])) n,m (s 54) (j4 .lss 3 (t 50) (t 53) 3) n]).seq (c (t 54) k (VCode.exit 2))).seq ((b 3 ((o [m (s 57) (j2 29 (t 3) 1)
 n,m (s 58) (j1 24 (t 57)) n,m (s 59) (j0 (t 8)) n,m (s 60) (j3 24 (t 58) (t 59)) n,m (s 61) (j1 131 (t 60)) n,m (s 9) (j8 131) n,m n (j7 131 (t 9) (t 61)) n]).seq (w [(0,m (s 62) (j2 29 (t 5) 1) n), (1,m (s 63) (j1 24 (t 62)) n), (2,m (s 64) (j2 131
 (t 9) 0) n), (3,m (s 65) (j1 9 (t 64)) n), (4,m (s 66) (j2 131 (t 9) 1) n), (5,m (s 67) (j2 129 (t 66) 0) n), (6,m (s 68) (j1 3 (t 67)) n), (7,m (s 69) (j0 (t 0)) n), (8,m (s 70) (j2 131 (t 9) 1) n), (9,m (s 71) (j2 129 (t 70) 1) n), (10,m (s 72) (j1
 102 (t 71)) n), (11,m (s 73) (j6 (.mk (.value (.func 63)) #[.tmp 69, .tmp 72] #[65, 102])) n), (12,m (s 74) (j9 129 #[(0, .tmp 68), (1, .tmp 73)]) n), (13,m (s 75) (j9 131 #[(0, .tmp 65), (1, .tmp 74)]) n), (14,m (s 76) (ja 24 1 #[(0, .tmp 75)]) n),
 (15,m (s 77) (j6 (.mk (.builtin .append) #[.tmp 63, .tmp 76] #[24, 24])) n), (16,m (s 78) (j2 29 (t 5) 1) n), (17,m n (j7 24 (t 78) (t 77)) n)] [(11, [0, 1, 2, 3, 4, 5, 6]), (14, [0, 1])]))).seq (o [m (s 55) (j0 (t 8)) n,m (s 56) (j4 .add 3 (t 55)
 (.const (.int .i64 1)) 3) n,m (s 8) (j5 (t 56)) n]))).loop)).seq (((o [m (s 10) (j5 (.const (.int .i64 0))) n]).seq (b 4 (((o [m (s 79) (j0 (t 10)) n,m (s 80) (j2 29 (t 3) 2) n,m (s 81) (j1 25 (t 80)) n,m (s 82) (j6 (.mk (.builtin .len) #[.tmp 81]
 #[25])) n,m (s 83) (j4 .lss 3 (t 79) (t 82) 3) n]).seq (c (t 83) k (VCode.exit 4))).seq ((b 5 (w [(0,m (s 86) (j2 29 (t 5) 2) n), (1,m (s 87) (j1 25 (t 86)) n), (2,m (s 88) (j2 29 (t 3) 2) n), (3,m (s 89) (j1 25 (t 88)) n), (4,m (s 90) (j0 (t 10))
 n), (5,m (s 91) (j3 25 (t 89) (t 90)) n), (6,m (s 92) (j2 154 (t 91) 0) n), (7,m (s 93) (j1 9 (t 92)) n), (8,m (s 94) (j0 (t 0)) n), (9,m (s 95) (j2 29 (t 3) 2) n), (10,m (s 96) (j1 25 (t 95)) n), (11,m (s 97) (j0 (t 10)) n), (12,m (s 98) (j3 25 (t
 96) (t 97)) n), (13,m (s 99) (j2 154 (t 98) 1) n), (14,m (s 100) (j1 29 (t 99)) n), (15,m (s 101) (j6 (.mk (.value (.func 31)) #[.tmp 94, .tmp 100] #[65, 29])) n), (16,m (s 102) (j9 154 #[(0, .tmp 93), (1, .tmp 101)]) n), (17,m (s 103) (ja 25 1 #[(0,
 .tmp 102)]) n), (18,m (s 104) (j6 (.mk (.builtin .append) #[.tmp 87, .tmp 103] #[25, 25])) n), (19,m (s 105) (j2 29 (t 5) 2) n), (20,m n (j7 25 (t 105) (t 104)) n)] [(15, [0, 1, 2, 3, 5, 6, 7]), (17, [0, 1])])).seq (o [m (s 84) (j0 (t 10)) n,m (s 85)
 (j4 .add 3 (t 84) (.const (.int .i64 1)) 3) n,m (s 10) (j5 (t 85)) n]))).loop)).seq (((o [m (s 11) (j5 (.const (.int .i64 0))) n]).seq (b 6 (((o [m (s 106) (j0 (t 11)) n,m (s 107) (j2 29 (t 3) 3) n,m (s 108) (j1 26 (t 107)) n,m (s 109) (j6 (.mk
 (.builtin .len) #[.tmp 108] #[26])) n,m (s 110) (j4 .lss 3 (t 106) (t 109) 3) n]).seq (c (t 110) k (VCode.exit 6))).seq ((b 7 (w [(0,m (s 113) (j2 29 (t 5) 3) n), (1,m (s 114) (j1 26 (t 113)) n), (2,m (s 115) (j2 29 (t 3) 3) n), (3,m (s 116) (j1 26
 (t 115)) n), (4,m (s 117) (j0 (t 11)) n), (5,m (s 118) (j3 26 (t 116) (t 117)) n), (6,m (s 119) (j2 138 (t 118) 0) n), (7,m (s 120) (j1 9 (t 119)) n), (8,m (s 121) (j0 (t 0)) n), (9,m (s 122) (j2 29 (t 3) 3) n), (10,m (s 123) (j1 26 (t 122)) n),
 (11,m (s 124) (j0 (t 11)) n), (12,m (s 125) (j3 26 (t 123) (t 124)) n), (13,m (s 126) (j2 138 (t 125) 1) n), (14,m (s 127) (j1 136 (t 126)) n), (15,m (s 128) (j6 (.mk (.value (.func 65)) #[.tmp 121, .tmp 127] #[65, 136])) n), (16,m (s 129) (j9 138
 #[(0, .tmp 120), (1, .tmp 128)]) n), (17,m (s 130) (ja 26 1 #[(0, .tmp 129)]) n), (18,m (s 131) (j6 (.mk (.builtin .append) #[.tmp 114, .tmp 130] #[26, 26])) n), (19,m (s 132) (j2 29 (t 5) 3) n), (20,m n (j7 26 (t 132) (t 131)) n)] [(15, [0, 1, 2, 3,
 5, 6, 7]), (17, [0, 1])])).seq (o [m (s 111) (j0 (t 11)) n,m (s 112) (j4 .add 3 (t 111) (.const (.int .i64 1)) 3) n,m (s 11) (j5 (t 112)) n]))).loop)).seq (((o [m (s 12) (j5 (.const (.int .i64 0))) n]).seq (b 8 (((o [m (s 133) (j0 (t 12)) n,m (s 134)
 (j2 29 (t 3) 4) n,m (s 135) (j1 27 (t 134)) n,m (s 136) (j6 (.mk (.builtin .len) #[.tmp 135] #[27])) n,m (s 137) (j4 .lss 3 (t 133) (t 136) 3) n]).seq (c (t 137) k (VCode.exit 8))).seq ((b 9 (w [(0,m (s 140) (j2 29 (t 5) 4) n), (1,m (s 141) (j1 27 (t
 140)) n), (2,m (s 142) (j2 29 (t 3) 4) n), (3,m (s 143) (j1 27 (t 142)) n), (4,m (s 144) (j0 (t 12)) n), (5,m (s 145) (j3 27 (t 143) (t 144)) n), (6,m (s 146) (j2 139 (t 145) 0) n), (7,m (s 147) (j1 9 (t 146)) n), (8,m (s 148) (j0 (t 0)) n), (9,m (s
 149) (j2 29 (t 3) 4) n), (10,m (s 150) (j1 27 (t 149)) n), (11,m (s 151) (j0 (t 12)) n), (12,m (s 152) (j3 27 (t 150) (t 151)) n), (13,m (s 153) (j2 139 (t 152) 1) n), (14,m (s 154) (j1 31 (t 153)) n), (15,m (s 155) (j6 (.mk (.value (.func 15))
 #[.tmp 148, .tmp 154] #[65, 31])) n), (16,m (s 156) (j9 139 #[(0, .tmp 147), (1, .tmp 155)]) n), (17,m (s 157) (ja 27 1 #[(0, .tmp 156)]) n), (18,m (s 158) (j6 (.mk (.builtin .append) #[.tmp 141, .tmp 157] #[27, 27])) n), (19,m (s 159) (j2 29 (t 5)
 4) n), (20,m n (j7 27 (t 159) (t 158)) n)] [(15, [0, 1, 2, 3, 5, 6, 7]), (17, [0, 1])])).seq (o [m (s 138) (j0 (t 12)) n,m (s 139) (j4 .add 3 (t 138) (.const (.int .i64 1)) 3) n,m (s 12) (j5 (t 139)) n]))).loop)).seq ((o [m (s 160) (j1 29 (t 5)) n,m
 n (j7 29 (t 4) (t 160)) n]).seq r)))))))
theorem fn31 : FnOk Tryz.prog 31 161 vc31 [ResultVar.cell 4 29] := ⟨Tryz.f31, _, [(5, [([0, 1, 2, 3, 4, 5, 6, 7, 8, 9, 10, 11, 12, 13, 14, 15, 16], [(13, [0, 1, 3, 4, 5]), (15, [0,
  1, 3, 4, 5, 7, 8, 10, 11, 12])]), ([0, 1, 2, 3, 4, 5, 6, 7, 8, 9, 10, 11, 12, 15, 13, 14, 16], []), ([0, 1, 2, 3, 4, 5, 6, 7, 8, 9, 10, 11, 12, 15, 13, 14, 16], [])]), (12, [([0,
  1, 2, 3, 4, 5, 6, 7, 8, 9, 10, 11, 12, 13, 14, 15, 16, 17], [(11, [0, 1, 2, 3, 4, 5, 6]), (14, [0, 1])])]), (16, [([0, 1, 2, 3, 4, 5, 6, 7, 8, 9, 10, 11, 12, 13, 14, 15, 16, 17,
  18, 19, 20], [(15, [0, 1, 2, 3, 5, 6, 7]), (17, [0, 1])])]), (20, [([0, 1, 2, 3, 4, 5, 6, 7, 8, 9, 10, 11, 12, 13, 14, 15, 16, 17, 18, 19, 20], [(15, [0, 1, 2, 3, 5, 6, 7]), (17,
  [0, 1])])]), (24, [([0, 1, 2, 3, 4, 5, 6, 7, 8, 9, 10, 11, 12, 13, 14, 15, 16, 17, 18, 19, 20], [(15, [0, 1, 2, 3, 5, 6, 7]), (17, [0, 1])])])], Tryz.func31, rfl, rfl, rfl, by
  kernel_rfl, by kernel_rfl, by kernel_rfl⟩
def vc32 : VCode := (o [m (s 4) (j5 (.const (.slice n 0 0))) n]).seq ((o [m (s 5) (j5 (.const (.slice n 0 0))) n]).seq ((o [m (s 8) (j0 (t 0)) n,m (s 9) (je (t 8)) n,m (s 10) (j2 68 (t 9) 0) n,m (s 11) (j1 66 (t 10)) n,m (s 12) (j0 (t 0)) n,m (s 13)
 (je (t 12)) n,m (s 14) (j2 68 (t 13) 0) n,m (s 15) (j1 66 (t 14)) n,m (s 16) (j6 (.mk (.builtin .len) #[.tmp 15] #[66])) n,m (s 17) (j0 (t 1)) n,m (s 18) (j4 .sub 3 (t 16) (t 17) 3) n,m (s 19) (.slice 66 (t 11) (some (t 18)) n n) n,m (s 6) (j5 (t
 19)) n]).seq (((o [m (s 7) (j5 (.const (.int .i64 0))) n]).seq (b 0 (((o [m (s 20) (j0 (t 7)) n,m (s 21) (j0 (t 6)) n,m (s 22) (j6 (.mk (.builtin .len) #[.tmp 21] #[66])) n,m (s 23) (j4 .lss 3 (t 20) (t 22) 3) n]).seq (c (t 23) k (VCode.exit 0))).seq
 ((b 1 ((o [m (s 26) (j0 (t 6)) n,m (s 27) (j0 (t 7)) n,m (s 28) (j3 66 (t 26) (t 27)) n,m (s 29) (j2 159 (t 28) 1) n,m (s 30) (j1 3 (t 29)) n,m (s 31) (j4 .geq 3 (t 30) (.const (.int .i64 0)) 3) n]).seq (c (t 31) (o [m (s 32) (j0 (t 5)) n,m (s 33)
 (j0 (t 6)) n,m (s 34) (j0 (t 7)) n,m (s 35) (j3 66 (t 33) (t 34)) n,m (s 36) (j2 159 (t 35) 1) n,m (s 37) (j1 3 (t 36)) n,m (s 38) (j6 (.mk (.value (.func 66)) #[.tmp 32, .tmp 37] #[22, 3])) n,m (s 5) (j5 (t 38)) n]) k))).seq (o [m (s 24) (j0 (t 7))
 n,m (s 25) (j4 .add 3 (t 24) (.const (.int .i64 1)) 3) n,m (s 7) (j5 (t 25)) n]))).loop)).seq ((o [m (s 39) (j0 (t 0)) n,m (s 40) (j0 (t 0)) n,m (s 41) (je (t 40)) n,m (s 42) (j2 68 (t 41) 0) n,m (s 43) (j1 66 (t 42)) n,m (s 44) (j0 (t 0)) n,m (s 45)
 (je (t 44)) n,m (s 46) (j2 68 (t 45) 0) n,m (s 47) (j1 66 (t 46)) n,m (s 48) (j6 (.mk (.builtin .len) #[.tmp 47] #[66])) n,m (s 49) (j0 (t 1)) n,m (s 50) (j4 .sub 3 (t 48) (t 49) 3) n,m (s 51) (.slice 66 (t 43) n (some (t 50)) n) n,m (s 52) (je (t
 39)) n,m (s 53) (j2 68 (t 52) 0) n,m n (j7 66 (t 53) (t 51)) n]).seq ((o [m (s 54) (j0 (t 5)) n,m (s 4) (j5 (t 54)) n]).seq r)))))
theorem fn32 : FnOk Tryz.prog 32 55 vc32 [ResultVar.tmp 4] := ⟨Tryz.f32, _, [], Tryz.func32, rfl, rfl, rfl, by kernel_rfl, by kernel_rfl, by kernel_rfl⟩
def vc43 : VCode := (o [m (s 2) (jd 115 (t 0)) n,m (s 3) (jd 31 (t 1)) n]).seq (o [m (s 4) (j1 115 (t 2)) n,m (s 5) (j2 31 (t 3) 0) n,m (s 6) (j1 22 (t 5)) n,m (s 7) (.makeFunc (.func 117) #[] #[.tmp 2, .tmp 3]) n,m (s 8) (j6 (.mk (.value (.func 116))
 #[.tmp 4, .tmp 6, .tmp 7] #[115, 22, 1])) n])
theorem fn43 : FnOk Tryz.prog 43 9 vc43 [] := ⟨Tryz.f43, _, [], Tryz.func43, rfl, rfl, rfl, by kernel_rfl, by kernel_rfl, by kernel_rfl⟩
def vc48 : VCode := (o [m (s 1) (jd 29 (t 0)) n,m (s 2) (j5 (.const .nilFunc)) n]).seq ((o [m (s 3) (.makeFunc (.func 126) #[] #[.tmp 1]) n,m (s 2) (j5 (t 3)) n]).seq r)
theorem fn48 : FnOk Tryz.prog 48 4 vc48 [ResultVar.tmp 2] := ⟨Tryz.f48, _, [], Tryz.func48, rfl, rfl, rfl, by kernel_rfl, by kernel_rfl, by kernel_rfl⟩
def vc49 : VCode := (o [m (s 4) (j5 (.const (.int .i64 0))) n]).seq (((o [m (s 6) (j0 (t 0)) n,m (s 7) (j6 (.mk (.builtin .len) #[.tmp 6] #[22])) n,m (s 8) (j0 (.const (.int .i64 0))) n]).seq (b 0 ((o [m (s 9) (j4 .lss 3 (t 8) (t 7) 3) n]).seq ((c (t
 9) k (VCode.exit 0)).seq ((b 1 ((o [m (s 10) (j0 (t 8)) n,m (s 5) (j5 (t 10)) n]).seq ((o [m (s 11) (j0 (t 1)) n,m (s 12) (j0 (t 0)) n,m (s 13) (j0 (t 5)) n,m (s 14) (j3 22 (t 12) (t 13)) n,m (s 15) (j1 3 (t 14)) n,m (s 16) (j4 .eql 3 (t 11) (t 15)
 3) n]).seq (c (t 16) ((o [m (s 17) (j0 (t 5)) n,m (s 4) (j5 (t 17)) n]).seq r) k)))).seq (o [m (s 18) (j4 .add 3 (t 8) (.const (.int .i64 1)) 3) n,m (s 8) (j0 (t 18)) n])))).loop)).seq ((o [m (s 4) (j5 (.const (.int .i64 (-1)))) n]).seq r))
theorem fn49 : FnOk Tryz.prog 49 19 vc49 [ResultVar.tmp 4] := ⟨Tryz.f49, _, [], Tryz.func49, rfl, rfl, rfl, by kernel_rfl, by kernel_rfl, by kernel_rfl⟩
def vc50 : VCode := (o [m (s 1) (jd 22 (t 0)) n,m (s 2) (j5 (.const .nilFunc)) n]).seq ((o [m (s 3) (.makeFunc (.func 127) #[] #[.tmp 1]) n,m (s 2) (j5 (t 3)) n]).seq r)
theorem fn50 : FnOk Tryz.prog 50 4 vc50 [ResultVar.tmp 2] := ⟨Tryz.f50, _, [], Tryz.func50, rfl, rfl, rfl, by kernel_rfl, by kernel_rfl, by kernel_rfl⟩
def vc51 : VCode := (o [m (s 4) (j5 (.const (.bool false))) n]).seq ((o [m (s 5) (j0 (t 0)) n,m (s 6) (j0 (t 1)) n,m (s 7) (j6 (.mk (.value (.func 128)) #[.tmp 5, .tmp 6] #[145, 147])) n,m (s 8) (j4 .geq 3 (t 7) (.const (.int .i64 0)) 3) n,m (s 4) (j5
 (t 8)) n]).seq r)
theorem fn51 : FnOk Tryz.prog 51 9 vc51 [ResultVar.tmp 4] := ⟨Tryz.f51, _, [], Tryz.func51, rfl, rfl, rfl, by kernel_rfl, by kernel_rfl, by kernel_rfl⟩
def vc52 : VCode := (o [m (s 3) (j5 (.const (.bool false))) n]).seq ((o [m (s 4) (j0 (t 0)) n,m (s 5) (j1 3 (t 1)) n,m (s 6) (j6 (.mk (.value (.func 23)) #[.tmp 4, .tmp 5] #[22, 3])) n,m (s 3) (j5 (t 6)) n]).seq r)
theorem fn52 : FnOk Tryz.prog 52 7 vc52 [ResultVar.tmp 3] := ⟨Tryz.f52, _, [], Tryz.func52, rfl, rfl, rfl, by kernel_rfl, by kernel_rfl, by kernel_rfl⟩
def vc53 : VCode := (o [m (s 3) (jd 29 (t 1)) n]).seq (((o [m (s 14) (j2 29 (t 3) 0) n,m (s 15) (j1 23 (t 14)) n,m (s 16) (j6 (.mk (.builtin .len) #[.tmp 15] #[23])) n,m (s 17) (j0 (.const (.int .i64 0))) n]).seq (b 0 ((o [m (s 18) (j4 .lss 3 (t 17)
 (t 16) 3) n]).seq ((c (t 18) k (VCode.exit 0)).seq ((b 1 ((o [m (s 19) (j3 23 (t 15) (t 17)) n,m (s 20) (j1 122 (t 19)) n,m (s 5) (j8 122) n,m n (j7 122 (t 5) (t 20)) n]).seq ((o [m (s 21) (j0 (t 0)) n,m (s 22) (j2 122 (t 5) 1) n,m (s 23) (j1 102 (t
 22)) n,m (s 24) (j6 (.mk (.value (.func 129)) #[.tmp 21, .tmp 23] #[115, 102])) n]).seq (o [m (s 25) (j0 (t 0)) n,m (s 26) (j2 122 (t 5) 2) n,m (s 27) (j1 120 (t 26)) n,m (s 28) (j6 (.mk (.value (.func 130)) #[.tmp 25, .tmp 27] #[115, 120]))
 n])))).seq (o [m (s 29) (j4 .add 3 (t 17) (.const (.int .i64 1)) 3) n,m (s 17) (j0 (t 29)) n])))).loop)).seq (((o [m (s 30) (j2 29 (t 3) 1) n,m (s 31) (j1 24 (t 30)) n,m (s 32) (j6 (.mk (.builtin .len) #[.tmp 31] #[24])) n,m (s 33) (j0 (.const (.int
 .i64 0))) n]).seq (b 2 ((o [m (s 34) (j4 .lss 3 (t 33) (t 32) 3) n]).seq ((c (t 34) k (VCode.exit 2)).seq ((b 3 ((o [m (s 35) (j3 24 (t 31) (t 33)) n,m (s 36) (j1 131 (t 35)) n,m (s 7) (j8 131) n,m n (j7 131 (t 7) (t 36)) n]).seq (o [m (s 37) (j0 (t
 0)) n,m (s 38) (j2 131 (t 7) 1) n,m (s 39) (j2 129 (t 38) 1) n,m (s 40) (j1 102 (t 39)) n,m (s 41) (j6 (.mk (.value (.func 129)) #[.tmp 37, .tmp 40] #[115, 102])) n]))).seq (o [m (s 42) (j4 .add 3 (t 33) (.const (.int .i64 1)) 3) n,m (s 33) (j0 (t
 42)) n])))).loop)).seq (((o [m (s 43) (j2 29 (t 3) 2) n,m (s 44) (j1 25 (t 43)) n,m (s 45) (j6 (.mk (.builtin .len) #[.tmp 44] #[25])) n,m (s 46) (j0 (.const (.int .i64 0))) n]).seq (b 4 ((o [m (s 47) (j4 .lss 3 (t 46) (t 45) 3) n]).seq ((c (t 47) k
 (VCode.exit 4)).seq ((b 5 ((o [m (s 48) (j3 25 (t 44) (t 46)) n,m (s 49) (j1 154 (t 48)) n,m (s 9) (j8 154) n,m n (j7 154 (t 9) (t 49)) n]).seq (o [m (s 50) (j0 (t 0)) n,m (s 51) (j2 154 (t 9) 1) n,m (s 52) (j1 29 (t 51)) n,m (s 53) (j6 (.mk (.value
 (.func 53)) #[.tmp 50, .tmp 52] #[115, 29])) n]))).seq (o [m (s 54) (j4 .add 3 (t 46) (.const (.int .i64 1)) 3) n,m (s 46) (j0 (t 54)) n])))).loop)).seq (((o [m (s 55) (j2 29 (t 3) 3) n,m (s 56) (j1 26 (t 55)) n,m (s 57) (j6 (.mk (.builtin .len)
 #[.tmp 56] #[26])) n,m (s 58) (j0 (.const (.int .i64 0))) n]).seq (b 6 ((o [m (s 59) (j4 .lss 3 (t 58) (t 57) 3) n]).seq ((c (t 59) k (VCode.exit 6)).seq ((b 7 ((o [m (s 60) (j3 26 (t 56) (t 58)) n,m (s 61) (j1 138 (t 60)) n,m (s 11) (j8 138) n,m n
 (j7 138 (t 11) (t 61)) n]).seq (o [m (s 62) (j0 (t 0)) n,m (s 63) (j2 138 (t 11) 1) n,m (s 64) (j1 136 (t 63)) n,m (s 65) (j6 (.mk (.value (.func 131)) #[.tmp 62, .tmp 64] #[115, 136])) n]))).seq (o [m (s 66) (j4 .add 3 (t 58) (.const (.int .i64 1))
 3) n,m (s 58) (j0 (t 66)) n])))).loop)).seq ((o [m (s 67) (j2 29 (t 3) 4) n,m (s 68) (j1 27 (t 67)) n,m (s 69) (j6 (.mk (.builtin .len) #[.tmp 68] #[27])) n,m (s 70) (j0 (.const (.int .i64 0))) n]).seq (b 8 ((o [m (s 71) (j4 .lss 3 (t 70) (t 69) 3)
 n]).seq ((c (t 71) k (VCode.exit 8)).seq ((b 9 ((o [m (s 72) (j3 27 (t 68) (t 70)) n,m (s 73) (j1 139 (t 72)) n,m (s 13) (j8 139) n,m n (j7 139 (t 13) (t 73)) n]).seq (o [m (s 74) (j0 (t 0)) n,m (s 75) (j2 139 (t 13) 1) n,m (s 76) (j1 31 (t 75)) n,m
 (s 77) (j6 (.mk (.value (.func 43)) #[.tmp 74, .tmp 76] #[115, 31])) n]))).seq (o [m (s 78) (j4 .add 3 (t 70) (.const (.int .i64 1)) 3) n,m (s 70) (j0 (t 78)) n])))).loop))))))
theorem fn53 : FnOk Tryz.prog 53 79 vc53 [] := ⟨Tryz.f53, _, [], Tryz.func53, rfl, rfl, rfl, by kernel_rfl, by kernel_rfl, by kernel_rfl⟩
def vc55 : VCode := o [m (s 5) (j0 (t 0)) n,m (s 6) (j1 79 (t 1)) n,m (s 7) (j2 31 (t 2) 1) n,m (s 8) (j1 29 (t 7)) n,m (s 9) (j6 (.mk (.value (.func 56)) #[.tmp 6, .tmp 8] #[79, 29])) n,m (s 10) (j9 31 #[(0, .tmp 5), (1, .tmp 9)]) n,m n (j7 31 (t 3)
 (t 10)) n]
theorem fn55 : FnOk Tryz.prog 55 11 vc55 [] := ⟨Tryz.f55, _, [], Tryz.func55, rfl, rfl, rfl, by kernel_rfl, by kernel_rfl, by kernel_rfl⟩
def vc56 : VCode := (o [m (s 2) (jd 79 (t 0)) n,m (s 3) (jd 29 (t 1)) n,m (s 4) (j8 29) n]).seq ((o [m (s 5) (j8 29) n]).seq (((o [m (s 19) (j2 29 (t 3) 0) n,m (s 20) (j1 23 (t 19)) n,m (s 21) (j6 (.mk (.builtin .len) #[.tmp 20] #[23])) n,m (s 22) (j0
 (.const (.int .i64 0))) n]).seq (b 0 ((o [m (s 23) (j4 .lss 3 (t 22) (t 21) 3) n]).seq ((c (t 23) k (VCode.exit 0)).seq ((b 1 ((o [m (s 24) (j3 23 (t 20) (t 22)) n,m (s 25) (j1 122 (t 24)) n,m (s 7) (j8 122) n,m n (j7 122 (t 7) (t 25)) n]).seq
 ((VCode.opsB (VBT.ro 0 (m (s 26) (j2 122 (t 7) 0) n) (VBT.ro 1 (m (s 27) (j1 9 (t 26)) n) (VBT.ro 2 (m (s 28) (j1 79 (t 2)) n) (VBT.ro 3 (m (s 29) (j2 122 (t 7) 1) n) (VBT.ro 4 (m (s 30) (j1 102 (t 29)) n) (VBT.alt 5 (m (s 31) (j6 (.mk (.value (.func
 133)) #[.tmp 28, .tmp 30] #[79, 102])) n) (VBT.ro 6 (m (s 32) (j9 122 #[(0, .tmp 27), (1, .tmp 31)]) n) (VBT.alt 7 (m (s 8) (j8 122) n) (VBT.alt 8 (m n (j7 122 (t 8) (t 32)) n) VBT.leaf VBT.no) VBT.no)) (VBT.alt 7 (m (s 8) (j8 122) n) (VBT.alt 5 (m
 (s 31) (j6 (.mk (.value (.func 133)) #[.tmp 28, .tmp 30] #[79, 102])) n) (VBT.ro 6 (m (s 32) (j9 122 #[(0, .tmp 27), (1, .tmp 31)]) n) (VBT.alt 8 (m n (j7 122 (t 8) (t 32)) n) VBT.leaf VBT.no)) VBT.no) VBT.no))))))) [(5, [0, 1]), (7, [0, 1, 2, 3,
 4])]).seq (((o [m (s 33) (j2 122 (t 7) 2) n,m (s 34) (j1 120 (t 33)) n,m (s 35) (j6 (.mk (.builtin .len) #[.tmp 34] #[120])) n,m (s 36) (j0 (.const (.int .i64 0))) n]).seq (b 2 ((o [m (s 37) (j4 .lss 3 (t 36) (t 35) 3) n]).seq ((c (t 37) k
 (VCode.exit 2)).seq ((b 3 ((o [m (s 38) (j3 120 (t 34) (t 36)) n,m (s 39) (j1 126 (t 38)) n,m (s 10) (j8 126) n,m n (j7 126 (t 10) (t 39)) n]).seq (w [(0,m (s 40) (j2 122 (t 8) 2) n), (1,m (s 41) (j1 120 (t 40)) n), (2,m (s 42) (j2 126 (t 10) 0) n),
 (3,m (s 43) (j1 9 (t 42)) n), (4,m (s 44) (j1 79 (t 2)) n), (5,m (s 45) (j2 126 (t 10) 1) n), (6,m (s 46) (j1 100 (t 45)) n), (7,m (s 47) (j6 (.mk (.value (.func 134)) #[.tmp 44, .tmp 46] #[79, 100])) n), (8,m (s 48) (j9 126 #[(0, .tmp 43), (1, .tmp
 47)]) n), (9,m (s 49) (ja 120 1 #[(0, .tmp 48)]) n), (10,m (s 50) (j6 (.mk (.builtin .append) #[.tmp 41, .tmp 49] #[120, 120])) n), (11,m (s 51) (j2 122 (t 8) 2) n), (12,m n (j7 120 (t 51) (t 50)) n)] [(7, [0, 1, 2, 3]), (9, [0, 1])]))).seq (o [m (s
 52) (j4 .add 3 (t 36) (.const (.int .i64 1)) 3) n,m (s 36) (j0 (t 52)) n])))).loop)).seq (o [m (s 53) (j2 29 (t 5) 0) n,m (s 54) (j1 23 (t 53)) n,m (s 55) (j1 122 (t 8)) n,m (s 56) (ja 23 1 #[(0, .tmp 55)]) n,m (s 57) (j6 (.mk (.builtin .append)
 #[.tmp 54, .tmp 56] #[23, 23])) n,m (s 58) (j2 29 (t 5) 0) n,m n (j7 23 (t 58) (t 57)) n]))))).seq (o [m (s 59) (j4 .add 3 (t 22) (.const (.int .i64 1)) 3) n,m (s 22) (j0 (t 59)) n])))).loop)).seq (((o [m (s 60) (j2 29 (t 3) 1) n,m (s 61) (j1 24 (t
 60)) n,m (s 62) (j6 (.mk (.builtin .len) #[.tmp 61] #[24])) n,m (s 63) (j0 (.const (.int .i64 0))) n]).seq (b 4 ((o [m (s 64) (j4 .lss 3 (t 63) (t 62) 3) n]).seq ((c (t 64) k (VCode.exit 4)).seq ((b 5 ((o [m (s 65) (j3 24 (t 61) (t 63)) n,m (s 66)
 (j1 131 (t 65)) n,m (s 12) (j8 131) n,m n (j7 131 (t 12) (t 66)) n]).seq (w [(0,m (s 67) (j2 29 (t 5) 1) n), (1,m (s 68) (j1 24 (t 67)) n), (2,m (s 69) (j2 131 (t 12) 0) n), (3,m (s 70) (j1 9 (t 69)) n), (4,m (s 71) (j2 131 (t 12) 1) n), (5,m (s 72)
 (j2 129 (t 71) 0) n), (6,m (s 73) (j1 3 (t 72)) n), (7,m (s 74) (j1 79 (t 2)) n), (8,m (s 75) (j2 131 (t 12) 1) n), (9,m (s 76) (j2 129 (t 75) 1) n), (10,m (s 77) (j1 102 (t 76)) n), (11,m (s 78) (j6 (.mk (.value (.func 133)) #[.tmp 74, .tmp 77]
 #[79, 102])) n), (12,m (s 79) (j9 129 #[(0, .tmp 73), (1, .tmp 78)]) n), (13,m (s 80) (j9 131 #[(0, .tmp 70), (1, .tmp 79)]) n), (14,m (s 81) (ja 24 1 #[(0, .tmp 80)]) n), (15,m (s 82) (j6 (.mk (.builtin .append) #[.tmp 68, .tmp 81] #[24, 24])) n),
 (16,m (s 83) (j2 29 (t 5) 1) n), (17,m n (j7 24 (t 83) (t 82)) n)] [(11, [0, 1, 2, 3, 4, 5, 6]), (14, [0, 1])]))).seq (o [m (s 84) (j4 .add 3 (t 63) (.const (.int .i64 1)) 3) n,m (s 63) (j0 (t 84)) n])))).loop)).seq (((o [m (s 85) (j1 29 (t 3)) n,m
 (s 86) (j6 (.mk (.value (.func 48)) #[.tmp 85] #[29])) n]).seq (b 6 (VCode.rangeF (t 86) [87, 88] ((o [m (s 13) (j5 (t 87)) n]).seq (o [m (s 14) (j8 29) n,m n (j7 29 (t 14) (t 88)) n])) (b 7 (VCode.opsB (VBT.ro 0 (m (s 89) (j2 29 (t 5) 2) n) (VBT.ro
 1 (m (s 90) (j1 25 (t 89)) n) (VBT.ro 2 (m (s 91) (j0 (t 13)) n) (VBT.ro 3 (m (s 92) (j1 79 (t 2)) n) (VBT.ro 4 (m (s 93) (j1 29 (t 14)) n) (VBT.ro 7 (m (s 96) (j6 (.mk (.builtin .len) #[.tmp 90] #[25])) n) (VBT.alt 5 (m (s 94) (j6 (.mk (.value
 (.func 56)) #[.tmp 92, .tmp 93] #[79, 29])) n) (VBT.ro 6 (m (s 95) (j9 154 #[(0, .tmp 91), (1, .tmp 94)]) n) (VBT.alt 8 (m (s 97) (ja 25 1 #[(0, .const (.agg #[.string (ByteArray.mk #[]), .slice n 0 0, .slice n 0 0, .slice n 0 0, .slice n 0 0, .slice
 n 0 0]))]) n) (VBT.alt 9 (m (s 98) (j6 (.mk (.builtin .append) #[.tmp 90, .tmp 97] #[25, 25])) n) (VBT.ro 10 (m (s 99) (j3 25 (t 98) (t 96)) n) (VBT.ro 12 (m (s 100) (j2 29 (t 5) 2) n) (VBT.alt 11 (m n (j7 154 (t 99) (t 95)) n) (VBT.alt 13 (m n (j7
 25 (t 100) (t 98)) n) VBT.leaf VBT.no) (VBT.alt 13 (m n (j7 25 (t 100) (t 98)) n) (VBT.alt 11 (m n (j7 154 (t 99) (t 95)) n) VBT.leaf VBT.no) VBT.no)))) VBT.no) VBT.no)) (VBT.alt 8 (m (s 97) (ja 25 1 #[(0, .const (.agg #[.string (ByteArray.mk #[]),
 .slice n 0 0, .slice n 0 0, .slice n 0 0, .slice n 0 0, .slice n 0 0]))]) n) (VBT.alt 5 (m (s 94) (j6 (.mk (.value (.func 56)) #[.tmp 92, .tmp 93] #[79, 29])) n) (VBT.ro 6 (m (s 95) (j9 154 #[(0, .tmp 91), (1, .tmp 94)]) n) (VBT.alt 9 (m (s 98) (j6
 (.mk (.builtin .append) #[.tmp 90, .tmp 97] #[25, 25])) n) (VBT.ro 10 (m (s 99) (j3 25 (t 98) (t 96)) n) (VBT.ro 12 (m (s 100) (j2 29 (t 5) 2) n) (VBT.alt 11 (m n (j7 154 (t 99) (t 95)) n) (VBT.alt 13 (m n (j7 25 (t 100) (t 98)) n) VBT.leaf VBT.no)
 (VBT.alt 13 (m n (j7 25 (t 100) (t 98)) n) (VBT.alt 11 (m n (j7 154 (t 99) (t 95)) n) VBT.leaf VBT.no) VBT.no)))) VBT.no)) VBT.no) VBT.no)))))))) [(5, [0, 1, 7]), (8, [0, 1, 3, 4, 7]), (11, [12]), (13, [10])]))))).seq (((o [m (s 101) (j2 29 (t 3) 3)
 n,m (s 102) (j1 26 (t 101)) n,m (s 103) (j6 (.mk (.builtin .len) #[.tmp 102] #[26])) n,m (s 104) (j0 (.const (.int .i64 0))) n]).seq (b 8 ((o [m (s 105) (j4 .lss 3 (t 104) (t 103) 3) n]).seq ((c (t 105) k (VCode.exit 8)).seq ((b 9 ((o [m (s 106) (j3
 26 (t 102) (t 104)) n,m (s 107) (j1 138 (t 106)) n,m (s 16) (j8 138) n,m n (j7 138 (t 16) (t 107)) n]).seq (VCode.opsB (VBT.ro 0 (m (s 108) (j2 29 (t 5) 3) n) (VBT.ro 1 (m (s 109) (j1 26 (t 108)) n) (VBT.ro 2 (m (s 110) (j2 138 (t 16) 0) n) (VBT.ro 3
 (m (s 111) (j1 9 (t 110)) n) (VBT.ro 4 (m (s 112) (j1 79 (t 2)) n) (VBT.ro 5 (m (s 113) (j2 138 (t 16) 1) n) (VBT.ro 6 (m (s 114) (j1 136 (t 113)) n) (VBT.ro 9 (m (s 117) (j6 (.mk (.builtin .len) #[.tmp 109] #[26])) n) (VBT.alt 7 (m (s 115) (j6 (.mk
 (.value (.func 135)) #[.tmp 112, .tmp 114] #[79, 136])) n) (VBT.ro 8 (m (s 116) (j9 138 #[(0, .tmp 111), (1, .tmp 115)]) n) (VBT.alt 10 (m (s 118) (ja 26 1 #[(0, .const (.agg #[.string (ByteArray.mk #[]), .slice n 0 0, .slice n 0 0, .slice n 0 0,
 .slice n 0 0, .slice n 0 0, .slice n 0 0, .slice n 0 0, .slice n 0 0, .slice n 0 0, .slice n 0 0, .slice n 0 0, .slice n 0 0]))]) n) (VBT.alt 11 (m (s 119) (j6 (.mk (.builtin .append) #[.tmp 109, .tmp 118] #[26, 26])) n) (VBT.ro 12 (m (s 120) (j3 26
 (t 119) (t 117)) n) (VBT.ro 14 (m (s 121) (j2 29 (t 5) 3) n) (VBT.alt 13 (m n (j7 138 (t 120) (t 116)) n) (VBT.alt 15 (m n (j7 26 (t 121) (t 119)) n) VBT.leaf VBT.no) (VBT.alt 15 (m n (j7 26 (t 121) (t 119)) n) (VBT.alt 13 (m n (j7 138 (t 120) (t
 116)) n) VBT.leaf VBT.no) VBT.no)))) VBT.no) VBT.no)) (VBT.alt 10 (m (s 118) (ja 26 1 #[(0, .const (.agg #[.string (ByteArray.mk #[]), .slice n 0 0, .slice n 0 0, .slice n 0 0, .slice n 0 0, .slice n 0 0, .slice n 0 0, .slice n 0 0, .slice n 0 0,
 .slice n 0 0, .slice n 0 0, .slice n 0 0, .slice n 0 0]))]) n) (VBT.alt 7 (m (s 115) (j6 (.mk (.value (.func 135)) #[.tmp 112, .tmp 114] #[79, 136])) n) (VBT.ro 8 (m (s 116) (j9 138 #[(0, .tmp 111), (1, .tmp 115)]) n) (VBT.alt 11 (m (s 119) (j6 (.mk
 (.builtin .append) #[.tmp 109, .tmp 118] #[26, 26])) n) (VBT.ro 12 (m (s 120) (j3 26 (t 119) (t 117)) n) (VBT.ro 14 (m (s 121) (j2 29 (t 5) 3) n) (VBT.alt 13 (m n (j7 138 (t 120) (t 116)) n) (VBT.alt 15 (m n (j7 26 (t 121) (t 119)) n) VBT.leaf
 VBT.no) (VBT.alt 15 (m n (j7 26 (t 121) (t 119)) n) (VBT.alt 13 (m n (j7 138 (t 120) (t 116)) n) VBT.leaf VBT.no) VBT.no)))) VBT.no)) VBT.no) VBT.no)))))))))) [(7, [0, 1, 2, 3, 9]), (10, [0, 1, 2, 3, 4, 5, 6, 9]), (13, [14]), (15, [12])]))).seq (o [m
 (s 122) (j4 .add 3 (t 104) (.const (.int .i64 1)) 3) n,m (s 104) (j0 (t 122)) n])))).loop)).seq (((o [m (s 123) (j2 29 (t 3) 4) n,m (s 124) (j1 27 (t 123)) n,m (s 125) (j6 (.mk (.builtin .len) #[.tmp 124] #[27])) n,m (s 126) (j0 (.const (.int .i64
 0))) n]).seq (b 10 ((o [m (s 127) (j4 .lss 3 (t 126) (t 125) 3) n]).seq ((c (t 127) k (VCode.exit 10)).seq ((b 11 ((o [m (s 128) (j3 27 (t 124) (t 126)) n,m (s 129) (j1 139 (t 128)) n,m (s 18) (j8 139) n,m n (j7 139 (t 18) (t 129)) n]).seq
 (VCode.opsB (VBT.ro 0 (m (s 130) (j2 29 (t 5) 4) n) (VBT.ro 1 (m (s 131) (j1 27 (t 130)) n) (VBT.ro 2 (m (s 132) (j2 139 (t 18) 0) n) (VBT.ro 3 (m (s 133) (j1 9 (t 132)) n) (VBT.ro 4 (m (s 134) (j1 79 (t 2)) n) (VBT.ro 5 (m (s 135) (j2 139 (t 18) 1)
 n) (VBT.ro 6 (m (s 136) (j1 31 (t 135)) n) (VBT.ro 9 (m (s 139) (j6 (.mk (.builtin .len) #[.tmp 131] #[27])) n) (VBT.alt 7 (m (s 137) (j6 (.mk (.value (.func 26)) #[.tmp 134, .tmp 136] #[79, 31])) n) (VBT.ro 8 (m (s 138) (j9 139 #[(0, .tmp 133), (1,
 .tmp 137)]) n) (VBT.alt 10 (m (s 140) (ja 27 1 #[(0, .const (.agg #[.string (ByteArray.mk #[]), .slice n 0 0, .slice n 0 0, .slice n 0 0, .slice n 0 0, .slice n 0 0, .slice n 0 0]))]) n) (VBT.alt 11 (m (s 141) (j6 (.mk (.builtin .append) #[.tmp 131,
 .tmp 140] #[27, 27])) n) (VBT.ro 12 (m (s 142) (j3 27 (t 141) (t 139)) n) (VBT.ro 14 (m (s 143) (j2 29 (t 5) 4) n) (VBT.alt 13 (m n (j7 139 (t 142) (t 138)) n) (VBT.alt 15 (m n (j7 27 (t 143) (t 141)) n) VBT.leaf VBT.no) (VBT.alt 15 (m n (j7 27 (t
 143) (t 141)) n) (VBT.alt 13 (m n (j7 139 (t 142) (t 138)) n) VBT.leaf VBT.no) VBT.no)))) VBT.no) VBT.no)) (VBT.alt 10 (m (s 140) (ja 27 1 #[(0, .const (.agg #[.string (ByteArray.mk #[]), .slice n 0 0, .slice n 0 0, .slice n 0 0, .slice n 0 0, .slice
 n 0 0, .slice n 0 0]))]) n) (VBT.alt 7 (m (s 137) (j6 (.mk (.value (.func 26)) #[.tmp 134, .tmp 136] #[79, 31])) n) (VBT.ro 8 (m (s 138) (j9 139 #[(0, .tmp 133), (1, .tmp 137)]) n) (VBT.alt 11 (m (s 141) (j6 (.mk (.builtin .append) #[.tmp 131, .tmp
 140] #[27, 27])) n) (VBT.ro 12 (m (s 142) (j3 27 (t 141) (t 139)) n) (VBT.ro 14 (m (s 143) (j2 29 (t 5) 4) n) (VBT.alt 13 (m n (j7 139 (t 142) (t 138)) n) (VBT.alt 15 (m n (j7 27 (t 143) (t 141)) n) VBT.leaf VBT.no) (VBT.alt 15 (m n (j7 27 (t 143) (t
 141)) n) (VBT.alt 13 (m n (j7 139 (t 142) (t 138)) n) VBT.leaf VBT.no) VBT.no)))) VBT.no)) VBT.no) VBT.no)))))))))) [(7, [0, 1, 2, 3, 9]), (10, [0, 1, 2, 3, 4, 5, 6, 9]), (13, [14]), (15, [12])]))).seq (o [m (s 144) (j4 .add 3 (t 126) (.const (.int
 .i64 1)) 3) n,m (s 126) (j0 (t 144)) n])))).loop)).seq ((o [m (s 145) (j1 29 (t 5)) n,m n (j7 29 (t 4) (t 145)) n]).seq r)))))))
theorem fn56 : FnOk Tryz.prog 56 146 vc56 [ResultVar.cell 4 29] := ⟨Tryz.f56, _, [(5, [([0, 1, 2, 3, 4, 5, 6, 7, 8], [(5, [0, 1]), (7, [0, 1, 2, 3, 4])]), ([0, 1, 2, 3, 4, 7, 5, 6,
  8], []), ([0, 1, 2, 3, 4, 7, 5, 6, 8], [])]), (9, [([0, 1, 2, 3, 4, 5, 6, 7, 8, 9, 10, 11, 12], [(7, [0, 1, 2, 3]), (9, [0, 1])])]), (16, [([0, 1, 2, 3, 4, 5, 6, 7, 8, 9, 10, 11,
  12, 13, 14, 15, 16, 17], [(11, [0, 1, 2, 3, 4, 5, 6]), (14, [0, 1])])]), (21, [([0, 1, 2, 3, 4, 7, 5, 6, 8, 9, 10, 12, 11, 13], [(5, [0, 1, 7]), (8, [0, 1, 3, 4, 7]), (11, [12]),
  (13, [10])]), ([0, 1, 2, 3, 4, 7, 5, 6, 8, 9, 10, 12, 13, 11], []), ([0, 1, 2, 3, 4, 7, 8, 5, 6, 9, 10, 12, 11, 13], []), ([0, 1, 2, 3, 4, 7, 8, 5, 6, 9, 10, 12, 13, 11], [])]),
  (25, [([0, 1, 2, 3, 4, 5, 6, 9, 7, 8, 10, 11, 12, 14, 13, 15], [(7, [0, 1, 2, 3, 9]), (10, [0, 1, 2, 3, 4, 5, 6, 9]), (13, [14]), (15, [12])]), ([0, 1, 2, 3, 4, 5, 6, 9, 7, 8, 10,
  11, 12, 14, 15, 13], []), ([0, 1, 2, 3, 4, 5, 6, 9, 10, 7, 8, 11, 12, 14, 13, 15], []), ([0, 1, 2, 3, 4, 5, 6, 9, 10, 7, 8, 11, 12, 14, 15, 13], [])]), (30, [([0, 1, 2, 3, 4, 5,
  6, 9, 7, 8, 10, 11, 12, 14, 13, 15], [(7, [0, 1, 2, 3, 9]), (10, [0, 1, 2, 3, 4, 5, 6, 9]), (13, [14]), (15, [12])]), ([0, 1, 2, 3, 4, 5, 6, 9, 7, 8, 10, 11, 12, 14, 15, 13], []),
  ([0, 1, 2, 3, 4, 5, 6, 9, 10, 7, 8, 11, 12, 14, 13, 15], []), ([0, 1, 2, 3, 4, 5, 6, 9, 10, 7, 8, 11, 12, 14, 15, 13], [])])], Tryz.func56, rfl, rfl, rfl, by kernel_rfl, by
  kernel_rfl, by kernel_rfl⟩
def vc57 : VCode := (o [m (s 2) (jd 102 (t 0)) n,m (s 3) (jd 102 (t 1)) n,m (s 4) (j5 (.const (.bool false))) n]).seq ((o [m (s 5) (j1 102 (t 2)) n,m (s 6) (j1 102 (t 3)) n,m (s 7) (j6 (.mk (.value (.func 136)) #[.tmp 5, .tmp 6] #[102, 102])) n,m (s
 8) (j4 .eql 3 (t 7) (.const (.int .i64 0)) 3) n,m (s 4) (j5 (t 8)) n]).seq r)
theorem fn57 : FnOk Tryz.prog 57 9 vc57 [ResultVar.tmp 4] := ⟨Tryz.f57, _, [], Tryz.func57, rfl, rfl, rfl, by kernel_rfl, by kernel_rfl, by kernel_rfl⟩
def vc58 : VCode := (o [m (s 4) (j5 (.const (.bool false))) n]).seq (((o [m (s 7) (j0 (t 0)) n,m (s 8) (j6 (.mk (.builtin .len) #[.tmp 7] #[120])) n,m (s 9) (j0 (t 1)) n,m (s 10) (j6 (.mk (.builtin .len) #[.tmp 9] #[120])) n,m (s 11) (j4 .neq 3 (t 8)
 (t 10) 3) n]).seq (c (t 11) ((o [m (s 4) (j5 (.const (.bool false))) n]).seq r) k)).seq (((o [m (s 5) (j5 (.const (.int .i64 0))) n]).seq (b 0 (((o [m (s 12) (j0 (t 5)) n,m (s 13) (j0 (t 0)) n,m (s 14) (j6 (.mk (.builtin .len) #[.tmp 13] #[120])) n,m
 (s 15) (j4 .lss 3 (t 12) (t 14) 3) n]).seq (c (t 15) k (VCode.exit 0))).seq ((b 1 (((o [m (s 18) (j0 (t 0)) n,m (s 19) (j0 (t 5)) n,m (s 20) (j3 120 (t 18) (t 19)) n,m (s 21) (j2 126 (t 20) 0) n,m (s 22) (j1 9 (t 21)) n,m (s 23) (j0 (t 1)) n,m (s 24)
 (j0 (t 5)) n,m (s 25) (j3 120 (t 23) (t 24)) n,m (s 26) (j2 126 (t 25) 0) n,m (s 27) (j1 9 (t 26)) n,m (s 28) (j4 .neq 9 (t 22) (t 27) 9) n,m (s 29) (j0 (t 28)) n,m (s 30) (j0 (t 0)) (some (some 29, false)),m (s 31) (j0 (t 5)) (some (some 29,
 false)),m (s 32) (j3 120 (t 30) (t 31)) (some (some 29, false)),m (s 33) (j2 126 (t 32) 1) (some (some 29, false)),m (s 34) (j1 100 (t 33)) (some (some 29, false)),m (s 35) (j6 (.mk (.builtin .len) #[.tmp 34] #[100])) (some (some 29, false)),m (s 36)
 (j0 (t 1)) (some (some 29, false)),m (s 37) (j0 (t 5)) (some (some 29, false)),m (s 38) (j3 120 (t 36) (t 37)) (some (some 29, false)),m (s 39) (j2 126 (t 38) 1) (some (some 29, false)),m (s 40) (j1 100 (t 39)) (some (some 29, false)),m (s 41) (j6
 (.mk (.builtin .len) #[.tmp 40] #[100])) (some (some 29, false)),m (s 42) (j4 .neq 3 (t 35) (t 41) 3) (some (some 29, false)),m (s 43) (jc (t 29) (.const (.bool true)) (t 42)) n]).seq (c (t 43) ((o [m (s 4) (j5 (.const (.bool false))) n]).seq r)
 k)).seq ((o [m (s 6) (j5 (.const (.int .i64 0))) n]).seq (b 2 (((o [m (s 44) (j0 (t 6)) n,m (s 45) (j0 (t 0)) n,m (s 46) (j0 (t 5)) n,m (s 47) (j3 120 (t 45) (t 46)) n,m (s 48) (j2 126 (t 47) 1) n,m (s 49) (j1 100 (t 48)) n,m (s 50) (j6 (.mk
 (.builtin .len) #[.tmp 49] #[100])) n,m (s 51) (j4 .lss 3 (t 44) (t 50) 3) n]).seq (c (t 51) k (VCode.exit 2))).seq ((b 3 ((o [m (s 54) (j0 (t 0)) n,m (s 55) (j0 (t 5)) n,m (s 56) (j3 120 (t 54) (t 55)) n,m (s 57) (j2 126 (t 56) 1) n,m (s 58) (j1 100
 (t 57)) n,m (s 59) (j0 (t 6)) n,m (s 60) (j3 100 (t 58) (t 59)) n,m (s 61) (j1 102 (t 60)) n,m (s 62) (j0 (t 1)) n,m (s 63) (j0 (t 5)) n,m (s 64) (j3 120 (t 62) (t 63)) n,m (s 65) (j2 126 (t 64) 1) n,m (s 66) (j1 100 (t 65)) n,m (s 67) (j0 (t 6)) n,m
 (s 68) (j3 100 (t 66) (t 67)) n,m (s 69) (j1 102 (t 68)) n,m (s 70) (j6 (.mk (.value (.func 57)) #[.tmp 61, .tmp 69] #[102, 102])) n,m (s 71) (.unOp .not 4 (t 70)) n]).seq (c (t 71) ((o [m (s 4) (j5 (.const (.bool false))) n]).seq r) k))).seq (o [m
 (s 52) (j0 (t 6)) n,m (s 53) (j4 .add 3 (t 52) (.const (.int .i64 1)) 3) n,m (s 6) (j5 (t 53)) n]))).loop)))).seq (o [m (s 16) (j0 (t 5)) n,m (s 17) (j4 .add 3 (t 16) (.const (.int .i64 1)) 3) n,m (s 5) (j5 (t 17)) n]))).loop)).seq ((o [m (s 4) (j5
 (.const (.bool true))) n]).seq r)))
theorem fn58 : FnOk Tryz.prog 58 72 vc58 [ResultVar.tmp 4] := ⟨Tryz.f58, _, [], Tryz.func58, rfl, rfl, rfl, by kernel_rfl, by kernel_rfl, by kernel_rfl⟩
def vc59 : VCode := (o [m (s 2) (jd 129 (t 0)) n,m (s 3) (jd 129 (t 1)) n,m (s 4) (j5 (.const (.bool false))) n]).seq ((o [m (s 5) (j2 129 (t 2) 0) n,m (s 6) (j1 3 (t 5)) n,m (s 7) (j2 129 (t 3) 0) n,m (s 8) (j1 3 (t 7)) n,m (s 9) (j4 .eql 3 (t 6) (t
 8) 3) n,m (s 10) (j0 (t 9)) n,m (s 11) (j2 129 (t 2) 1) (some (some 10, true)),m (s 12) (j1 102 (t 11)) (some (some 10, true)),m (s 13) (j2 129 (t 3) 1) (some (some 10, true)),m (s 14) (j1 102 (t 13)) (some (some 10, true)),m (s 15) (j6 (.mk (.value
 (.func 57)) #[.tmp 12, .tmp 14] #[102, 102])) (some (some 10, true)),m (s 16) (jc (t 10) (t 15) (.const (.bool false))) n,m (s 4) (j5 (t 16)) n]).seq r)
theorem fn59 : FnOk Tryz.prog 59 17 vc59 [ResultVar.tmp 4] := ⟨Tryz.f59, _, [], Tryz.func59, rfl, rfl, rfl, by kernel_rfl, by kernel_rfl, by kernel_rfl⟩
def vc60 : VCode := (o [m (s 4) (j5 (.const (.int .i64 0))) n]).seq (((o [m (s 5) (j5 (.const (.int .i64 0))) n]).seq (b 0 (((o [m (s 6) (j0 (t 5)) n,m (s 7) (j0 (t 0)) n,m (s 8) (j6 (.mk (.builtin .len) #[.tmp 7] #[9])) n,m (s 9) (j4 .lss 3 (t 6) (t
 8) 3) n,m (s 10) (j0 (t 9)) n,m (s 11) (j0 (t 5)) (some (some 10, true)),m (s 12) (j0 (t 1)) (some (some 10, true)),m (s 13) (j6 (.mk (.builtin .len) #[.tmp 12] #[9])) (some (some 10, true)),m (s 14) (j4 .lss 3 (t 11) (t 13) 3) (some (some 10,
 true)),m (s 15) (jc (t 10) (t 14) (.const (.bool false))) n]).seq (c (t 15) k (VCode.exit 0))).seq ((b 1 (((o [m (s 18) (j0 (t 0)) n,m (s 19) (j0 (t 5)) n,m (s 20) (.index 9 (t 18) (t 19)) n,m (s 21) (j0 (t 1)) n,m (s 22) (j0 (t 5)) n,m (s 23)
 (.index 9 (t 21) (t 22)) n,m (s 24) (j4 .lss 5 (t 20) (t 23) 5) n]).seq (c (t 24) ((o [m (s 4) (j5 (.const (.int .i64 (-1)))) n]).seq r) k)).seq ((o [m (s 25) (j0 (t 0)) n,m (s 26) (j0 (t 5)) n,m (s 27) (.index 9 (t 25) (t 26)) n,m (s 28) (j0 (t 1))
 n,m (s 29) (j0 (t 5)) n,m (s 30) (.index 9 (t 28) (t 29)) n,m (s 31) (j4 .gtr 5 (t 27) (t 30) 5) n]).seq (c (t 31) ((o [m (s 4) (j5 (.const (.int .i64 1))) n]).seq r) k)))).seq (o [m (s 16) (j0 (t 5)) n,m (s 17) (j4 .add 3 (t 16) (.const (.int .i64
 1)) 3) n,m (s 5) (j5 (t 17)) n]))).loop)).seq (((o [m (s 32) (j0 (t 0)) n,m (s 33) (j6 (.mk (.builtin .len) #[.tmp 32] #[9])) n,m (s 34) (j0 (t 1)) n,m (s 35) (j6 (.mk (.builtin .len) #[.tmp 34] #[9])) n,m (s 36) (j4 .lss 3 (t 33) (t 35) 3) n]).seq
 (c (t 36) ((o [m (s 4) (j5 (.const (.int .i64 (-1)))) n]).seq r) k)).seq (((o [m (s 37) (j0 (t 0)) n,m (s 38) (j6 (.mk (.builtin .len) #[.tmp 37] #[9])) n,m (s 39) (j0 (t 1)) n,m (s 40) (j6 (.mk (.builtin .len) #[.tmp 39] #[9])) n,m (s 41) (j4 .gtr 3
 (t 38) (t 40) 3) n]).seq (c (t 41) ((o [m (s 4) (j5 (.const (.int .i64 1))) n]).seq r) k)).seq ((o [m (s 4) (j5 (.const (.int .i64 0))) n]).seq r))))
theorem fn60 : FnOk Tryz.prog 60 42 vc60 [ResultVar.tmp 4] := ⟨Tryz.f60, _, [], Tryz.func60, rfl, rfl, rfl, by kernel_rfl, by kernel_rfl, by kernel_rfl⟩
def vc61 : VCode := (o [m (s 2) (j5 (.const (.slice n 0 0))) n]).seq ((o [m (s 3) (j5 (.const (.slice n 0 0))) n]).seq (((o [m (s 4) (j5 (.const (.int .i64 0))) n]).seq (b 0 (((o [m (s 8) (j0 (t 4)) n,m (s 9) (j0 (t 0)) n,m (s 10) (j6 (.mk (.builtin
 .len) #[.tmp 9] #[26])) n,m (s 11) (j4 .lss 3 (t 8) (t 10) 3) n]).seq (c (t 11) k (VCode.exit 0))).seq ((b 1 ((o [m (s 14) (j0 (t 3)) n,m (s 15) (j6 (.mk (.builtin .len) #[.tmp 14] #[26])) n,m (s 5) (j5 (t 15)) n]).seq ((o [m (s 16) (j0 (t 0)) n,m (s
 17) (j0 (t 4)) n,m (s 18) (j3 26 (t 16) (t 17)) n,m (s 19) (j2 138 (t 18) 1) n,m (s 20) (j1 136 (t 19)) n,m (s 6) (j8 136) n,m n (j7 136 (t 6) (t 20)) n]).seq ((w [(0,m (s 21) (j0 (t 3)) n), (1,m (s 22) (j0 (t 0)) n), (2,m (s 23) (j0 (t 4)) n), (3,m
 (s 24) (j3 26 (t 22) (t 23)) n), (4,m (s 25) (j2 138 (t 24) 0) n), (5,m (s 26) (j1 9 (t 25)) n), (6,m (s 27) (j2 136 (t 6) 0) n), (7,m (s 28) (j1 22 (t 27)) n), (8,m (s 29) (j2 136 (t 6) 1) n), (9,m (s 30) (j1 29 (t 29)) n), (11,m (s 32) (j2 136 (t
 6) 2) n), (12,m (s 33) (j2 31 (t 32) 0) n), (13,m (s 34) (j1 22 (t 33)) n), (14,m (s 35) (j2 136 (t 6) 2) n), (15,m (s 36) (j2 31 (t 35) 1) n), (16,m (s 37) (j1 29 (t 36)) n), (10,m (s 31) (j6 (.mk (.value (.func 29)) #[.tmp 30] #[29])) n), (17,m (s
 38) (j6 (.mk (.value (.func 29)) #[.tmp 37] #[29])) n), (18,m (s 39) (j9 31 #[(0, .tmp 34), (1, .tmp 38)]) n), (19,m (s 40) (j9 136 #[(0, .tmp 28), (1, .tmp 31), (2, .tmp 39)]) n), (20,m (s 41) (j9 138 #[(0, .tmp 26), (1, .tmp 40)]) n), (21,m (s 42)
 (ja 26 1 #[(0, .tmp 41)]) n), (22,m (s 43) (j6 (.mk (.builtin .append) #[.tmp 21, .tmp 42] #[26, 26])) n), (23,m (s 3) (j5 (t 43)) n)] [(10, [3, 4, 5, 6, 7, 11, 12, 13, 14, 15, 16]), (17, [3, 4, 5, 6, 7, 11, 12, 13])]).seq (b 2 (((o [m (s 44) (j0 (t
 5)) n,m (s 45) (j4 .gtr 3 (t 44) (.const (.int .i64 0)) 3) n,m (s 46) (j0 (t 45)) n,m (s 47) (j0 (t 3)) (some (some 46, true)),m (s 48) (j0 (t 5)) (some (some 46, true)),m (s 49) (j3 26 (t 47) (t 48)) (some (some 46, true)),m (s 50) (j2 138 (t 49) 0)
 (some (some 46, true)),m (s 51) (j1 9 (t 50)) (some (some 46, true)),m (s 52) (j0 (t 3)) (some (some 46, true)),m (s 53) (j0 (t 5)) (some (some 46, true)),m (s 54) (j4 .sub 3 (t 53) (.const (.int .i64 1)) 3) (some (some 46, true)),m (s 55) (j3 26 (t
 52) (t 54)) (some (some 46, true)),m (s 56) (j2 138 (t 55) 0) (some (some 46, true)),m (s 57) (j1 9 (t 56)) (some (some 46, true)),m (s 58) (j6 (.mk (.value (.func 60)) #[.tmp 51, .tmp 57] #[9, 9])) (some (some 46, true)),m (s 59) (j4 .lss 3 (t 58)
 (.const (.int .i64 0)) 3) (some (some 46, true)),m (s 60) (jc (t 46) (t 59) (.const (.bool false))) n]).seq (c (t 60) k (VCode.exit 2))).seq ((b 3 ((o [m (s 63) (j0 (t 3)) n,m (s 64) (j0 (t 5)) n,m (s 65) (j3 26 (t 63) (t 64)) n,m (s 66) (j1 138 (t
 65)) n,m (s 7) (j8 138) n,m n (j7 138 (t 7) (t 66)) n]).seq ((o [m (s 67) (j0 (t 3)) n,m (s 68) (j0 (t 5)) n,m (s 69) (j0 (t 3)) n,m (s 70) (j0 (t 5)) n,m (s 71) (j4 .sub 3 (t 70) (.const (.int .i64 1)) 3) n,m (s 72) (j3 26 (t 69) (t 71)) n,m (s 73)
 (j1 138 (t 72)) n,m (s 74) (j3 26 (t 67) (t 68)) n,m n (j7 138 (t 74) (t 73)) n]).seq (o [m (s 75) (j0 (t 3)) n,m (s 76) (j0 (t 5)) n,m (s 77) (j4 .sub 3 (t 76) (.const (.int .i64 1)) 3) n,m (s 78) (j1 138 (t 7)) n,m (s 79) (j3 26 (t 75) (t 77)) n,m
 n (j7 138 (t 79) (t 78)) n])))).seq (o [m (s 61) (j0 (t 5)) n,m (s 62) (j4 .sub 3 (t 61) (.const (.int .i64 1)) 3) n,m (s 5) (j5 (t 62)) n]))).loop))))).seq (o [m (s 12) (j0 (t 4)) n,m (s 13) (j4 .add 3 (t 12) (.const (.int .i64 1)) 3) n,m (s 4) (j5
 (t 13)) n]))).loop)).seq ((o [m (s 80) (j0 (t 3)) n,m (s 2) (j5 (t 80)) n]).seq r)))
theorem fn61 : FnOk Tryz.prog 61 81 vc61 [ResultVar.tmp 2] := ⟨Tryz.f61, _, [(7, [([0, 1, 2, 3, 4, 5, 6, 7, 8, 9, 11, 12, 13, 14, 15, 16, 10, 17, 18, 19, 20, 21, 22, 23], [(10, [3,
  4, 5, 6, 7, 11, 12, 13, 14, 15, 16]), (17, [3, 4, 5, 6, 7, 11, 12, 13])])])], Tryz.func61, rfl, rfl, rfl, by kernel_rfl, by kernel_rfl, by kernel_rfl⟩
def vc62 : VCode := (o [m (s 2) (j5 (.const (.slice n 0 0))) n]).seq ((o [m (s 3) (j5 (.const (.slice n 0 0))) n]).seq (((o [m (s 4) (j5 (.const (.int .i64 0))) n]).seq (b 0 (((o [m (s 7) (j0 (t 4)) n,m (s 8) (j0 (t 0)) n,m (s 9) (j6 (.mk (.builtin
 .len) #[.tmp 8] #[27])) n,m (s 10) (j4 .lss 3 (t 7) (t 9) 3) n]).seq (c (t 10) k (VCode.exit 0))).seq ((b 1 ((o [m (s 13) (j0 (t 3)) n,m (s 14) (j6 (.mk (.builtin .len) #[.tmp 13] #[27])) n,m (s 5) (j5 (t 14)) n]).seq ((w [(0,m (s 15) (j0 (t 3)) n),
 (1,m (s 16) (j0 (t 0)) n), (2,m (s 17) (j0 (t 4)) n), (3,m (s 18) (j3 27 (t 16) (t 17)) n), (4,m (s 19) (j2 139 (t 18) 0) n), (5,m (s 20) (j1 9 (t 19)) n), (6,m (s 21) (j0 (t 0)) n), (7,m (s 22) (j0 (t 4)) n), (8,m (s 23) (j3 27 (t 21) (t 22)) n),
 (9,m (s 24) (j2 139 (t 23) 1) n), (10,m (s 25) (j2 31 (t 24) 0) n), (11,m (s 26) (j1 22 (t 25)) n), (12,m (s 27) (j0 (t 0)) n), (13,m (s 28) (j0 (t 4)) n), (14,m (s 29) (j3 27 (t 27) (t 28)) n), (15,m (s 30) (j2 139 (t 29) 1) n), (16,m (s 31) (j2 31
 (t 30) 1) n), (17,m (s 32) (j1 29 (t 31)) n), (18,m (s 33) (j6 (.mk (.value (.func 29)) #[.tmp 32] #[29])) n), (19,m (s 34) (j9 31 #[(0, .tmp 26), (1, .tmp 33)]) n), (20,m (s 35) (j9 139 #[(0, .tmp 20), (1, .tmp 34)]) n), (21,m (s 36) (ja 27 1 #[(0,
 .tmp 35)]) n), (22,m (s 37) (j6 (.mk (.builtin .append) #[.tmp 15, .tmp 36] #[27, 27])) n), (23,m (s 3) (j5 (t 37)) n)] [(18, [3, 4, 5, 8, 9, 10, 11])]).seq (b 2 (((o [m (s 38) (j0 (t 5)) n,m (s 39) (j4 .gtr 3 (t 38) (.const (.int .i64 0)) 3) n,m (s
 40) (j0 (t 39)) n,m (s 41) (j0 (t 3)) (some (some 40, true)),m (s 42) (j0 (t 5)) (some (some 40, true)),m (s 43) (j3 27 (t 41) (t 42)) (some (some 40, true)),m (s 44) (j2 139 (t 43) 0) (some (some 40, true)),m (s 45) (j1 9 (t 44)) (some (some 40,
 true)),m (s 46) (j0 (t 3)) (some (some 40, true)),m (s 47) (j0 (t 5)) (some (some 40, true)),m (s 48) (j4 .sub 3 (t 47) (.const (.int .i64 1)) 3) (some (some 40, true)),m (s 49) (j3 27 (t 46) (t 48)) (some (some 40, true)),m (s 50) (j2 139 (t 49) 0)
 (some (some 40, true)),m (s 51) (j1 9 (t 50)) (some (some 40, true)),m (s 52) (j6 (.mk (.value (.func 60)) #[.tmp 45, .tmp 51] #[9, 9])) (some (some 40, true)),m (s 53) (j4 .lss 3 (t 52) (.const (.int .i64 0)) 3) (some (some 40, true)),m (s 54) (jc
 (t 40) (t 53) (.const (.bool false))) n]).seq (c (t 54) k (VCode.exit 2))).seq ((b 3 ((o [m (s 57) (j0 (t 3)) n,m (s 58) (j0 (t 5)) n,m (s 59) (j3 27 (t 57) (t 58)) n,m (s 60) (j1 139 (t 59)) n,m (s 6) (j8 139) n,m n (j7 139 (t 6) (t 60)) n]).seq ((o
 [m (s 61) (j0 (t 3)) n,m (s 62) (j0 (t 5)) n,m (s 63) (j0 (t 3)) n,m (s 64) (j0 (t 5)) n,m (s 65) (j4 .sub 3 (t 64) (.const (.int .i64 1)) 3) n,m (s 66) (j3 27 (t 63) (t 65)) n,m (s 67) (j1 139 (t 66)) n,m (s 68) (j3 27 (t 61) (t 62)) n,m n (j7 139
 (t 68) (t 67)) n]).seq (o [m (s 69) (j0 (t 3)) n,m (s 70) (j0 (t 5)) n,m (s 71) (j4 .sub 3 (t 70) (.const (.int .i64 1)) 3) n,m (s 72) (j1 139 (t 6)) n,m (s 73) (j3 27 (t 69) (t 71)) n,m n (j7 139 (t 73) (t 72)) n])))).seq (o [m (s 55) (j0 (t 5)) n,m
 (s 56) (j4 .sub 3 (t 55) (.const (.int .i64 1)) 3) n,m (s 5) (j5 (t 56)) n]))).loop)))).seq (o [m (s 11) (j0 (t 4)) n,m (s 12) (j4 .add 3 (t 11) (.const (.int .i64 1)) 3) n,m (s 4) (j5 (t 12)) n]))).loop)).seq ((o [m (s 74) (j0 (t 3)) n,m (s 2) (j5
 (t 74)) n]).seq r)))
theorem fn62 : FnOk Tryz.prog 62 75 vc62 [ResultVar.tmp 2] := ⟨Tryz.f62, _, [(6, [([0, 1, 2, 3, 4, 5, 6, 7, 8, 9, 10, 11, 12, 13, 14, 15, 16, 17, 18, 19, 20, 21, 22, 23], [(18, [3,
  4, 5, 8, 9, 10, 11])])])], Tryz.func62, rfl, rfl, rfl, by kernel_rfl, by kernel_rfl, by kernel_rfl⟩
def vc63 : VCode := (o [m (s 3) (jd 102 (t 1)) n,m (s 4) (j8 102) n]).seq ((o [m (s 7) (j1 102 (t 3)) n,m (s 5) (j8 102) n,m n (j7 102 (t 5) (t 7)) n]).seq ((o [m (s 8) (j2 102 (t 5) 2) n,m n (j7 100 (t 8) (.const (.slice n 0 0))) n]).seq (((o [m (s
 9) (j2 102 (t 3) 0) n,m (s 10) (j1 3 (t 9)) n,m (s 11) (j4 .eql 3 (t 10) (.const (.int .i64 6)) 3) n]).seq (c (t 11) (o [m (s 12) (j0 (t 0)) n,m (s 13) (j2 102 (t 3) 1) n,m (s 14) (j1 3 (t 13)) n,m (s 15) (j6 (.mk (.value (.func 137)) #[.tmp 12, .tmp
 14] #[65, 3])) n,m (s 16) (j2 102 (t 5) 1) n,m n (j7 3 (t 16) (t 15)) n]) k)).seq (((o [m (s 6) (j5 (.const (.int .i64 0))) n]).seq (b 0 (((o [m (s 17) (j0 (t 6)) n,m (s 18) (j2 102 (t 3) 2) n,m (s 19) (j1 100 (t 18)) n,m (s 20) (j6 (.mk (.builtin
 .len) #[.tmp 19] #[100])) n,m (s 21) (j4 .lss 3 (t 17) (t 20) 3) n]).seq (c (t 21) k (VCode.exit 0))).seq ((b 1 (w [(0,m (s 24) (j2 102 (t 5) 2) n), (1,m (s 25) (j1 100 (t 24)) n), (2,m (s 26) (j0 (t 0)) n), (3,m (s 27) (j2 102 (t 3) 2) n), (4,m (s
 28) (j1 100 (t 27)) n), (5,m (s 29) (j0 (t 6)) n), (6,m (s 30) (j3 100 (t 28) (t 29)) n), (7,m (s 31) (j1 102 (t 30)) n), (8,m (s 32) (j6 (.mk (.value (.func 63)) #[.tmp 26, .tmp 31] #[65, 102])) n), (9,m (s 33) (ja 100 1 #[(0, .tmp 32)]) n), (10,m
 (s 34) (j6 (.mk (.builtin .append) #[.tmp 25, .tmp 33] #[100, 100])) n), (11,m (s 35) (j2 102 (t 5) 2) n), (12,m n (j7 100 (t 35) (t 34)) n)] [(8, [0, 1]), (9, [0, 1])])).seq (o [m (s 22) (j0 (t 6)) n,m (s 23) (j4 .add 3 (t 22) (.const (.int .i64 1))
 3) n,m (s 6) (j5 (t 23)) n]))).loop)).seq ((o [m (s 36) (j1 102 (t 5)) n,m n (j7 102 (t 4) (t 36)) n]).seq r)))))
theorem fn63 : FnOk Tryz.prog 63 37 vc63 [ResultVar.cell 4 102] := ⟨Tryz.f63, _, [(8, [([0, 1, 2, 3, 4, 5, 6, 7, 8, 9, 10, 11, 12], [(8, [0, 1]), (9, [0, 1])])])], Tryz.func63, rfl,
  rfl, rfl, by kernel_rfl, by kernel_rfl, by kernel_rfl⟩
def vc64 : VCode := (o [m (s 4) (j5 (.const (.slice n 0 0))) n]).seq ((o [m (s 5) (j5 (.const (.slice n 0 0))) n]).seq (((o [m (s 6) (j5 (.const (.int .i64 0))) n]).seq (b 0 (((o [m (s 9) (j0 (t 6)) n,m (s 10) (j0 (t 1)) n,m (s 11) (j6 (.mk (.builtin
 .len) #[.tmp 10] #[120])) n,m (s 12) (j4 .lss 3 (t 9) (t 11) 3) n]).seq (c (t 12) k (VCode.exit 0))).seq ((b 1 ((o [m (s 15) (j0 (t 1)) n,m (s 16) (j0 (t 6)) n,m (s 17) (j3 120 (t 15) (t 16)) n,m (s 18) (j2 126 (t 17) 0) n,m (s 19) (j1 9 (t 18)) n,m
 (s 20) (j9 126 #[(0, .tmp 19)]) n,m (s 7) (j8 126) n,m n (j7 126 (t 7) (t 20)) n]).seq (((o [m (s 8) (j5 (.const (.int .i64 0))) n]).seq (b 2 (((o [m (s 21) (j0 (t 8)) n,m (s 22) (j0 (t 1)) n,m (s 23) (j0 (t 6)) n,m (s 24) (j3 120 (t 22) (t 23)) n,m
 (s 25) (j2 126 (t 24) 1) n,m (s 26) (j1 100 (t 25)) n,m (s 27) (j6 (.mk (.builtin .len) #[.tmp 26] #[100])) n,m (s 28) (j4 .lss 3 (t 21) (t 27) 3) n]).seq (c (t 28) k (VCode.exit 2))).seq ((b 3 (w [(0,m (s 31) (j2 126 (t 7) 1) n), (1,m (s 32) (j1 100
 (t 31)) n), (2,m (s 33) (j0 (t 0)) n), (3,m (s 34) (j0 (t 1)) n), (4,m (s 35) (j0 (t 6)) n), (5,m (s 36) (j3 120 (t 34) (t 35)) n), (6,m (s 37) (j2 126 (t 36) 1) n), (7,m (s 38) (j1 100 (t 37)) n), (8,m (s 39) (j0 (t 8)) n), (9,m (s 40) (j3 100 (t
 38) (t 39)) n), (10,m (s 41) (j1 102 (t 40)) n), (11,m (s 42) (j6 (.mk (.value (.func 63)) #[.tmp 33, .tmp 41] #[65, 102])) n), (12,m (s 43) (ja 100 1 #[(0, .tmp 42)]) n), (13,m (s 44) (j6 (.mk (.builtin .append) #[.tmp 32, .tmp 43] #[100, 100])) n),
 (14,m (s 45) (j2 126 (t 7) 1) n), (15,m n (j7 100 (t 45) (t 44)) n)] [(11, [0, 1]), (12, [0, 1])])).seq (o [m (s 29) (j0 (t 8)) n,m (s 30) (j4 .add 3 (t 29) (.const (.int .i64 1)) 3) n,m (s 8) (j5 (t 30)) n]))).loop)).seq (o [m (s 46) (j0 (t 5)) n,m
 (s 47) (j1 126 (t 7)) n,m (s 48) (ja 120 1 #[(0, .tmp 47)]) n,m (s 49) (j6 (.mk (.builtin .append) #[.tmp 46, .tmp 48] #[120, 120])) n,m (s 5) (j5 (t 49)) n])))).seq (o [m (s 13) (j0 (t 6)) n,m (s 14) (j4 .add 3 (t 13) (.const (.int .i64 1)) 3) n,m
 (s 6) (j5 (t 14)) n]))).loop)).seq ((o [m (s 50) (j0 (t 5)) n,m (s 4) (j5 (t 50)) n]).seq r)))
theorem fn64 : FnOk Tryz.prog 64 51 vc64 [ResultVar.tmp 4] := ⟨Tryz.f64, _, [(9, [([0, 1, 2, 3, 4, 5, 6, 7, 8, 9, 10, 11, 12, 13, 14, 15], [(11, [0, 1]), (12, [0, 1])])])],
  Tryz.func64, rfl, rfl, rfl, by kernel_rfl, by kernel_rfl, by kernel_rfl⟩
def vc65 : VCode := (o [m (s 3) (jd 136 (t 1)) n,m (s 4) (j8 136) n]).seq ((o [m (s 7) (j0 (t 0)) n,m (s 8) (j2 136 (t 3) 0) n,m (s 9) (j1 22 (t 8)) n,m (s 10) (j6 (.mk (.value (.func 30)) #[.tmp 7, .tmp 9] #[65, 22])) n]).seq ((o [m (s 11) (j0 (t 0))
 n,m (s 12) (j2 136 (t 3) 1) n,m (s 13) (j1 29 (t 12)) n,m (s 14) (j6 (.mk (.value (.func 31)) #[.tmp 11, .tmp 13] #[65, 29])) n,m (s 5) (j8 29) n,m n (j7 29 (t 5) (t 14)) n]).seq ((o [m (s 15) (j0 (t 0)) n,m (s 16) (j2 136 (t 3) 2) n,m (s 17) (j1 31
 (t 16)) n,m (s 18) (j6 (.mk (.value (.func 15)) #[.tmp 15, .tmp 17] #[65, 31])) n,m (s 6) (j8 31) n,m n (j7 31 (t 6) (t 18)) n]).seq ((w [(0,m (s 19) (j0 (t 0)) n), (1,m (s 20) (j2 136 (t 3) 0) n), (2,m (s 21) (j1 22 (t 20)) n), (3,m (s 22) (j6 (.mk
 (.builtin .len) #[.tmp 21] #[22])) n), (5,m (s 24) (j1 29 (t 5)) n), (6,m (s 25) (j1 31 (t 6)) n), (4,m (s 23) (j6 (.mk (.value (.func 32)) #[.tmp 19, .tmp 22] #[65, 3])) n), (7,m (s 26) (j9 136 #[(0, .tmp 23), (1, .tmp 24), (2, .tmp 25)]) n), (8,m n
 (j7 136 (t 4) (t 26)) n)] [(4, [5, 6])]).seq r))))
theorem fn65 : FnOk Tryz.prog 65 27 vc65 [ResultVar.cell 4 136] := ⟨Tryz.f65, _, [(4, [([0, 1, 2, 3, 5, 6, 4, 7, 8], [(4, [5, 6])])])], Tryz.func65, rfl, rfl, rfl, by kernel_rfl, by
  kernel_rfl, by kernel_rfl⟩
def vc66 : VCode := (o [m (s 4) (j5 (.const (.slice n 0 0))) n]).seq (((o [m (s 8) (j0 (t 0)) n,m (s 9) (j0 (t 1)) n,m (s 10) (j6 (.mk (.value (.func 138)) #[.tmp 8, .tmp 9] #[22, 3])) n]).seq (c (t 10) ((o [m (s 11) (j0 (t 0)) n,m (s 4) (j5 (t 11))
 n]).seq r) k)).seq ((o [m (s 12) (ja 22 0 #[]) n,m (s 13) (j0 (t 0)) n,m (s 14) (j6 (.mk (.builtin .append) #[.tmp 12, .tmp 13] #[22, 22])) n,m (s 15) (j0 (t 1)) n,m (s 16) (ja 22 1 #[(0, .tmp 15)]) n,m (s 17) (j6 (.mk (.builtin .append) #[.tmp 14,
 .tmp 16] #[22, 22])) n,m (s 5) (j5 (t 17)) n]).seq (((o [m (s 18) (j0 (t 5)) n,m (s 19) (j6 (.mk (.builtin .len) #[.tmp 18] #[22])) n,m (s 20) (j4 .sub 3 (t 19) (.const (.int .i64 1)) 3) n,m (s 6) (j5 (t 20)) n]).seq (b 0 (((o [m (s 21) (j0 (t 6))
 n,m (s 22) (j4 .gtr 3 (t 21) (.const (.int .i64 0)) 3) n,m (s 23) (j0 (t 22)) n,m (s 24) (j0 (t 5)) (some (some 23, true)),m (s 25) (j0 (t 6)) (some (some 23, true)),m (s 26) (j3 22 (t 24) (t 25)) (some (some 23, true)),m (s 27) (j1 3 (t 26)) (some
 (some 23, true)),m (s 28) (j0 (t 5)) (some (some 23, true)),m (s 29) (j0 (t 6)) (some (some 23, true)),m (s 30) (j4 .sub 3 (t 29) (.const (.int .i64 1)) 3) (some (some 23, true)),m (s 31) (j3 22 (t 28) (t 30)) (some (some 23, true)),m (s 32) (j1 3 (t
 31)) (some (some 23, true)),m (s 33) (j4 .lss 3 (t 27) (t 32) 3) (some (some 23, true)),m (s 34) (jc (t 23) (t 33) (.const (.bool false))) n]).seq (c (t 34) k (VCode.exit 0))).seq ((b 1 ((o [m (s 37) (j0 (t 5)) n,m (s 38) (j0 (t 6)) n,m (s 39) (j3 22
 (t 37) (t 38)) n,m (s 40) (j1 3 (t 39)) n,m (s 7) (j5 (t 40)) n]).seq ((o [m (s 41) (j0 (t 5)) n,m (s 42) (j0 (t 6)) n,m (s 43) (j0 (t 5)) n,m (s 44) (j0 (t 6)) n,m (s 45) (j4 .sub 3 (t 44) (.const (.int .i64 1)) 3) n,m (s 46) (j3 22 (t 43) (t 45))
 n,m (s 47) (j1 3 (t 46)) n,m (s 48) (j3 22 (t 41) (t 42)) n,m n (j7 3 (t 48) (t 47)) n]).seq (o [m (s 49) (j0 (t 5)) n,m (s 50) (j0 (t 6)) n,m (s 51) (j4 .sub 3 (t 50) (.const (.int .i64 1)) 3) n,m (s 52) (j0 (t 7)) n,m (s 53) (j3 22 (t 49) (t 51))
 n,m n (j7 3 (t 53) (t 52)) n])))).seq (o [m (s 35) (j0 (t 6)) n,m (s 36) (j4 .sub 3 (t 35) (.const (.int .i64 1)) 3) n,m (s 6) (j5 (t 36)) n]))).loop)).seq ((o [m (s 54) (j0 (t 5)) n,m (s 4) (j5 (t 54)) n]).seq r))))
theorem fn66 : FnOk Tryz.prog 66 55 vc66 [ResultVar.tmp 4] := ⟨Tryz.f66, _, [], Tryz.func66, rfl, rfl, rfl, by kernel_rfl, by kernel_rfl, by kernel_rfl⟩
def vc109 : VCode := (o [m (s 1) (jd 102 (t 0)) n,m (s 2) (j5 (.const (.slice n 0 0))) n]).seq ((o [m (s 3) (j1 102 (t 1)) n,m (s 4) (j6 (.mk (.value (.func 182)) #[.tmp 3, .const (.int .i64 6)] #[102, 3])) n,m (s 2) (j5 (t 4)) n]).seq r)
theorem fn109 : FnOk Tryz.prog 109 5 vc109 [ResultVar.tmp 2] := ⟨Tryz.f109, _, [], Tryz.func109, rfl, rfl, rfl, by kernel_rfl, by kernel_rfl, by kernel_rfl⟩
def vc117 : VCode := o [m (s 2) (j1 115 (t 0)) n,m (s 3) (j2 31 (t 1) 1) n,m (s 4) (j1 29 (t 3)) n,m (s 5) (j6 (.mk (.value (.func 53)) #[.tmp 2, .tmp 4] #[115, 29])) n]
theorem fn117 : FnOk Tryz.prog 117 6 vc117 [] := ⟨Tryz.f117, _, [], Tryz.func117, rfl, rfl, rfl, by kernel_rfl, by kernel_rfl, by kernel_rfl⟩
def vc126 : VCode := (o [m (s 5) (j2 29 (t 1) 2) n,m (s 6) (j1 25 (t 5)) n,m (s 7) (j6 (.mk (.builtin .len) #[.tmp 6] #[25])) n,m (s 8) (j0 (.const (.int .i64 0))) n]).seq (b 0 ((o [m (s 9) (j4 .lss 3 (t 8) (t 7) 3) n]).seq ((c (t 9) k (VCode.exit
 0)).seq ((b 1 ((o [m (s 10) (j3 25 (t 6) (t 8)) n,m (s 11) (j1 154 (t 10)) n,m (s 4) (j8 154) n,m n (j7 154 (t 4) (t 11)) n]).seq ((o [m (s 12) (j0 (t 0)) n,m (s 13) (j2 154 (t 4) 0) n,m (s 14) (j1 9 (t 13)) n,m (s 15) (j2 154 (t 4) 1) n,m (s 16) (j1
 29 (t 15)) n,m (s 17) (j6 (.mk (.value (t 12)) #[.tmp 14, .tmp 16] #[9, 29])) n,m (s 18) (.unOp .not 4 (t 17)) n]).seq (c (t 18) r k)))).seq (o [m (s 19) (j4 .add 3 (t 8) (.const (.int .i64 1)) 3) n,m (s 8) (j0 (t 19)) n])))).loop)
theorem fn126 : FnOk Tryz.prog 126 20 vc126 [] := ⟨Tryz.f126, _, [], Tryz.func126, rfl, rfl, rfl, by kernel_rfl, by kernel_rfl, by kernel_rfl⟩
def vc127 : VCode := (o [m (s 4) (j1 22 (t 1)) n,m (s 5) (j6 (.mk (.builtin .len) #[.tmp 4] #[22])) n,m (s 6) (j4 .sub 3 (t 5) (.const (.int .i64 1)) 3) n,m (s 3) (j5 (t 6)) n]).seq (b 0 (((o [m (s 7) (j0 (t 3)) n,m (s 8) (j4 .geq 3 (t 7) (.const
 (.int .i64 0)) 3) n]).seq (c (t 8) k (VCode.exit 0))).seq ((b 1 ((o [m (s 11) (j0 (t 0)) n,m (s 12) (j0 (t 3)) n,m (s 13) (j1 22 (t 1)) n,m (s 14) (j0 (t 3)) n,m (s 15) (j3 22 (t 13) (t 14)) n,m (s 16) (j1 3 (t 15)) n,m (s 17) (j6 (.mk (.value (t
 11)) #[.tmp 12, .tmp 16] #[3, 3])) n,m (s 18) (.unOp .not 4 (t 17)) n]).seq (c (t 18) r k))).seq (o [m (s 9) (j0 (t 3)) n,m (s 10) (j4 .sub 3 (t 9) (.const (.int .i64 1)) 3) n,m (s 3) (j5 (t 10)) n]))).loop)
theorem fn127 : FnOk Tryz.prog 127 19 vc127 [] := ⟨Tryz.f127, _, [], Tryz.func127, rfl, rfl, rfl, by kernel_rfl, by kernel_rfl, by kernel_rfl⟩
def vc128 : VCode := (o [m (s 4) (j5 (.const (.int .i64 0))) n]).seq (((o [m (s 6) (j0 (t 0)) n,m (s 7) (j6 (.mk (.builtin .len) #[.tmp 6] #[145])) n,m (s 8) (j0 (.const (.int .i64 0))) n]).seq (b 0 ((o [m (s 9) (j4 .lss 3 (t 8) (t 7) 3) n]).seq ((c
 (t 9) k (VCode.exit 0)).seq ((b 1 ((o [m (s 10) (j0 (t 8)) n,m (s 5) (j5 (t 10)) n]).seq ((o [m (s 11) (j0 (t 1)) n,m (s 12) (j0 (t 0)) n,m (s 13) (j0 (t 5)) n,m (s 14) (j3 145 (t 12) (t 13)) n,m (s 15) (j1 22 (t 14)) n,m (s 16) (j6 (.mk (.value (t
 11)) #[.tmp 15] #[22])) n]).seq (c (t 16) ((o [m (s 17) (j0 (t 5)) n,m (s 4) (j5 (t 17)) n]).seq r) k)))).seq (o [m (s 18) (j4 .add 3 (t 8) (.const (.int .i64 1)) 3) n,m (s 8) (j0 (t 18)) n])))).loop)).seq ((o [m (s 4) (j5 (.const (.int .i64 (-1))))
 n]).seq r))
theorem fn128 : FnOk Tryz.prog 128 19 vc128 [ResultVar.tmp 4] := ⟨Tryz.f128, _, [], Tryz.func128, rfl, rfl, rfl, by kernel_rfl, by kernel_rfl, by kernel_rfl⟩
def vc129 : VCode := (o [m (s 3) (jd 102 (t 1)) n]).seq ((o [m (s 6) (j1 102 (t 3)) n,m (s 7) (j6 (.mk (.value (.func 109)) #[.tmp 6] #[102])) n,m (s 8) (j6 (.mk (.builtin .len) #[.tmp 7] #[22])) n,m (s 9) (j0 (.const (.int .i64 0))) n]).seq (b 0 ((o
 [m (s 10) (j4 .lss 3 (t 9) (t 8) 3) n]).seq ((c (t 10) k (VCode.exit 0)).seq ((b 1 ((o [m (s 11) (j3 22 (t 7) (t 9)) n,m (s 12) (j1 3 (t 11)) n,m (s 5) (j5 (t 12)) n]).seq ((o [m (s 13) (j0 (t 0)) n,m (s 14) (je (t 13)) n,m (s 15) (j2 117 (t 14) 0)
 n,m (s 16) (j1 22 (t 15)) n,m (s 17) (j0 (t 5)) n,m (s 18) (j6 (.mk (.value (.func 23)) #[.tmp 16, .tmp 17] #[22, 3])) n,m (s 19) (.unOp .not 4 (t 18)) n,m (s 20) (j0 (t 19)) n,m (s 21) (j0 (t 0)) (some (some 20, true)),m (s 22) (je (t 21)) (some
 (some 20, true)),m (s 23) (j2 117 (t 22) 1) (some (some 20, true)),m (s 24) (j1 22 (t 23)) (some (some 20, true)),m (s 25) (j0 (t 5)) (some (some 20, true)),m (s 26) (j6 (.mk (.value (.func 23)) #[.tmp 24, .tmp 25] #[22, 3])) (some (some 20, true)),m
 (s 27) (.unOp .not 4 (t 26)) (some (some 20, true)),m (s 28) (jc (t 20) (t 27) (.const (.bool false))) n]).seq (c (t 28) (o [m (s 29) (j0 (t 0)) n,m (s 30) (j0 (t 0)) n,m (s 31) (je (t 30)) n,m (s 32) (j2 117 (t 31) 1) n,m (s 33) (j1 22 (t 32)) n,m
 (s 34) (j0 (t 5)) n,m (s 35) (ja 22 1 #[(0, .tmp 34)]) n,m (s 36) (j6 (.mk (.builtin .append) #[.tmp 33, .tmp 35] #[22, 22])) n,m (s 37) (je (t 29)) n,m (s 38) (j2 117 (t 37) 1) n,m n (j7 22 (t 38) (t 36)) n]) k)))).seq (o [m (s 39) (j4 .add 3 (t 9)
 (.const (.int .i64 1)) 3) n,m (s 9) (j0 (t 39)) n])))).loop))
theorem fn129 : FnOk Tryz.prog 129 40 vc129 [] := ⟨Tryz.f129, _, [], Tryz.func129, rfl, rfl, rfl, by kernel_rfl, by kernel_rfl, by kernel_rfl⟩
def vc130 : VCode := (o [m (s 6) (j0 (t 1)) n,m (s 7) (j6 (.mk (.builtin .len) #[.tmp 6] #[120])) n,m (s 8) (j0 (.const (.int .i64 0))) n]).seq (b 0 ((o [m (s 9) (j4 .lss 3 (t 8) (t 7) 3) n]).seq ((c (t 9) k (VCode.exit 0)).seq ((b 1 ((o [m (s 10) (j3
 120 (t 6) (t 8)) n,m (s 11) (j1 126 (t 10)) n,m (s 5) (j8 126) n,m n (j7 126 (t 5) (t 11)) n]).seq (o [m (s 12) (j0 (t 0)) n,m (s 13) (j2 126 (t 5) 1) n,m (s 14) (j1 100 (t 13)) n,m (s 15) (j6 (.mk (.value (.func 204)) #[.tmp 12, .tmp 14] #[115,
 100])) n]))).seq (o [m (s 16) (j4 .add 3 (t 8) (.const (.int .i64 1)) 3) n,m (s 8) (j0 (t 16)) n])))).loop)
theorem fn130 : FnOk Tryz.prog 130 17 vc130 [] := ⟨Tryz.f130, _, [], Tryz.func130, rfl, rfl, rfl, by kernel_rfl, by kernel_rfl, by kernel_rfl⟩
def vc131 : VCode := (o [m (s 2) (jd 115 (t 0)) n,m (s 3) (jd 136 (t 1)) n]).seq (o [m (s 4) (j1 115 (t 2)) n,m (s 5) (j2 136 (t 3) 0) n,m (s 6) (j1 22 (t 5)) n,m (s 7) (.makeFunc (.func 205) #[] #[.tmp 2, .tmp 3]) n,m (s 8) (j6 (.mk (.value (.func
 116)) #[.tmp 4, .tmp 6, .tmp 7] #[115, 22, 1])) n])
theorem fn131 : FnOk Tryz.prog 131 9 vc131 [] := ⟨Tryz.f131, _, [], Tryz.func131, rfl, rfl, rfl, by kernel_rfl, by kernel_rfl, by kernel_rfl⟩
def vc132 : VCode := w [(0,m (s 2) (j1 79 (t 0)) n), (1,m (s 3) (j1 79 (t 0)) n), (2,m (s 4) (j1 79 (t 0)) n), (3,m (s 5) (je (t 4)) n), (4,m (s 6) (j2 82 (t 5) 0) n), (5,m (s 7) (j1 22 (t 6)) n), (6,m (s 8) (j1 3 (t 1)) n), (7,m (s 9) (.slice 22 (t
 7) n (some (t 8)) n) n), (8,m (s 10) (j1 79 (t 0)) n), (9,m (s 11) (je (t 10)) n), (10,m (s 12) (j2 82 (t 11) 1) n), (11,m (s 13) (j1 22 (t 12)) n), (12,m (s 14) (j1 3 (t 1)) n), (13,m (s 15) (.slice 22 (t 13) n (some (t 14)) n) n), (14,m (s 16) (je
 (t 2)) n), (15,m (s 17) (j2 82 (t 16) 0) n), (16,m n (j7 22 (t 17) (t 9)) n), (17,m (s 18) (je (t 3)) n), (18,m (s 19) (j2 82 (t 18) 1) n), (19,m n (j7 22 (t 19) (t 15)) n)] [(16, [13])]
theorem fn132 : FnOk Tryz.prog 132 20 vc132 [] := ⟨Tryz.f132, _, [(0, [([0, 1, 2, 3, 4, 5, 6, 7, 8, 9, 10, 11, 12, 13, 14, 15, 16, 17, 18, 19], [(16, [13])])])], Tryz.func132, rfl,
  rfl, rfl, by kernel_rfl, by kernel_rfl, by kernel_rfl⟩
def vc133 : VCode := (o [m (s 3) (jd 102 (t 1)) n,m (s 4) (j8 102) n]).seq (((o [m (s 7) (j2 102 (t 3) 0) n,m (s 8) (j1 3 (t 7)) n,m (s 9) (j4 .eql 3 (t 8) (.const (.int .i64 6)) 3) n]).seq (c (t 9) (o [m (s 10) (j0 (t 0)) n,m (s 11) (j2 102 (t 3) 1)
 n,m (s 12) (j1 3 (t 11)) n,m (s 13) (j6 (.mk (.value (.func 24)) #[.tmp 10, .tmp 12] #[79, 3])) n,m (s 14) (j2 102 (t 3) 1) n,m n (j7 3 (t 14) (t 13)) n]) k)).seq ((o [m (s 15) (j2 102 (t 3) 2) n,m (s 16) (j1 100 (t 15)) n,m (s 17) (j6 (.mk (.value
 (.func 202)) #[.tmp 16] #[100])) n,m (s 18) (j2 102 (t 3) 2) n,m n (j7 100 (t 18) (t 17)) n]).seq (((o [m (s 19) (j2 102 (t 3) 2) n,m (s 20) (j1 100 (t 19)) n,m (s 21) (j6 (.mk (.builtin .len) #[.tmp 20] #[100])) n,m (s 22) (j0 (.const (.int .i64
 0))) n]).seq (b 0 ((o [m (s 23) (j4 .lss 3 (t 22) (t 21) 3) n]).seq ((c (t 23) k (VCode.exit 0)).seq ((b 1 ((o [m (s 24) (j0 (t 22)) n,m (s 25) (j3 100 (t 20) (t 22)) n,m (s 26) (j1 102 (t 25)) n,m (s 6) (j8 102) n,m (s 5) (j5 (t 24)) n,m n (j7 102
 (t 6) (t 26)) n]).seq (w [(0,m (s 27) (j2 102 (t 3) 2) n), (1,m (s 28) (j1 100 (t 27)) n), (2,m (s 29) (j0 (t 5)) n), (3,m (s 30) (j0 (t 0)) n), (4,m (s 31) (j1 102 (t 6)) n), (5,m (s 32) (j6 (.mk (.value (.func 133)) #[.tmp 30, .tmp 31] #[79, 102]))
 n), (6,m (s 33) (j3 100 (t 28) (t 29)) n), (7,m n (j7 102 (t 33) (t 32)) n)] [(5, [0, 1])]))).seq (o [m (s 34) (j4 .add 3 (t 22) (.const (.int .i64 1)) 3) n,m (s 22) (j0 (t 34)) n])))).loop)).seq ((o [m (s 35) (j1 102 (t 3)) n,m n (j7 102 (t 4) (t
 35)) n]).seq r))))
theorem fn133 : FnOk Tryz.prog 133 36 vc133 [ResultVar.cell 4 102] := ⟨Tryz.f133, _, [(7, [([0, 1, 2, 3, 4, 5, 6, 7], [(5, [0, 1])])])], Tryz.func133, rfl, rfl, rfl, by kernel_rfl,
  by kernel_rfl, by kernel_rfl⟩
def vc134 : VCode := (o [m (s 4) (j5 (.const (.slice n 0 0))) n]).seq ((o [m (s 5) (j5 (.const (.slice n 0 0))) n]).seq (((o [m (s 8) (j0 (t 1)) n,m (s 9) (j6 (.mk (.builtin .len) #[.tmp 8] #[100])) n,m (s 10) (j0 (.const (.int .i64 0))) n]).seq (b 0
 ((o [m (s 11) (j4 .lss 3 (t 10) (t 9) 3) n]).seq ((c (t 11) k (VCode.exit 0)).seq ((b 1 ((o [m (s 12) (j3 100 (t 8) (t 10)) n,m (s 13) (j1 102 (t 12)) n,m (s 7) (j8 102) n,m n (j7 102 (t 7) (t 13)) n]).seq (o [m (s 14) (j0 (t 5)) n,m (s 15) (j0 (t
 0)) n,m (s 16) (j1 102 (t 7)) n,m (s 17) (j6 (.mk (.value (.func 133)) #[.tmp 15, .tmp 16] #[79, 102])) n,m (s 18) (ja 100 1 #[(0, .tmp 17)]) n,m (s 19) (j6 (.mk (.builtin .append) #[.tmp 14, .tmp 18] #[100, 100])) n,m (s 5) (j5 (t 19)) n]))).seq (o
 [m (s 20) (j4 .add 3 (t 10) (.const (.int .i64 1)) 3) n,m (s 10) (j0 (t 20)) n])))).loop)).seq ((o [m (s 21) (j0 (t 5)) n,m (s 4) (j5 (t 21)) n]).seq r)))
theorem fn134 : FnOk Tryz.prog 134 22 vc134 [ResultVar.tmp 4] := ⟨Tryz.f134, _, [], Tryz.func134, rfl, rfl, rfl, by kernel_rfl, by kernel_rfl, by kernel_rfl⟩
def vc135 : VCode := (o [m (s 2) (jd 79 (t 0)) n,m (s 3) (jd 136 (t 1)) n,m (s 4) (j8 136) n]).seq ((o [m (s 6) (j9 117 #[]) n,m (s 7) (jd 117 (t 6)) n,m (s 5) (j5 (t 7)) n]).seq ((o [m (s 8) (j0 (t 5)) n,m (s 9) (j2 136 (t 3) 1) n,m (s 10) (j1 29 (t
 9)) n,m (s 11) (j6 (.mk (.value (.func 53)) #[.tmp 8, .tmp 10] #[115, 29])) n]).seq ((o [m (s 12) (j0 (t 5)) n,m (s 13) (j2 136 (t 3) 2) n,m (s 14) (j1 31 (t 13)) n,m (s 15) (j6 (.mk (.value (.func 43)) #[.tmp 12, .tmp 14] #[115, 31])) n]).seq ((o [m
 (s 16) (j1 79 (t 2)) n,m (s 17) (j2 136 (t 3) 0) n,m (s 18) (j1 22 (t 17)) n,m (s 19) (j0 (t 5)) n,m (s 20) (je (t 19)) n,m (s 21) (j2 117 (t 20) 1) n,m (s 22) (j1 22 (t 21)) n,m (s 23) (.makeFunc (.func 206) #[] #[.tmp 2, .tmp 3, .tmp 4]) n,m (s 24)
 (j6 (.mk (.value (.func 54)) #[.tmp 16, .tmp 18, .tmp 22, .tmp 23] #[79, 22, 22, 88])) n]).seq ((o [m (s 25) (j1 136 (t 4)) n,m n (j7 136 (t 4) (t 25)) n]).seq r)))))
theorem fn135 : FnOk Tryz.prog 135 26 vc135 [ResultVar.cell 4 136] := ⟨Tryz.f135, _, [], Tryz.func135, rfl, rfl, rfl, by kernel_rfl, by kernel_rfl, by kernel_rfl⟩
def vc136 : VCode := (o [m (s 2) (jd 102 (t 0)) n,m (s 3) (jd 102 (t 1)) n,m (s 4) (j5 (.const (.int .i64 0))) n]).seq (((o [m (s 10) (j2 102 (t 2) 0) n,m (s 11) (j1 3 (t 10)) n,m (s 12) (j2 102 (t 3) 0) n,m (s 13) (j1 3 (t 12)) n,m (s 14) (j6 (.mk
 (.value (.func 207)) #[.tmp 11, .tmp 13] #[3, 3])) n,m (s 5) (j5 (t 14)) n]).seq ((o [m (s 15) (j0 (t 5)) n,m (s 16) (j4 .neq 3 (t 15) (.const (.int .i64 0)) 3) n]).seq (c (t 16) ((o [m (s 17) (j0 (t 5)) n,m (s 4) (j5 (t 17)) n]).seq r) k))).seq (((o
 [m (s 18) (j2 102 (t 2) 1) n,m (s 19) (j1 3 (t 18)) n,m (s 20) (j2 102 (t 3) 1) n,m (s 21) (j1 3 (t 20)) n,m (s 22) (j6 (.mk (.value (.func 207)) #[.tmp 19, .tmp 21] #[3, 3])) n,m (s 6) (j5 (t 22)) n]).seq ((o [m (s 23) (j0 (t 6)) n,m (s 24) (j4 .neq
 3 (t 23) (.const (.int .i64 0)) 3) n]).seq (c (t 24) ((o [m (s 25) (j0 (t 6)) n,m (s 4) (j5 (t 25)) n]).seq r) k))).seq (((o [m (s 26) (j2 102 (t 2) 2) n,m (s 27) (j1 100 (t 26)) n,m (s 28) (j6 (.mk (.builtin .len) #[.tmp 27] #[100])) n,m (s 29) (j2
 102 (t 3) 2) n,m (s 30) (j1 100 (t 29)) n,m (s 31) (j6 (.mk (.builtin .len) #[.tmp 30] #[100])) n,m (s 32) (j6 (.mk (.value (.func 207)) #[.tmp 28, .tmp 31] #[3, 3])) n,m (s 7) (j5 (t 32)) n]).seq ((o [m (s 33) (j0 (t 7)) n,m (s 34) (j4 .neq 3 (t 33)
 (.const (.int .i64 0)) 3) n]).seq (c (t 34) ((o [m (s 35) (j0 (t 7)) n,m (s 4) (j5 (t 35)) n]).seq r) k))).seq (((o [m (s 8) (j5 (.const (.int .i64 0))) n]).seq (b 0 (((o [m (s 36) (j0 (t 8)) n,m (s 37) (j2 102 (t 2) 2) n,m (s 38) (j1 100 (t 37)) n,m
 (s 39) (j6 (.mk (.builtin .len) #[.tmp 38] #[100])) n,m (s 40) (j4 .lss 3 (t 36) (t 39) 3) n]).seq (c (t 40) k (VCode.exit 0))).seq ((b 1 ((o [m (s 43) (j2 102 (t 2) 2) n,m (s 44) (j1 100 (t 43)) n,m (s 45) (j0 (t 8)) n,m (s 46) (j3 100 (t 44) (t
 45)) n,m (s 47) (j1 102 (t 46)) n,m (s 48) (j2 102 (t 3) 2) n,m (s 49) (j1 100 (t 48)) n,m (s 50) (j0 (t 8)) n,m (s 51) (j3 100 (t 49) (t 50)) n,m (s 52) (j1 102 (t 51)) n,m (s 53) (j6 (.mk (.value (.func 136)) #[.tmp 47, .tmp 52] #[102, 102])) n,m
 (s 9) (j5 (t 53)) n]).seq ((o [m (s 54) (j0 (t 9)) n,m (s 55) (j4 .neq 3 (t 54) (.const (.int .i64 0)) 3) n]).seq (c (t 55) ((o [m (s 56) (j0 (t 9)) n,m (s 4) (j5 (t 56)) n]).seq r) k)))).seq (o [m (s 41) (j0 (t 8)) n,m (s 42) (j4 .add 3 (t 41)
 (.const (.int .i64 1)) 3) n,m (s 8) (j5 (t 42)) n]))).loop)).seq ((o [m (s 4) (j5 (.const (.int .i64 0))) n]).seq r)))))
theorem fn136 : FnOk Tryz.prog 136 57 vc136 [ResultVar.tmp 4] := ⟨Tryz.f136, _, [], Tryz.func136, rfl, rfl, rfl, by kernel_rfl, by kernel_rfl, by kernel_rfl⟩
def vc137 : VCode := (o [m (s 4) (j5 (.const (.int .i64 0))) n]).seq (((o [m (s 7) (j0 (t 0)) n,m (s 8) (je (t 7)) n,m (s 9) (j2 68 (t 8) 0) n,m (s 10) (j1 66 (t 9)) n,m (s 11) (j6 (.mk (.builtin .len) #[.tmp 10] #[66])) n,m (s 12) (j4 .sub 3 (t 11)
 (.const (.int .i64 1)) 3) n,m (s 5) (j5 (t 12)) n]).seq (b 0 (((o [m (s 13) (j0 (t 5)) n,m (s 14) (j4 .geq 3 (t 13) (.const (.int .i64 0)) 3) n]).seq (c (t 14) k (VCode.exit 0))).seq ((b 1 (((o [m (s 17) (j0 (t 0)) n,m (s 18) (je (t 17)) n,m (s 19)
 (j2 68 (t 18) 0) n,m (s 20) (j1 66 (t 19)) n,m (s 21) (j0 (t 5)) n,m (s 22) (j3 66 (t 20) (t 21)) n,m (s 23) (j2 159 (t 22) 0) n,m (s 24) (j1 3 (t 23)) n,m (s 25) (j0 (t 1)) n,m (s 26) (j4 .neq 3 (t 24) (t 25) 3) n]).seq (c (t 26) (VCode.exit 1)
 k)).seq (((o [m (s 27) (j0 (t 0)) n,m (s 28) (je (t 27)) n,m (s 29) (j2 68 (t 28) 0) n,m (s 30) (j1 66 (t 29)) n,m (s 31) (j0 (t 5)) n,m (s 32) (j3 66 (t 30) (t 31)) n,m (s 33) (j2 159 (t 32) 1) n,m (s 34) (j1 3 (t 33)) n,m (s 35) (j4 .lss 3 (t 34)
 (.const (.int .i64 0)) 3) n]).seq (c (t 35) ((b 2 (((o [m (s 36) (j0 (t 0)) n,m (s 37) (je (t 36)) n,m (s 38) (j2 68 (t 37) 4) n,m (s 39) (j1 22 (t 38)) n,m (s 40) (j0 (t 0)) n,m (s 41) (je (t 40)) n,m (s 42) (j2 68 (t 41) 3) n,m (s 43) (j1 3 (t 42))
 n,m (s 44) (j6 (.mk (.value (.func 138)) #[.tmp 39, .tmp 43] #[22, 3])) n]).seq (c (t 44) k (VCode.exit 2))).seq (b 3 (o [m (s 45) (j0 (t 0)) n,m (s 46) (je (t 45)) n,m (s 47) (j2 68 (t 46) 3) n,m (s 48) (j1 3 (t 47)) n,m (s 49) (j4 .add 3 (t 48)
 (.const (.int .i64 1)) 3) n,m (s 50) (je (t 45)) n,m (s 51) (j2 68 (t 50) 3) n,m n (j7 3 (t 51) (t 49)) n]))).loop).seq ((o [m (s 52) (j0 (t 0)) n,m (s 53) (je (t 52)) n,m (s 54) (j2 68 (t 53) 0) n,m (s 55) (j1 66 (t 54)) n,m (s 56) (j0 (t 5)) n,m (s
 57) (j0 (t 0)) n,m (s 58) (je (t 57)) n,m (s 59) (j2 68 (t 58) 3) n,m (s 60) (j1 3 (t 59)) n,m (s 61) (j3 66 (t 55) (t 56)) n,m (s 62) (j2 159 (t 61) 1) n,m n (j7 3 (t 62) (t 60)) n]).seq (o [m (s 63) (j0 (t 0)) n,m (s 64) (je (t 63)) n,m (s 65) (j2
 68 (t 64) 3) n,m (s 66) (j1 3 (t 65)) n,m (s 67) (j4 .add 3 (t 66) (.const (.int .i64 1)) 3) n,m (s 68) (je (t 63)) n,m (s 69) (j2 68 (t 68) 3) n,m n (j7 3 (t 69) (t 67)) n]))) k)).seq ((o [m (s 70) (j0 (t 0)) n,m (s 71) (je (t 70)) n,m (s 72) (j2 68
 (t 71) 0) n,m (s 73) (j1 66 (t 72)) n,m (s 74) (j0 (t 5)) n,m (s 75) (j3 66 (t 73) (t 74)) n,m (s 76) (j2 159 (t 75) 1) n,m (s 77) (j1 3 (t 76)) n,m (s 4) (j5 (t 77)) n]).seq r)))).seq (o [m (s 15) (j0 (t 5)) n,m (s 16) (j4 .sub 3 (t 15) (.const
 (.int .i64 1)) 3) n,m (s 5) (j5 (t 16)) n]))).loop)).seq ((o [m (s 78) (j0 (t 0)) n,m (s 79) (j0 (t 0)) n,m (s 80) (je (t 79)) n,m (s 81) (j2 68 (t 80) 5) n,m (s 82) (j1 22 (t 81)) n,m (s 83) (j0 (t 1)) n,m (s 84) (j6 (.mk (.value (.func 66)) #[.tmp
 82, .tmp 83] #[22, 3])) n,m (s 85) (je (t 78)) n,m (s 86) (j2 68 (t 85) 5) n,m n (j7 22 (t 86) (t 84)) n]).seq (((o [m (s 6) (j5 (.const (.int .i64 0))) n]).seq (b 4 (((o [m (s 87) (j0 (t 6)) n,m (s 88) (j0 (t 0)) n,m (s 89) (je (t 88)) n,m (s 90)
 (j2 68 (t 89) 1) n,m (s 91) (j1 22 (t 90)) n,m (s 92) (j6 (.mk (.builtin .len) #[.tmp 91] #[22])) n,m (s 93) (j4 .lss 3 (t 87) (t 92) 3) n,m (s 94) (j0 (t 93)) n,m (s 95) (j0 (t 6)) (some (some 94, true)),m (s 96) (j0 (t 0)) (some (some 94, true)),m
 (s 97) (je (t 96)) (some (some 94, true)),m (s 98) (j2 68 (t 97) 2) (some (some 94, true)),m (s 99) (j1 22 (t 98)) (some (some 94, true)),m (s 100) (j6 (.mk (.builtin .len) #[.tmp 99] #[22])) (some (some 94, true)),m (s 101) (j4 .lss 3 (t 95) (t 100)
 3) (some (some 94, true)),m (s 102) (jc (t 94) (t 101) (.const (.bool false))) n]).seq (c (t 102) k (VCode.exit 4))).seq ((b 5 ((o [m (s 105) (j0 (t 0)) n,m (s 106) (je (t 105)) n,m (s 107) (j2 68 (t 106) 1) n,m (s 108) (j1 22 (t 107)) n,m (s 109)
 (j0 (t 6)) n,m (s 110) (j3 22 (t 108) (t 109)) n,m (s 111) (j1 3 (t 110)) n,m (s 112) (j0 (t 1)) n,m (s 113) (j4 .eql 3 (t 111) (t 112) 3) n]).seq (c (t 113) ((o [m (s 114) (j0 (t 0)) n,m (s 115) (je (t 114)) n,m (s 116) (j2 68 (t 115) 2) n,m (s 117)
 (j1 22 (t 116)) n,m (s 118) (j0 (t 6)) n,m (s 119) (j3 22 (t 117) (t 118)) n,m (s 120) (j1 3 (t 119)) n,m (s 4) (j5 (t 120)) n]).seq r) k))).seq (o [m (s 103) (j0 (t 6)) n,m (s 104) (j4 .add 3 (t 103) (.const (.int .i64 1)) 3) n,m (s 6) (j5 (t 104))
 n]))).loop)).seq ((o [m (s 121) (j0 (t 1)) n,m (s 4) (j5 (t 121)) n]).seq r))))
theorem fn137 : FnOk Tryz.prog 137 122 vc137 [ResultVar.tmp 4] := ⟨Tryz.f137, _, [], Tryz.func137, rfl, rfl, rfl, by kernel_rfl, by kernel_rfl, by kernel_rfl⟩
def vc138 : VCode := (o [m (s 4) (j5 (.const (.bool false))) n]).seq (((o [m (s 5) (j5 (.const (.int .i64 0))) n]).seq (b 0 (((o [m (s 6) (j0 (t 5)) n,m (s 7) (j0 (t 0)) n,m (s 8) (j6 (.mk (.builtin .len) #[.tmp 7] #[22])) n,m (s 9) (j4 .lss 3 (t 6)
 (t 8) 3) n]).seq (c (t 9) k (VCode.exit 0))).seq ((b 1 ((o [m (s 12) (j0 (t 0)) n,m (s 13) (j0 (t 5)) n,m (s 14) (j3 22 (t 12) (t 13)) n,m (s 15) (j1 3 (t 14)) n,m (s 16) (j0 (t 1)) n,m (s 17) (j4 .eql 3 (t 15) (t 16) 3) n]).seq (c (t 17) ((o [m (s
 4) (j5 (.const (.bool true))) n]).seq r) k))).seq (o [m (s 10) (j0 (t 5)) n,m (s 11) (j4 .add 3 (t 10) (.const (.int .i64 1)) 3) n,m (s 5) (j5 (t 11)) n]))).loop)).seq ((o [m (s 4) (j5 (.const (.bool false))) n]).seq r))
theorem fn138 : FnOk Tryz.prog 138 18 vc138 [ResultVar.tmp 4] := ⟨Tryz.f138, _, [], Tryz.func138, rfl, rfl, rfl, by kernel_rfl, by kernel_rfl, by kernel_rfl⟩
def vc158 : VCode := (o [m (s 2) (j5 (.const (.slice n 0 0))) n]).seq (((o [m (s 3) (j0 (t 0)) n,m (s 4) (j4 .eql 23 (t 3) (.const (.slice n 0 0)) 23) n]).seq (c (t 4) ((o [m (s 2) (j5 (.const (.slice n 0 0))) n]).seq r) k)).seq ((o [m (s 5) (ja 23 0
 #[]) n,m (s 6) (j0 (t 0)) n,m (s 7) (j6 (.mk (.builtin .append) #[.tmp 5, .tmp 6] #[23, 23])) n,m (s 2) (j5 (t 7)) n]).seq r))
theorem fn158 : FnOk Tryz.prog 158 8 vc158 [ResultVar.tmp 2] := ⟨Tryz.f158, _, [], Tryz.func158, rfl, rfl, rfl, by kernel_rfl, by kernel_rfl, by kernel_rfl⟩
def vc182 : VCode := (o [m (s 2) (jd 102 (t 0)) n,m (s 4) (j5 (.const (.slice n 0 0))) n]).seq ((o [m (s 6) (j0 (t 1)) n,m (s 7) (j9 329 #[(0, .tmp 6)]) n,m (s 8) (jd 329 (t 7)) n,m (s 5) (j5 (t 8)) n]).seq ((o [m (s 9) (j1 102 (t 2)) n,m (s 10) (j0
 (t 5)) n,m (s 11) (.makeFunc (.func 240) #[.tmp 10] #[]) n,m (s 12) (j6 (.mk (.value (.func 239)) #[.tmp 9, .tmp 11] #[102, 231])) n]).seq ((o [m (s 13) (j0 (t 5)) n,m (s 14) (je (t 13)) n,m (s 15) (j2 329 (t 14) 1) n,m (s 16) (j1 22 (t 15)) n,m (s
 4) (j5 (t 16)) n]).seq r)))
theorem fn182 : FnOk Tryz.prog 182 17 vc182 [ResultVar.tmp 4] := ⟨Tryz.f182, _, [], Tryz.func182, rfl, rfl, rfl, by kernel_rfl, by kernel_rfl, by kernel_rfl⟩
def vc192 : VCode := o [m (s 2) (j1 115 (t 0)) n,m (s 3) (j1 115 (t 0)) n,m (s 4) (je (t 3)) n,m (s 5) (j2 117 (t 4) 0) n,m (s 6) (j1 22 (t 5)) n,m (s 7) (j1 3 (t 1)) n,m (s 8) (.slice 22 (t 6) n (some (t 7)) n) n,m (s 9) (je (t 2)) n,m (s 10) (j2 117
 (t 9) 0) n,m n (j7 22 (t 10) (t 8)) n]
theorem fn192 : FnOk Tryz.prog 192 11 vc192 [] := ⟨Tryz.f192, _, [], Tryz.func192, rfl, rfl, rfl, by kernel_rfl, by kernel_rfl, by kernel_rfl⟩
def vc202 : VCode := (o [m (s 2) (j5 (.const (.slice n 0 0))) n]).seq (((o [m (s 3) (j0 (t 0)) n,m (s 4) (j4 .eql 100 (t 3) (.const (.slice n 0 0)) 100) n]).seq (c (t 4) ((o [m (s 2) (j5 (.const (.slice n 0 0))) n]).seq r) k)).seq ((o [m (s 5) (ja 100
 0 #[]) n,m (s 6) (j0 (t 0)) n,m (s 7) (j6 (.mk (.builtin .append) #[.tmp 5, .tmp 6] #[100, 100])) n,m (s 2) (j5 (t 7)) n]).seq r))
theorem fn202 : FnOk Tryz.prog 202 8 vc202 [ResultVar.tmp 2] := ⟨Tryz.f202, _, [], Tryz.func202, rfl, rfl, rfl, by kernel_rfl, by kernel_rfl, by kernel_rfl⟩
def vc204 : VCode := (o [m (s 6) (j0 (t 1)) n,m (s 7) (j6 (.mk (.builtin .len) #[.tmp 6] #[100])) n,m (s 8) (j0 (.const (.int .i64 0))) n]).seq (b 0 ((o [m (s 9) (j4 .lss 3 (t 8) (t 7) 3) n]).seq ((c (t 9) k (VCode.exit 0)).seq ((b 1 ((o [m (s 10) (j3
 100 (t 6) (t 8)) n,m (s 11) (j1 102 (t 10)) n,m (s 5) (j8 102) n,m n (j7 102 (t 5) (t 11)) n]).seq (o [m (s 12) (j0 (t 0)) n,m (s 13) (j1 102 (t 5)) n,m (s 14) (j6 (.mk (.value (.func 129)) #[.tmp 12, .tmp 13] #[115, 102])) n]))).seq (o [m (s 15) (j4
 .add 3 (t 8) (.const (.int .i64 1)) 3) n,m (s 8) (j0 (t 15)) n])))).loop)
theorem fn204 : FnOk Tryz.prog 204 16 vc204 [] := ⟨Tryz.f204, _, [], Tryz.func204, rfl, rfl, rfl, by kernel_rfl, by kernel_rfl, by kernel_rfl⟩
def vc205 : VCode := (o [m (s 2) (j1 115 (t 0)) n,m (s 3) (j2 136 (t 1) 1) n,m (s 4) (j1 29 (t 3)) n,m (s 5) (j6 (.mk (.value (.func 53)) #[.tmp 2, .tmp 4] #[115, 29])) n]).seq (o [m (s 6) (j1 115 (t 0)) n,m (s 7) (j2 136 (t 1) 2) n,m (s 8) (j1 31 (t
 7)) n,m (s 9) (j6 (.mk (.value (.func 43)) #[.tmp 6, .tmp 8] #[115, 31])) n])
theorem fn205 : FnOk Tryz.prog 205 10 vc205 [] := ⟨Tryz.f205, _, [], Tryz.func205, rfl, rfl, rfl, by kernel_rfl, by kernel_rfl, by kernel_rfl⟩
def vc206 : VCode := w [(0,m (s 5) (j0 (t 0)) n), (1,m (s 6) (j1 79 (t 1)) n), (2,m (s 7) (j2 136 (t 2) 1) n), (3,m (s 8) (j1 29 (t 7)) n), (5,m (s 10) (j1 79 (t 1)) n), (6,m (s 11) (j2 136 (t 2) 2) n), (7,m (s 12) (j1 31 (t 11)) n), (4,m (s 9) (j6
 (.mk (.value (.func 56)) #[.tmp 6, .tmp 8] #[79, 29])) n), (8,m (s 13) (j6 (.mk (.value (.func 26)) #[.tmp 10, .tmp 12] #[79, 31])) n), (9,m (s 14) (j9 136 #[(0, .tmp 5), (1, .tmp 9), (2, .tmp 13)]) n), (10,m n (j7 136 (t 3) (t 14)) n)] [(4, [5, 6,
 7])]
theorem fn206 : FnOk Tryz.prog 206 15 vc206 [] := ⟨Tryz.f206, _, [(0, [([0, 1, 2, 3, 5, 6, 7, 4, 8, 9, 10], [(4, [5, 6, 7])])])], Tryz.func206, rfl, rfl, rfl, by kernel_rfl, by
  kernel_rfl, by kernel_rfl⟩
def vc207 : VCode := (o [m (s 4) (j5 (.const (.int .i64 0))) n]).seq (((o [m (s 5) (j0 (t 0)) n,m (s 6) (j0 (t 1)) n,m (s 7) (j4 .lss 3 (t 5) (t 6) 3) n]).seq (c (t 7) ((o [m (s 4) (j5 (.const (.int .i64 (-1)))) n]).seq r) k)).seq (((o [m (s 8) (j0 (t
 0)) n,m (s 9) (j0 (t 1)) n,m (s 10) (j4 .gtr 3 (t 8) (t 9) 3) n]).seq (c (t 10) ((o [m (s 4) (j5 (.const (.int .i64 1))) n]).seq r) k)).seq ((o [m (s 4) (j5 (.const (.int .i64 0))) n]).seq r)))
theorem fn207 : FnOk Tryz.prog 207 11 vc207 [ResultVar.tmp 4] := ⟨Tryz.f207, _, [], Tryz.func207, rfl, rfl, rfl, by kernel_rfl, by kernel_rfl, by kernel_rfl⟩
def vc239 : VCode := (o [m (s 2) (jd 102 (t 0)) n]).seq ((o [m (s 6) (j0 (t 1)) n,m (s 7) (j1 102 (t 2)) n,m (s 8) (j6 (.mk (.value (t 6)) #[.tmp 7] #[102])) n]).seq ((o [m (s 9) (j2 102 (t 2) 2) n,m (s 10) (j1 100 (t 9)) n,m (s 11) (j6 (.mk (.builtin
 .len) #[.tmp 10] #[100])) n,m (s 12) (j0 (.const (.int .i64 0))) n]).seq (b 0 ((o [m (s 13) (j4 .lss 3 (t 12) (t 11) 3) n]).seq ((c (t 13) k (VCode.exit 0)).seq ((b 1 ((o [m (s 14) (j3 100 (t 10) (t 12)) n,m (s 15) (j1 102 (t 14)) n,m (s 5) (j8 102)
 n,m n (j7 102 (t 5) (t 15)) n]).seq (o [m (s 16) (j1 102 (t 5)) n,m (s 17) (j0 (t 1)) n,m (s 18) (j6 (.mk (.value (.func 239)) #[.tmp 16, .tmp 17] #[102, 231])) n]))).seq (o [m (s 19) (j4 .add 3 (t 12) (.const (.int .i64 1)) 3) n,m (s 12) (j0 (t 19))
 n])))).loop)))
theorem fn239 : FnOk Tryz.prog 239 20 vc239 [] := ⟨Tryz.f239, _, [], Tryz.func239, rfl, rfl, rfl, by kernel_rfl, by kernel_rfl, by kernel_rfl⟩
def vc240 : VCode := (o [m (s 3) (jd 102 (t 1)) n]).seq ((o [m (s 4) (j2 102 (t 3) 0) n,m (s 5) (j1 3 (t 4)) n,m (s 6) (j0 (t 0)) n,m (s 7) (je (t 6)) n,m (s 8) (j2 329 (t 7) 0) n,m (s 9) (j1 3 (t 8)) n,m (s 10) (j4 .eql 3 (t 5) (t 9) 3) n,m (s 11)
 (j0 (t 10)) n,m (s 12) (j0 (t 0)) (some (some 11, true)),m (s 13) (je (t 12)) (some (some 11, true)),m (s 14) (j2 329 (t 13) 1) (some (some 11, true)),m (s 15) (j1 22 (t 14)) (some (some 11, true)),m (s 16) (j2 102 (t 3) 1) (some (some 11, true)),m
 (s 17) (j1 3 (t 16)) (some (some 11, true)),m (s 18) (j6 (.mk (.value (.func 23)) #[.tmp 15, .tmp 17] #[22, 3])) (some (some 11, true)),m (s 19) (.unOp .not 4 (t 18)) (some (some 11, true)),m (s 20) (jc (t 11) (t 19) (.const (.bool false))) n]).seq
 (c (t 20) (w [(0,m (s 21) (j0 (t 0)) n), (1,m (s 22) (j0 (t 0)) n), (2,m (s 23) (je (t 22)) n), (3,m (s 24) (j2 329 (t 23) 1) n), (4,m (s 25) (j1 22 (t 24)) n), (5,m (s 26) (j2 102 (t 3) 1) n), (6,m (s 27) (j1 3 (t 26)) n), (7,m (s 28) (ja 22 1 #[(0,
 .tmp 27)]) n), (8,m (s 29) (j6 (.mk (.builtin .append) #[.tmp 25, .tmp 28] #[22, 22])) n), (9,m (s 30) (je (t 21)) n), (10,m (s 31) (j2 329 (t 30) 1) n), (11,m n (j7 22 (t 31) (t 29)) n)] [(7, [2, 3, 4])]) k))
theorem fn240 : FnOk Tryz.prog 240 32 vc240 [] := ⟨Tryz.f240, _, [(2, [([0, 1, 2, 3, 4, 5, 6, 7, 8, 9, 10, 11], [(7, [2, 3, 4])])])], Tryz.func240, rfl, rfl, rfl, by kernel_rfl, by
  kernel_rfl, by kernel_rfl⟩
end Go.Vt.Tryz
