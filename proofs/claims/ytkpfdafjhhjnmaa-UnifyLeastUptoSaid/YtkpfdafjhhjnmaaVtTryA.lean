/- Types and functions of this seat, at the level of values (printed). -/
import Derived.Test.YtkpfdafjhhjnmaaProg
import Derived.Test.YtkpfdafjhhjnmaaVtSeat
set_option maxRecDepth 100000
namespace Go.Vt.Try
open Go.Proofs

theorem ti3 : ti Try.prog 3 = some (TI.mk 1 8 false (some (V.one (L.d (D.int IntKind.i64 (0))))) (TK.int IntKind.i64) [] none) := by kernel_rfl

theorem ti4 : ti Try.prog 4 = some (TI.mk 1 1 false (some (V.one (L.d (D.bool false)))) TK.bool [] none) := by kernel_rfl

theorem ti22 : ti Try.prog 22 = some (TI.mk 1 24 false (some (V.one L.nils)) TK.slice [] (some (EI.mk 7 88 (some (V.agg [L.d (D.int IntKind.i64 (0)), L.d (D.int IntKind.i64 (0)),
  L.d (D.int IntKind.i64 (0)), L.nils, L.d (D.int IntKind.i64 (0)), L.d (D.int IntKind.i64 (0)), L.nils])) true))) := by kernel_rfl

theorem ti24 : ti Try.prog 24 = some (TI.mk 1 8 false (some (V.one (L.d D.nilp))) TK.ptr [] none) := by kernel_rfl

theorem ti27 : ti Try.prog 27 = some (TI.mk 1 24 false (some (V.one L.nils)) TK.slice [] (some (EI.mk 3 40 (some (V.agg [L.d (D.int IntKind.i64 (0)), L.d (D.int IntKind.i64 (0)),
  L.nils])) true))) := by kernel_rfl

theorem ti29 : ti Try.prog 29 = some (TI.mk 3 40 true (some (V.agg [L.d (D.int IntKind.i64 (0)), L.d (D.int IntKind.i64 (0)), L.nils])) TK.struct [(0, 1, false), (1, 1, false), (2,
  1, false)] none) := by kernel_rfl

theorem ti30 : ti Try.prog 30 = some (TI.mk 1 8 false (some (V.one (L.d (D.int IntKind.i64 (0))))) (TK.int IntKind.i64) [] none) := by kernel_rfl

theorem ti39 : ti Try.prog 39 = some (TI.mk 7 88 true (some (V.agg [L.d (D.int IntKind.i64 (0)), L.d (D.int IntKind.i64 (0)), L.d (D.int IntKind.i64 (0)), L.nils, L.d (D.int
  IntKind.i64 (0)), L.d (D.int IntKind.i64 (0)), L.nils])) TK.struct [(0, 1, false), (1, 3, true), (4, 3, true)] none) := by kernel_rfl

theorem ti41 : ti Try.prog 41 = some (TI.mk 1 24 false (some (V.one L.nils)) TK.slice [] (some (EI.mk 1 8 (some (V.one (L.d (D.int IntKind.i64 (0))))) false))) := by kernel_rfl

theorem ti51 : ti Try.prog 51 = some (TI.mk 1 24 false (some (V.one L.nils)) TK.slice [] (some (EI.mk 4 48 (some (V.agg [L.d (D.bool false), L.d (D.int IntKind.i64 (0)), L.d (D.int
  IntKind.i64 (0)), L.nils])) true))) := by kernel_rfl

theorem ti54 : ti Try.prog 54 = some (TI.mk 4 48 true (some (V.agg [L.d (D.bool false), L.d (D.int IntKind.i64 (0)), L.d (D.int IntKind.i64 (0)), L.nils])) TK.struct [(0, 1, false),
  (1, 3, true)] none) := by kernel_rfl

theorem ti56 : ti Try.prog 56 = some (TI.mk 1 24 true (some (V.agg [L.nils])) TK.struct [(0, 1, false)] none) := by kernel_rfl

theorem ti57 : ti Try.prog 57 = some (TI.mk 1 8 false (some (V.one (L.d (D.int IntKind.i64 (0))))) (TK.int IntKind.i64) [] none) := by kernel_rfl

theorem ti59 : ti Try.prog 59 = some (TI.mk 1 8 false (some (V.one (L.d D.nilp))) TK.ptr [] none) := by kernel_rfl

theorem ti62 : ti Try.prog 62 = some (TI.mk 1 8 false (some (V.one (L.d D.nilp))) TK.ptr [] none) := by kernel_rfl

/-- wafer/waferlaw11.UnifyOrder -/
def vc3 : VCode := (VCode.ops [VOp.mk (some 4) (Op.assign (Operand.const (Value.bool false))) none]).seq ((VCode.ops [VOp.mk (some 17) (Op.move (Operand.tmp 0)) none, VOp.mk (some
  18) (Op.call (Call.mk (Callee.builtin Builtin.min) #[Operand.tmp 17, Operand.const (Value.int IntKind.i64 12)] #[3, 3])) none, VOp.mk (some 19) (Op.call (Call.mk (Callee.builtin
  Builtin.max) #[Operand.const (Value.int IntKind.i64 0), Operand.tmp 18] #[3, 3])) none, VOp.mk (some 5) (Op.assign (Operand.tmp 19)) none]).seq (((VCode.ops [VOp.mk (some 20)
  (Op.move (Operand.tmp 1)) none, VOp.mk (some 21) (Op.call (Call.mk (Callee.builtin Builtin.len) #[Operand.tmp 20] #[22])) none, VOp.mk (some 22) (Op.binOp BinOp.gtr 3 (Operand.tmp
  21) (Operand.const (Value.int IntKind.i64 40)) 3) none, VOp.mk (some 23) (Op.move (Operand.tmp 22)) none, VOp.mk (some 24) (Op.call (Call.mk (Callee.value (Operand.func 8)) #[]
  #[])) (some (some 23, false)), VOp.mk (some 25) (Op.unOp UnOp.not 4 (Operand.tmp 24)) (some (some 23, false)), VOp.mk (some 26) (Op.pick (Operand.tmp 23) (Operand.const
  (Value.bool true)) (Operand.tmp 25)) none]).seq (VCode.cond (Operand.tmp 26) ((VCode.ops [VOp.mk (some 27) (Op.call (Call.mk (Callee.value (Operand.func 8)) #[] #[])) none, VOp.mk
  (some 4) (Op.assign (Operand.tmp 27)) none]).seq VCode.ret) VCode.skip)).seq ((VCode.ops [VOp.mk (some 29) (Op.move (Operand.tmp 5)) none, VOp.mk (some 30) (Op.move (Operand.tmp
  1)) none, VOp.mk (some 31) (Op.call (Call.mk (Callee.value (Operand.func 9)) #[Operand.tmp 29, Operand.tmp 30, Operand.const (Value.bool false), Operand.const (Value.bool false)]
  #[3, 22, 4, 4])) none, VOp.mk (some 28) (Op.move (Operand.tmp 31)) none, VOp.mk (some 32) (Op.extract (Operand.tmp 28) 0) none, VOp.mk (some 33) (Op.extract (Operand.tmp 28) 1)
  none, VOp.mk (some 6) (Op.assign (Operand.tmp 32)) none, VOp.mk (some 7) (Op.assign (Operand.tmp 33)) none]).seq ((VCode.ops [VOp.mk (some 35) (Op.move (Operand.tmp 5)) none,
  VOp.mk (some 36) (Op.move (Operand.tmp 1)) none, VOp.mk (some 37) (Op.call (Call.mk (Callee.value (Operand.func 9)) #[Operand.tmp 35, Operand.tmp 36, Operand.const (Value.bool
  true), Operand.const (Value.bool true)] #[3, 22, 4, 4])) none, VOp.mk (some 34) (Op.move (Operand.tmp 37)) none, VOp.mk (some 38) (Op.extract (Operand.tmp 34) 0) none, VOp.mk
  (some 39) (Op.extract (Operand.tmp 34) 1) none, VOp.mk (some 8) (Op.assign (Operand.tmp 38)) none, VOp.mk (some 9) (Op.assign (Operand.tmp 39)) none]).seq (((VCode.ops [VOp.mk
  (some 40) (Op.move (Operand.tmp 7)) none, VOp.mk (some 41) (Op.move (Operand.tmp 9)) none, VOp.mk (some 42) (Op.binOp BinOp.neq 4 (Operand.tmp 40) (Operand.tmp 41) 4) none]).seq
  (VCode.cond (Operand.tmp 42) ((VCode.ops [VOp.mk (some 4) (Op.assign (Operand.const (Value.bool false))) none]).seq VCode.ret) VCode.skip)).seq (((VCode.ops [VOp.mk (some 43)
  (Op.move (Operand.tmp 7)) none, VOp.mk (some 44) (Op.unOp UnOp.not 4 (Operand.tmp 43)) none]).seq (VCode.cond (Operand.tmp 44) ((VCode.ops [VOp.mk (some 4) (Op.assign
  (Operand.const (Value.bool true))) none]).seq VCode.ret) VCode.skip)).seq (((VCode.ops [VOp.mk (some 10) (Op.assign (Operand.const (Value.int IntKind.i64 0))) none]).seq
  (VCode.block 0 (((VCode.ops [VOp.mk (some 45) (Op.move (Operand.tmp 10)) none, VOp.mk (some 46) (Op.move (Operand.tmp 5)) none, VOp.mk (some 47) (Op.binOp BinOp.lss 3 (Operand.tmp
  45) (Operand.tmp 46) 3) none]).seq (VCode.cond (Operand.tmp 47) VCode.skip (VCode.exit 0))).seq ((VCode.block 1 ((VCode.ops [VOp.mk (some 51) (Op.move (Operand.tmp 6)) none,
  VOp.mk (some 52) (Op.move (Operand.tmp 10)) none, VOp.mk (some 53) (Op.call (Call.mk (Callee.value (Operand.func 11)) #[Operand.tmp 52] #[3])) none, VOp.mk (some 54) (Op.call
  (Call.mk (Callee.value (Operand.func 10)) #[Operand.tmp 51, Operand.tmp 53] #[24, 29])) none, VOp.mk (some 50) (Op.move (Operand.tmp 54)) none, VOp.mk (some 55) (Op.extract
  (Operand.tmp 50) 0) none, VOp.mk (some 56) (Op.extract (Operand.tmp 50) 1) none, VOp.mk (some 11) (Op.alloc 29) none, VOp.mk none (Op.store 29 (Operand.tmp 11) (Operand.tmp 55))
  none, VOp.mk (some 12) (Op.assign (Operand.tmp 56)) none]).seq ((VCode.ops [VOp.mk (some 58) (Op.move (Operand.tmp 8)) none, VOp.mk (some 59) (Op.move (Operand.tmp 10)) none,
  VOp.mk (some 60) (Op.call (Call.mk (Callee.value (Operand.func 11)) #[Operand.tmp 59] #[3])) none, VOp.mk (some 61) (Op.call (Call.mk (Callee.value (Operand.func 10))
  #[Operand.tmp 58, Operand.tmp 60] #[24, 29])) none, VOp.mk (some 57) (Op.move (Operand.tmp 61)) none, VOp.mk (some 62) (Op.extract (Operand.tmp 57) 0) none, VOp.mk (some 63)
  (Op.extract (Operand.tmp 57) 1) none, VOp.mk (some 13) (Op.alloc 29) none, VOp.mk none (Op.store 29 (Operand.tmp 13) (Operand.tmp 62)) none, VOp.mk (some 14) (Op.assign
  (Operand.tmp 63)) none]).seq (((VCode.opsW [(0, VOp.mk (some 64) (Op.move (Operand.tmp 12)) none), (1, VOp.mk (some 65) (Op.binOp BinOp.neq 30 (Operand.tmp 64) (Operand.const
  (Value.int IntKind.i64 0)) 30) none), (2, VOp.mk (some 66) (Op.move (Operand.tmp 65)) none), (3, VOp.mk (some 67) (Op.move (Operand.tmp 14)) (some (some 66, false))), (4, VOp.mk
  (some 68) (Op.binOp BinOp.neq 30 (Operand.tmp 67) (Operand.const (Value.int IntKind.i64 0)) 30) (some (some 66, false))), (5, VOp.mk (some 69) (Op.pick (Operand.tmp 66)
  (Operand.const (Value.bool true)) (Operand.tmp 68)) none), (6, VOp.mk (some 70) (Op.move (Operand.tmp 69)) none), (7, VOp.mk (some 71) (Op.load 29 (Operand.tmp 11)) (some (some
  70, false))), (8, VOp.mk (some 72) (Op.load 29 (Operand.tmp 13)) (some (some 70, false))), (9, VOp.mk (some 73) (Op.call (Call.mk (Callee.value (Operand.func 12)) #[Operand.tmp
  71, Operand.tmp 72] #[29, 29])) (some (some 70, false))), (10, VOp.mk (some 74) (Op.unOp UnOp.not 4 (Operand.tmp 73)) (some (some 70, false))), (11, VOp.mk (some 75) (Op.pick
  (Operand.tmp 70) (Operand.const (Value.bool true)) (Operand.tmp 74)) none), (12, VOp.mk (some 76) (Op.move (Operand.tmp 75)) none), (13, VOp.mk (some 77) (Op.move (Operand.tmp 6))
  (some (some 76, false))), (14, VOp.mk (some 78) (Op.move (Operand.tmp 10)) (some (some 76, false))), (16, VOp.mk (some 80) (Op.load 29 (Operand.tmp 11)) (some (some 76, false))),
  (15, VOp.mk (some 79) (Op.call (Call.mk (Callee.value (Operand.func 11)) #[Operand.tmp 78] #[3])) (some (some 76, false))), (17, VOp.mk (some 81) (Op.call (Call.mk (Callee.value
  (Operand.func 13)) #[Operand.tmp 77, Operand.tmp 79, Operand.tmp 80] #[24, 29, 29])) (some (some 76, false))), (18, VOp.mk (some 82) (Op.binOp BinOp.neq 30 (Operand.tmp 81)
  (Operand.const (Value.int IntKind.i64 0)) 30) (some (some 76, false))), (19, VOp.mk (some 83) (Op.pick (Operand.tmp 76) (Operand.const (Value.bool true)) (Operand.tmp 82)) none)]
  [(15, [16])]).seq (VCode.cond (Operand.tmp 83) ((VCode.ops [VOp.mk (some 4) (Op.assign (Operand.const (Value.bool false))) none]).seq VCode.ret) VCode.skip)).seq ((VCode.ops
  [VOp.mk (some 85) (Op.move (Operand.tmp 6)) none, VOp.mk (some 86) (Op.move (Operand.tmp 10)) none, VOp.mk (some 87) (Op.call (Call.mk (Callee.value (Operand.func 11))
  #[Operand.tmp 86] #[3])) none, VOp.mk (some 88) (Op.call (Call.mk (Callee.value (Operand.func 10)) #[Operand.tmp 85, Operand.tmp 87] #[24, 29])) none, VOp.mk (some 84) (Op.move
  (Operand.tmp 88)) none, VOp.mk (some 89) (Op.extract (Operand.tmp 84) 0) none, VOp.mk (some 90) (Op.extract (Operand.tmp 84) 1) none, VOp.mk (some 15) (Op.alloc 29) none, VOp.mk
  none (Op.store 29 (Operand.tmp 15) (Operand.tmp 89)) none, VOp.mk (some 16) (Op.assign (Operand.tmp 90)) none]).seq ((VCode.ops [VOp.mk (some 91) (Op.move (Operand.tmp 16)) none,
  VOp.mk (some 92) (Op.binOp BinOp.neq 30 (Operand.tmp 91) (Operand.const (Value.int IntKind.i64 0)) 30) none, VOp.mk (some 93) (Op.move (Operand.tmp 92)) none, VOp.mk (some 94)
  (Op.load 29 (Operand.tmp 11)) (some (some 93, false)), VOp.mk (some 95) (Op.load 29 (Operand.tmp 15)) (some (some 93, false)), VOp.mk (some 96) (Op.call (Call.mk (Callee.value
  (Operand.func 12)) #[Operand.tmp 94, Operand.tmp 95] #[29, 29])) (some (some 93, false)), VOp.mk (some 97) (Op.unOp UnOp.not 4 (Operand.tmp 96)) (some (some 93, false)), VOp.mk
  (some 98) (Op.pick (Operand.tmp 93) (Operand.const (Value.bool true)) (Operand.tmp 97)) none]).seq (VCode.cond (Operand.tmp 98) ((VCode.ops [VOp.mk (some 4) (Op.assign
  (Operand.const (Value.bool false))) none]).seq VCode.ret) VCode.skip))))))).seq (VCode.ops [VOp.mk (some 48) (Op.move (Operand.tmp 10)) none, VOp.mk (some 49) (Op.binOp BinOp.add
  3 (Operand.tmp 48) (Operand.const (Value.int IntKind.i64 1)) 3) none, VOp.mk (some 10) (Op.assign (Operand.tmp 49)) none]))).loop)).seq ((VCode.ops [VOp.mk (some 4) (Op.assign
  (Operand.const (Value.bool true))) none]).seq VCode.ret))))))))
theorem fn3 : FnOk Try.prog 3 99 vc3 [ResultVar.tmp 4] := ⟨Try.f3, _, [(15, [([0, 1, 2, 3, 4, 5, 6, 7, 8, 9, 10, 11, 12, 13, 14, 16, 15, 17, 18, 19], [(15, [16])])])], Try.func3,
  rfl, rfl, rfl, by kernel_rfl, by kernel_rfl, by kernel_rfl⟩

/-- wafer/waferlaw11.UnifyLeast -/
def vc4 : VCode := (VCode.ops [VOp.mk (some 4) (Op.assign (Operand.const (Value.bool false))) none]).seq (((VCode.ops [VOp.mk (some 19) (Op.move (Operand.tmp 1)) none, VOp.mk (some
  20) (Op.call (Call.mk (Callee.builtin Builtin.len) #[Operand.tmp 19] #[27])) none, VOp.mk (some 21) (Op.binOp BinOp.gtr 3 (Operand.tmp 20) (Operand.const (Value.int IntKind.i64
  12)) 3) none, VOp.mk (some 22) (Op.move (Operand.tmp 21)) none, VOp.mk (some 23) (Op.move (Operand.tmp 0)) (some (some 22, false)), VOp.mk (some 24) (Op.call (Call.mk
  (Callee.builtin Builtin.len) #[Operand.tmp 23] #[22])) (some (some 22, false)), VOp.mk (some 25) (Op.binOp BinOp.gtr 3 (Operand.tmp 24) (Operand.const (Value.int IntKind.i64 40))
  3) (some (some 22, false)), VOp.mk (some 26) (Op.pick (Operand.tmp 22) (Operand.const (Value.bool true)) (Operand.tmp 25)) none, VOp.mk (some 27) (Op.move (Operand.tmp 26)) none,
  VOp.mk (some 28) (Op.call (Call.mk (Callee.value (Operand.func 8)) #[] #[])) (some (some 27, false)), VOp.mk (some 29) (Op.unOp UnOp.not 4 (Operand.tmp 28)) (some (some 27,
  false)), VOp.mk (some 30) (Op.pick (Operand.tmp 27) (Operand.const (Value.bool true)) (Operand.tmp 29)) none]).seq (VCode.cond (Operand.tmp 30) ((VCode.ops [VOp.mk (some 31)
  (Op.call (Call.mk (Callee.value (Operand.func 8)) #[] #[])) none, VOp.mk (some 4) (Op.assign (Operand.tmp 31)) none]).seq VCode.ret) VCode.skip)).seq ((VCode.ops [VOp.mk (some 5)
  (Op.assign (Operand.const (Value.bool true))) none]).seq (((VCode.ops [VOp.mk (some 6) (Op.assign (Operand.const (Value.int IntKind.i64 0))) none]).seq (VCode.block 0 (((VCode.ops
  [VOp.mk (some 32) (Op.move (Operand.tmp 6)) none, VOp.mk (some 33) (Op.move (Operand.tmp 0)) none, VOp.mk (some 34) (Op.call (Call.mk (Callee.builtin Builtin.len) #[Operand.tmp
  33] #[22])) none, VOp.mk (some 35) (Op.binOp BinOp.lss 3 (Operand.tmp 32) (Operand.tmp 34) 3) none]).seq (VCode.cond (Operand.tmp 35) VCode.skip (VCode.exit 0))).seq ((VCode.block
  1 (VCode.opsW [(0, VOp.mk (some 38) (Op.move (Operand.tmp 5)) none), (1, VOp.mk (some 39) (Op.move (Operand.tmp 38)) none), (2, VOp.mk (some 40) (Op.move (Operand.tmp 0)) (some
  (some 39, true))), (3, VOp.mk (some 41) (Op.move (Operand.tmp 6)) (some (some 39, true))), (4, VOp.mk (some 42) (Op.indexAddr 22 (Operand.tmp 40) (Operand.tmp 41)) (some (some 39,
  true))), (5, VOp.mk (some 43) (Op.fieldAddr 39 (Operand.tmp 42) 1) (some (some 39, true))), (6, VOp.mk (some 44) (Op.load 29 (Operand.tmp 43)) (some (some 39, true))), (7, VOp.mk
  (some 45) (Op.move (Operand.tmp 1)) (some (some 39, true))), (9, VOp.mk (some 47) (Op.move (Operand.tmp 0)) (some (some 39, true))), (10, VOp.mk (some 48) (Op.move (Operand.tmp
  6)) (some (some 39, true))), (11, VOp.mk (some 49) (Op.indexAddr 22 (Operand.tmp 47) (Operand.tmp 48)) (some (some 39, true))), (12, VOp.mk (some 50) (Op.fieldAddr 39 (Operand.tmp
  49) 2) (some (some 39, true))), (13, VOp.mk (some 51) (Op.load 29 (Operand.tmp 50)) (some (some 39, true))), (14, VOp.mk (some 52) (Op.move (Operand.tmp 1)) (some (some 39,
  true))), (8, VOp.mk (some 46) (Op.call (Call.mk (Callee.value (Operand.func 14)) #[Operand.tmp 44, Operand.tmp 45] #[29, 27])) (some (some 39, true))), (15, VOp.mk (some 53)
  (Op.call (Call.mk (Callee.value (Operand.func 14)) #[Operand.tmp 51, Operand.tmp 52] #[29, 27])) (some (some 39, true))), (16, VOp.mk (some 54) (Op.call (Call.mk (Callee.value
  (Operand.func 12)) #[Operand.tmp 46, Operand.tmp 53] #[29, 29])) (some (some 39, true))), (17, VOp.mk (some 55) (Op.pick (Operand.tmp 39) (Operand.tmp 54) (Operand.const
  (Value.bool false))) none), (18, VOp.mk (some 5) (Op.assign (Operand.tmp 55)) none)] [(8, [11, 12, 13])])).seq (VCode.ops [VOp.mk (some 36) (Op.move (Operand.tmp 6)) none, VOp.mk
  (some 37) (Op.binOp BinOp.add 3 (Operand.tmp 36) (Operand.const (Value.int IntKind.i64 1)) 3) none, VOp.mk (some 6) (Op.assign (Operand.tmp 37)) none]))).loop)).seq ((VCode.ops
  [VOp.mk (some 7) (Op.assign (Operand.const (Value.bool true))) none]).seq (((VCode.ops [VOp.mk (some 8) (Op.assign (Operand.const (Value.int IntKind.i64 0))) none]).seq
  (VCode.block 2 (((VCode.ops [VOp.mk (some 56) (Op.move (Operand.tmp 8)) none, VOp.mk (some 57) (Op.move (Operand.tmp 1)) none, VOp.mk (some 58) (Op.call (Call.mk (Callee.builtin
  Builtin.len) #[Operand.tmp 57] #[27])) none, VOp.mk (some 59) (Op.binOp BinOp.lss 3 (Operand.tmp 56) (Operand.tmp 58) 3) none]).seq (VCode.cond (Operand.tmp 59) VCode.skip
  (VCode.exit 2))).seq ((VCode.block 3 (VCode.ops [VOp.mk (some 62) (Op.move (Operand.tmp 7)) none, VOp.mk (some 63) (Op.move (Operand.tmp 62)) none, VOp.mk (some 64) (Op.move
  (Operand.tmp 1)) (some (some 63, true)), VOp.mk (some 65) (Op.move (Operand.tmp 8)) (some (some 63, true)), VOp.mk (some 66) (Op.indexAddr 27 (Operand.tmp 64) (Operand.tmp 65))
  (some (some 63, true)), VOp.mk (some 67) (Op.load 29 (Operand.tmp 66)) (some (some 63, true)), VOp.mk (some 68) (Op.call (Call.mk (Callee.value (Operand.func 15)) #[Operand.tmp
  67] #[29])) (some (some 63, true)), VOp.mk (some 69) (Op.binOp BinOp.leq 3 (Operand.tmp 68) (Operand.const (Value.int IntKind.i64 1000)) 3) (some (some 63, true)), VOp.mk (some
  70) (Op.pick (Operand.tmp 63) (Operand.tmp 69) (Operand.const (Value.bool false))) none, VOp.mk (some 71) (Op.move (Operand.tmp 70)) none, VOp.mk (some 72) (Op.move (Operand.tmp
  1)) (some (some 71, true)), VOp.mk (some 73) (Op.move (Operand.tmp 8)) (some (some 71, true)), VOp.mk (some 74) (Op.indexAddr 27 (Operand.tmp 72) (Operand.tmp 73)) (some (some 71,
  true)), VOp.mk (some 75) (Op.load 29 (Operand.tmp 74)) (some (some 71, true)), VOp.mk (some 76) (Op.call (Call.mk (Callee.value (Operand.func 16)) #[Operand.tmp 75] #[29])) (some
  (some 71, true)), VOp.mk (some 77) (Op.call (Call.mk (Callee.builtin Builtin.len) #[Operand.tmp 76] #[41])) (some (some 71, true)), VOp.mk (some 78) (Op.binOp BinOp.eql 3
  (Operand.tmp 77) (Operand.const (Value.int IntKind.i64 0)) 3) (some (some 71, true)), VOp.mk (some 79) (Op.pick (Operand.tmp 71) (Operand.tmp 78) (Operand.const (Value.bool
  false))) none, VOp.mk (some 7) (Op.assign (Operand.tmp 79)) none])).seq (VCode.ops [VOp.mk (some 60) (Op.move (Operand.tmp 8)) none, VOp.mk (some 61) (Op.binOp BinOp.add 3
  (Operand.tmp 60) (Operand.const (Value.int IntKind.i64 1)) 3) none, VOp.mk (some 8) (Op.assign (Operand.tmp 61)) none]))).loop)).seq ((VCode.ops [VOp.mk (some 81) (Op.move
  (Operand.tmp 1)) none, VOp.mk (some 82) (Op.call (Call.mk (Callee.builtin Builtin.len) #[Operand.tmp 81] #[27])) none, VOp.mk (some 83) (Op.move (Operand.tmp 0)) none, VOp.mk
  (some 84) (Op.call (Call.mk (Callee.value (Operand.func 9)) #[Operand.tmp 82, Operand.tmp 83, Operand.const (Value.bool false), Operand.const (Value.bool false)] #[3, 22, 4, 4]))
  none, VOp.mk (some 80) (Op.move (Operand.tmp 84)) none, VOp.mk (some 85) (Op.extract (Operand.tmp 80) 0) none, VOp.mk (some 86) (Op.extract (Operand.tmp 80) 1) none, VOp.mk (some
  9) (Op.assign (Operand.tmp 85)) none, VOp.mk (some 10) (Op.assign (Operand.tmp 86)) none]).seq (((VCode.ops [VOp.mk (some 87) (Op.move (Operand.tmp 5)) none, VOp.mk (some 88)
  (Op.move (Operand.tmp 87)) none, VOp.mk (some 89) (Op.move (Operand.tmp 7)) (some (some 88, true)), VOp.mk (some 90) (Op.pick (Operand.tmp 88) (Operand.tmp 89) (Operand.const
  (Value.bool false))) none, VOp.mk (some 91) (Op.move (Operand.tmp 90)) none, VOp.mk (some 92) (Op.move (Operand.tmp 10)) (some (some 91, true)), VOp.mk (some 93) (Op.unOp UnOp.not
  4 (Operand.tmp 92)) (some (some 91, true)), VOp.mk (some 94) (Op.pick (Operand.tmp 91) (Operand.tmp 93) (Operand.const (Value.bool false))) none]).seq (VCode.cond (Operand.tmp 94)
  ((VCode.ops [VOp.mk (some 4) (Op.assign (Operand.const (Value.bool false))) none]).seq VCode.ret) VCode.skip)).seq (((VCode.ops [VOp.mk (some 95) (Op.move (Operand.tmp 10)) none,
  VOp.mk (some 96) (Op.unOp UnOp.not 4 (Operand.tmp 95)) none]).seq (VCode.cond (Operand.tmp 96) ((VCode.ops [VOp.mk (some 4) (Op.assign (Operand.const (Value.bool true)))
  none]).seq VCode.ret) VCode.skip)).seq (((VCode.ops [VOp.mk (some 11) (Op.assign (Operand.const (Value.int IntKind.i64 0))) none]).seq (VCode.block 4 (((VCode.ops [VOp.mk (some
  97) (Op.move (Operand.tmp 11)) none, VOp.mk (some 98) (Op.move (Operand.tmp 0)) none, VOp.mk (some 99) (Op.call (Call.mk (Callee.builtin Builtin.len) #[Operand.tmp 98] #[22]))
  none, VOp.mk (some 100) (Op.binOp BinOp.lss 3 (Operand.tmp 97) (Operand.tmp 99) 3) none]).seq (VCode.cond (Operand.tmp 100) VCode.skip (VCode.exit 4))).seq ((VCode.block 5
  ((VCode.ops [VOp.mk (some 104) (Op.move (Operand.tmp 9)) none, VOp.mk (some 105) (Op.move (Operand.tmp 0)) none, VOp.mk (some 106) (Op.move (Operand.tmp 11)) none, VOp.mk (some
  107) (Op.indexAddr 22 (Operand.tmp 105) (Operand.tmp 106)) none, VOp.mk (some 108) (Op.fieldAddr 39 (Operand.tmp 107) 1) none, VOp.mk (some 109) (Op.load 29 (Operand.tmp 108))
  none, VOp.mk (some 110) (Op.call (Call.mk (Callee.value (Operand.func 10)) #[Operand.tmp 104, Operand.tmp 109] #[24, 29])) none, VOp.mk (some 103) (Op.move (Operand.tmp 110))
  none, VOp.mk (some 111) (Op.extract (Operand.tmp 103) 0) none, VOp.mk (some 112) (Op.extract (Operand.tmp 103) 1) none, VOp.mk (some 12) (Op.alloc 29) none, VOp.mk none (Op.store
  29 (Operand.tmp 12) (Operand.tmp 111)) none, VOp.mk (some 13) (Op.assign (Operand.tmp 112)) none]).seq ((VCode.ops [VOp.mk (some 114) (Op.move (Operand.tmp 9)) none, VOp.mk (some
  115) (Op.move (Operand.tmp 0)) none, VOp.mk (some 116) (Op.move (Operand.tmp 11)) none, VOp.mk (some 117) (Op.indexAddr 22 (Operand.tmp 115) (Operand.tmp 116)) none, VOp.mk (some
  118) (Op.fieldAddr 39 (Operand.tmp 117) 2) none, VOp.mk (some 119) (Op.load 29 (Operand.tmp 118)) none, VOp.mk (some 120) (Op.call (Call.mk (Callee.value (Operand.func 10))
  #[Operand.tmp 114, Operand.tmp 119] #[24, 29])) none, VOp.mk (some 113) (Op.move (Operand.tmp 120)) none, VOp.mk (some 121) (Op.extract (Operand.tmp 113) 0) none, VOp.mk (some
  122) (Op.extract (Operand.tmp 113) 1) none, VOp.mk (some 14) (Op.alloc 29) none, VOp.mk none (Op.store 29 (Operand.tmp 14) (Operand.tmp 121)) none, VOp.mk (some 15) (Op.assign
  (Operand.tmp 122)) none]).seq ((VCode.ops [VOp.mk (some 123) (Op.move (Operand.tmp 13)) none, VOp.mk (some 124) (Op.move (Operand.tmp 15)) none, VOp.mk (some 125) (Op.binOp
  BinOp.neq 30 (Operand.tmp 123) (Operand.tmp 124) 30) none, VOp.mk (some 126) (Op.move (Operand.tmp 125)) none, VOp.mk (some 127) (Op.load 29 (Operand.tmp 12)) (some (some 126,
  false)), VOp.mk (some 128) (Op.load 29 (Operand.tmp 14)) (some (some 126, false)), VOp.mk (some 129) (Op.call (Call.mk (Callee.value (Operand.func 12)) #[Operand.tmp 127,
  Operand.tmp 128] #[29, 29])) (some (some 126, false)), VOp.mk (some 130) (Op.unOp UnOp.not 4 (Operand.tmp 129)) (some (some 126, false)), VOp.mk (some 131) (Op.pick (Operand.tmp
  126) (Operand.const (Value.bool true)) (Operand.tmp 130)) none]).seq (VCode.cond (Operand.tmp 131) ((VCode.ops [VOp.mk (some 4) (Op.assign (Operand.const (Value.bool false)))
  none]).seq VCode.ret) VCode.skip))))).seq (VCode.ops [VOp.mk (some 101) (Op.move (Operand.tmp 11)) none, VOp.mk (some 102) (Op.binOp BinOp.add 3 (Operand.tmp 101) (Operand.const
  (Value.int IntKind.i64 1)) 3) none, VOp.mk (some 11) (Op.assign (Operand.tmp 102)) none]))).loop)).seq (((VCode.ops [VOp.mk (some 16) (Op.assign (Operand.const (Value.int
  IntKind.i64 0))) none]).seq (VCode.block 6 (((VCode.ops [VOp.mk (some 132) (Op.move (Operand.tmp 5)) none, VOp.mk (some 133) (Op.move (Operand.tmp 132)) none, VOp.mk (some 134)
  (Op.move (Operand.tmp 7)) (some (some 133, true)), VOp.mk (some 135) (Op.pick (Operand.tmp 133) (Operand.tmp 134) (Operand.const (Value.bool false))) none, VOp.mk (some 136)
  (Op.move (Operand.tmp 135)) none, VOp.mk (some 137) (Op.move (Operand.tmp 16)) (some (some 136, true)), VOp.mk (some 138) (Op.move (Operand.tmp 1)) (some (some 136, true)), VOp.mk
  (some 139) (Op.call (Call.mk (Callee.builtin Builtin.len) #[Operand.tmp 138] #[27])) (some (some 136, true)), VOp.mk (some 140) (Op.binOp BinOp.lss 3 (Operand.tmp 137)
  (Operand.tmp 139) 3) (some (some 136, true)), VOp.mk (some 141) (Op.pick (Operand.tmp 136) (Operand.tmp 140) (Operand.const (Value.bool false))) none]).seq (VCode.cond
  (Operand.tmp 141) VCode.skip (VCode.exit 6))).seq ((VCode.block 7 ((VCode.ops [VOp.mk (some 145) (Op.move (Operand.tmp 9)) none, VOp.mk (some 146) (Op.move (Operand.tmp 16)) none,
  VOp.mk (some 147) (Op.call (Call.mk (Callee.value (Operand.func 11)) #[Operand.tmp 146] #[3])) none, VOp.mk (some 148) (Op.call (Call.mk (Callee.value (Operand.func 10))
  #[Operand.tmp 145, Operand.tmp 147] #[24, 29])) none, VOp.mk (some 144) (Op.move (Operand.tmp 148)) none, VOp.mk (some 149) (Op.extract (Operand.tmp 144) 0) none, VOp.mk (some
  150) (Op.extract (Operand.tmp 144) 1) none, VOp.mk (some 17) (Op.alloc 29) none, VOp.mk none (Op.store 29 (Operand.tmp 17) (Operand.tmp 149)) none, VOp.mk (some 18) (Op.assign
  (Operand.tmp 150)) none]).seq ((VCode.opsW [(0, VOp.mk (some 151) (Op.move (Operand.tmp 18)) none), (1, VOp.mk (some 152) (Op.binOp BinOp.neq 30 (Operand.tmp 151) (Operand.const
  (Value.int IntKind.i64 0)) 30) none), (2, VOp.mk (some 153) (Op.move (Operand.tmp 152)) none), (3, VOp.mk (some 154) (Op.load 29 (Operand.tmp 17)) (some (some 153, false))), (4,
  VOp.mk (some 155) (Op.move (Operand.tmp 1)) (some (some 153, false))), (6, VOp.mk (some 157) (Op.move (Operand.tmp 1)) (some (some 153, false))), (7, VOp.mk (some 158) (Op.move
  (Operand.tmp 16)) (some (some 153, false))), (8, VOp.mk (some 159) (Op.indexAddr 27 (Operand.tmp 157) (Operand.tmp 158)) (some (some 153, false))), (9, VOp.mk (some 160) (Op.load
  29 (Operand.tmp 159)) (some (some 153, false))), (5, VOp.mk (some 156) (Op.call (Call.mk (Callee.value (Operand.func 14)) #[Operand.tmp 154, Operand.tmp 155] #[29, 27])) (some
  (some 153, false))), (10, VOp.mk (some 161) (Op.call (Call.mk (Callee.value (Operand.func 12)) #[Operand.tmp 156, Operand.tmp 160] #[29, 29])) (some (some 153, false))), (11,
  VOp.mk (some 162) (Op.unOp UnOp.not 4 (Operand.tmp 161)) (some (some 153, false))), (12, VOp.mk (some 163) (Op.pick (Operand.tmp 153) (Operand.const (Value.bool true))
  (Operand.tmp 162)) none)] [(5, [8, 9])]).seq (VCode.cond (Operand.tmp 163) ((VCode.ops [VOp.mk (some 4) (Op.assign (Operand.const (Value.bool false))) none]).seq VCode.ret)
  VCode.skip)))).seq (VCode.ops [VOp.mk (some 142) (Op.move (Operand.tmp 16)) none, VOp.mk (some 143) (Op.binOp BinOp.add 3 (Operand.tmp 142) (Operand.const (Value.int IntKind.i64
  1)) 3) none, VOp.mk (some 16) (Op.assign (Operand.tmp 143)) none]))).loop)).seq ((VCode.ops [VOp.mk (some 4) (Op.assign (Operand.const (Value.bool true))) none]).seq
  VCode.ret)))))))))))
theorem fn4 : FnOk Try.prog 4 164 vc4 [ResultVar.tmp 4] := ⟨Try.f4, _, [(7, [([0, 1, 2, 3, 4, 5, 6, 7, 9, 10, 11, 12, 13, 14, 8, 15, 16, 17, 18], [(8, [11, 12, 13])])]), (29, [([0,
  1, 2, 3, 4, 6, 7, 8, 9, 5, 10, 11, 12], [(5, [8, 9])])])], Try.func4, rfl, rfl, rfl, by kernel_rfl, by kernel_rfl, by kernel_rfl⟩

/-- wafer/waferlaw11.UnifyGrows -/
def vc5 : VCode := (VCode.ops [VOp.mk (some 4) (Op.assign (Operand.const (Value.bool false))) none]).seq ((VCode.ops [VOp.mk (some 18) (Op.move (Operand.tmp 0)) none, VOp.mk (some
  19) (Op.call (Call.mk (Callee.value (Operand.func 9)) #[Operand.const (Value.int IntKind.i64 6), Operand.tmp 18, Operand.const (Value.bool false), Operand.const (Value.bool
  false)] #[3, 22, 4, 4])) none, VOp.mk (some 17) (Op.move (Operand.tmp 19)) none, VOp.mk (some 20) (Op.extract (Operand.tmp 17) 0) none, VOp.mk (some 21) (Op.extract (Operand.tmp
  17) 1) none, VOp.mk (some 5) (Op.assign (Operand.tmp 20)) none, VOp.mk (some 6) (Op.assign (Operand.tmp 21)) none]).seq (((VCode.ops [VOp.mk (some 22) (Op.move (Operand.tmp 5))
  none, VOp.mk (some 23) (Op.binOp BinOp.eql 24 (Operand.tmp 22) (Operand.const (Value.pointer none)) 24) none, VOp.mk (some 24) (Op.move (Operand.tmp 23)) none, VOp.mk (some 25)
  (Op.call (Call.mk (Callee.value (Operand.func 8)) #[] #[])) (some (some 24, false)), VOp.mk (some 26) (Op.unOp UnOp.not 4 (Operand.tmp 25)) (some (some 24, false)), VOp.mk (some
  27) (Op.pick (Operand.tmp 24) (Operand.const (Value.bool true)) (Operand.tmp 26)) none]).seq (VCode.cond (Operand.tmp 27) ((VCode.ops [VOp.mk (some 4) (Op.assign (Operand.const
  (Value.bool false))) none]).seq VCode.ret) VCode.skip)).seq (((VCode.ops [VOp.mk (some 28) (Op.move (Operand.tmp 6)) none, VOp.mk (some 29) (Op.unOp UnOp.not 4 (Operand.tmp 28))
  none, VOp.mk (some 30) (Op.move (Operand.tmp 29)) none, VOp.mk (some 31) (Op.move (Operand.tmp 1)) (some (some 30, false)), VOp.mk (some 32) (Op.call (Call.mk (Callee.builtin
  Builtin.len) #[Operand.tmp 31] #[22])) (some (some 30, false)), VOp.mk (some 33) (Op.binOp BinOp.gtr 3 (Operand.tmp 32) (Operand.const (Value.int IntKind.i64 40)) 3) (some (some
  30, false)), VOp.mk (some 34) (Op.pick (Operand.tmp 30) (Operand.const (Value.bool true)) (Operand.tmp 33)) none]).seq (VCode.cond (Operand.tmp 34) ((VCode.ops [VOp.mk (some 4)
  (Op.assign (Operand.const (Value.bool true))) none]).seq VCode.ret) VCode.skip)).seq ((VCode.ops [VOp.mk (some 7) (Op.assign (Operand.const (Value.slice none 0 0))) none]).seq
  (((VCode.ops [VOp.mk (some 8) (Op.assign (Operand.const (Value.int IntKind.i64 0))) none]).seq (VCode.block 0 (((VCode.ops [VOp.mk (some 35) (Op.move (Operand.tmp 8)) none, VOp.mk
  (some 36) (Op.binOp BinOp.lss 3 (Operand.tmp 35) (Operand.const (Value.int IntKind.i64 6)) 3) none]).seq (VCode.cond (Operand.tmp 36) VCode.skip (VCode.exit 0))).seq ((VCode.block
  1 ((VCode.ops [VOp.mk (some 40) (Op.move (Operand.tmp 5)) none, VOp.mk (some 41) (Op.move (Operand.tmp 8)) none, VOp.mk (some 42) (Op.call (Call.mk (Callee.value (Operand.func
  11)) #[Operand.tmp 41] #[3])) none, VOp.mk (some 43) (Op.call (Call.mk (Callee.value (Operand.func 10)) #[Operand.tmp 40, Operand.tmp 42] #[24, 29])) none, VOp.mk (some 39)
  (Op.move (Operand.tmp 43)) none, VOp.mk (some 44) (Op.extract (Operand.tmp 39) 0) none, VOp.mk (some 45) (Op.extract (Operand.tmp 39) 1) none, VOp.mk (some 9) (Op.alloc 29) none,
  VOp.mk none (Op.store 29 (Operand.tmp 9) (Operand.tmp 44)) none, VOp.mk (some 10) (Op.assign (Operand.tmp 45)) none]).seq (((VCode.ops [VOp.mk (some 46) (Op.move (Operand.tmp 10))
  none, VOp.mk (some 47) (Op.binOp BinOp.neq 30 (Operand.tmp 46) (Operand.const (Value.int IntKind.i64 0)) 30) none]).seq (VCode.cond (Operand.tmp 47) ((VCode.ops [VOp.mk (some 4)
  (Op.assign (Operand.const (Value.bool false))) none]).seq VCode.ret) VCode.skip)).seq (VCode.ops [VOp.mk (some 48) (Op.move (Operand.tmp 7)) none, VOp.mk (some 49) (Op.load 29
  (Operand.tmp 9)) none, VOp.mk (some 50) (Op.buildSlice 27 1 #[(0, Operand.tmp 49)]) none, VOp.mk (some 51) (Op.call (Call.mk (Callee.builtin Builtin.append) #[Operand.tmp 48,
  Operand.tmp 50] #[27, 27])) none, VOp.mk (some 7) (Op.assign (Operand.tmp 51)) none])))).seq (VCode.ops [VOp.mk (some 37) (Op.move (Operand.tmp 8)) none, VOp.mk (some 38)
  (Op.binOp BinOp.add 3 (Operand.tmp 37) (Operand.const (Value.int IntKind.i64 1)) 3) none, VOp.mk (some 8) (Op.assign (Operand.tmp 38)) none]))).loop)).seq (((VCode.ops [VOp.mk
  (some 11) (Op.assign (Operand.const (Value.int IntKind.i64 0))) none]).seq (VCode.block 2 (((VCode.ops [VOp.mk (some 52) (Op.move (Operand.tmp 11)) none, VOp.mk (some 53) (Op.move
  (Operand.tmp 1)) none, VOp.mk (some 54) (Op.call (Call.mk (Callee.builtin Builtin.len) #[Operand.tmp 53] #[22])) none, VOp.mk (some 55) (Op.binOp BinOp.lss 3 (Operand.tmp 52)
  (Operand.tmp 54) 3) none]).seq (VCode.cond (Operand.tmp 55) VCode.skip (VCode.exit 2))).seq ((VCode.block 3 (VCode.ops [VOp.mk (some 58) (Op.move (Operand.tmp 5)) none, VOp.mk
  (some 59) (Op.move (Operand.tmp 1)) none, VOp.mk (some 60) (Op.move (Operand.tmp 11)) none, VOp.mk (some 61) (Op.indexAddr 22 (Operand.tmp 59) (Operand.tmp 60)) none, VOp.mk (some
  62) (Op.fieldAddr 39 (Operand.tmp 61) 1) none, VOp.mk (some 63) (Op.load 29 (Operand.tmp 62)) none, VOp.mk (some 64) (Op.move (Operand.tmp 1)) none, VOp.mk (some 65) (Op.move
  (Operand.tmp 11)) none, VOp.mk (some 66) (Op.indexAddr 22 (Operand.tmp 64) (Operand.tmp 65)) none, VOp.mk (some 67) (Op.fieldAddr 39 (Operand.tmp 66) 2) none, VOp.mk (some 68)
  (Op.load 29 (Operand.tmp 67)) none, VOp.mk (some 69) (Op.call (Call.mk (Callee.value (Operand.func 13)) #[Operand.tmp 58, Operand.tmp 63, Operand.tmp 68] #[24, 29, 29]))
  none])).seq (VCode.ops [VOp.mk (some 56) (Op.move (Operand.tmp 11)) none, VOp.mk (some 57) (Op.binOp BinOp.add 3 (Operand.tmp 56) (Operand.const (Value.int IntKind.i64 1)) 3)
  none, VOp.mk (some 11) (Op.assign (Operand.tmp 57)) none]))).loop)).seq (((VCode.ops [VOp.mk (some 12) (Op.assign (Operand.const (Value.int IntKind.i64 0))) none]).seq
  (VCode.block 4 (((VCode.ops [VOp.mk (some 70) (Op.move (Operand.tmp 12)) none, VOp.mk (some 71) (Op.binOp BinOp.lss 3 (Operand.tmp 70) (Operand.const (Value.int IntKind.i64 6)) 3)
  none]).seq (VCode.cond (Operand.tmp 71) VCode.skip (VCode.exit 4))).seq ((VCode.block 5 ((VCode.ops [VOp.mk (some 75) (Op.move (Operand.tmp 5)) none, VOp.mk (some 76) (Op.move
  (Operand.tmp 12)) none, VOp.mk (some 77) (Op.call (Call.mk (Callee.value (Operand.func 11)) #[Operand.tmp 76] #[3])) none, VOp.mk (some 78) (Op.call (Call.mk (Callee.value
  (Operand.func 10)) #[Operand.tmp 75, Operand.tmp 77] #[24, 29])) none, VOp.mk (some 74) (Op.move (Operand.tmp 78)) none, VOp.mk (some 79) (Op.extract (Operand.tmp 74) 0) none,
  VOp.mk (some 80) (Op.extract (Operand.tmp 74) 1) none, VOp.mk (some 13) (Op.alloc 29) none, VOp.mk none (Op.store 29 (Operand.tmp 13) (Operand.tmp 79)) none, VOp.mk (some 14)
  (Op.assign (Operand.tmp 80)) none]).seq ((VCode.ops [VOp.mk (some 82) (Op.move (Operand.tmp 5)) none, VOp.mk (some 83) (Op.move (Operand.tmp 7)) none, VOp.mk (some 84) (Op.move
  (Operand.tmp 12)) none, VOp.mk (some 85) (Op.indexAddr 27 (Operand.tmp 83) (Operand.tmp 84)) none, VOp.mk (some 86) (Op.load 29 (Operand.tmp 85)) none, VOp.mk (some 87) (Op.call
  (Call.mk (Callee.value (Operand.func 10)) #[Operand.tmp 82, Operand.tmp 86] #[24, 29])) none, VOp.mk (some 81) (Op.move (Operand.tmp 87)) none, VOp.mk (some 88) (Op.extract
  (Operand.tmp 81) 0) none, VOp.mk (some 89) (Op.extract (Operand.tmp 81) 1) none, VOp.mk (some 15) (Op.alloc 29) none, VOp.mk none (Op.store 29 (Operand.tmp 15) (Operand.tmp 88))
  none, VOp.mk (some 16) (Op.assign (Operand.tmp 89)) none]).seq ((VCode.ops [VOp.mk (some 90) (Op.move (Operand.tmp 14)) none, VOp.mk (some 91) (Op.binOp BinOp.neq 30 (Operand.tmp
  90) (Operand.const (Value.int IntKind.i64 0)) 30) none, VOp.mk (some 92) (Op.move (Operand.tmp 91)) none, VOp.mk (some 93) (Op.move (Operand.tmp 16)) (some (some 92, false)),
  VOp.mk (some 94) (Op.binOp BinOp.neq 30 (Operand.tmp 93) (Operand.const (Value.int IntKind.i64 0)) 30) (some (some 92, false)), VOp.mk (some 95) (Op.pick (Operand.tmp 92)
  (Operand.const (Value.bool true)) (Operand.tmp 94)) none, VOp.mk (some 96) (Op.move (Operand.tmp 95)) none, VOp.mk (some 97) (Op.load 29 (Operand.tmp 13)) (some (some 96, false)),
  VOp.mk (some 98) (Op.load 29 (Operand.tmp 15)) (some (some 96, false)), VOp.mk (some 99) (Op.call (Call.mk (Callee.value (Operand.func 12)) #[Operand.tmp 97, Operand.tmp 98] #[29,
  29])) (some (some 96, false)), VOp.mk (some 100) (Op.unOp UnOp.not 4 (Operand.tmp 99)) (some (some 96, false)), VOp.mk (some 101) (Op.pick (Operand.tmp 96) (Operand.const
  (Value.bool true)) (Operand.tmp 100)) none]).seq (VCode.cond (Operand.tmp 101) ((VCode.ops [VOp.mk (some 4) (Op.assign (Operand.const (Value.bool false))) none]).seq VCode.ret)
  VCode.skip))))).seq (VCode.ops [VOp.mk (some 72) (Op.move (Operand.tmp 12)) none, VOp.mk (some 73) (Op.binOp BinOp.add 3 (Operand.tmp 72) (Operand.const (Value.int IntKind.i64 1))
  3) none, VOp.mk (some 12) (Op.assign (Operand.tmp 73)) none]))).loop)).seq ((VCode.ops [VOp.mk (some 4) (Op.assign (Operand.const (Value.bool true))) none]).seq VCode.ret))))))))
theorem fn5 : FnOk Try.prog 5 102 vc5 [ResultVar.tmp 4] := ⟨Try.f5, _, [], Try.func5, rfl, rfl, rfl, by kernel_rfl, by kernel_rfl, by kernel_rfl⟩

/-- wafer/waferlaw11.UnifyClones -/
def vc6 : VCode := (VCode.ops [VOp.mk (some 4) (Op.assign (Operand.const (Value.bool false))) none]).seq ((VCode.ops [VOp.mk (some 19) (Op.move (Operand.tmp 0)) none, VOp.mk (some
  20) (Op.call (Call.mk (Callee.value (Operand.func 9)) #[Operand.const (Value.int IntKind.i64 5), Operand.tmp 19, Operand.const (Value.bool false), Operand.const (Value.bool
  false)] #[3, 22, 4, 4])) none, VOp.mk (some 18) (Op.move (Operand.tmp 20)) none, VOp.mk (some 21) (Op.extract (Operand.tmp 18) 0) none, VOp.mk (some 22) (Op.extract (Operand.tmp
  18) 1) none, VOp.mk (some 5) (Op.assign (Operand.tmp 21)) none, VOp.mk (some 6) (Op.assign (Operand.tmp 22)) none]).seq (((VCode.ops [VOp.mk (some 23) (Op.move (Operand.tmp 5))
  none, VOp.mk (some 24) (Op.binOp BinOp.eql 24 (Operand.tmp 23) (Operand.const (Value.pointer none)) 24) none, VOp.mk (some 25) (Op.move (Operand.tmp 24)) none, VOp.mk (some 26)
  (Op.call (Call.mk (Callee.value (Operand.func 8)) #[] #[])) (some (some 25, false)), VOp.mk (some 27) (Op.unOp UnOp.not 4 (Operand.tmp 26)) (some (some 25, false)), VOp.mk (some
  28) (Op.pick (Operand.tmp 25) (Operand.const (Value.bool true)) (Operand.tmp 27)) none]).seq (VCode.cond (Operand.tmp 28) ((VCode.ops [VOp.mk (some 4) (Op.assign (Operand.const
  (Value.bool false))) none]).seq VCode.ret) VCode.skip)).seq ((VCode.ops [VOp.mk (some 29) (Op.move (Operand.tmp 5)) none, VOp.mk (some 30) (Op.call (Call.mk (Callee.value
  (Operand.func 17)) #[Operand.tmp 29] #[24])) none, VOp.mk (some 7) (Op.assign (Operand.tmp 30)) none]).seq (((VCode.ops [VOp.mk (some 31) (Op.move (Operand.tmp 7)) none, VOp.mk
  (some 32) (Op.binOp BinOp.eql 24 (Operand.tmp 31) (Operand.const (Value.pointer none)) 24) none, VOp.mk (some 33) (Op.move (Operand.tmp 32)) none, VOp.mk (some 34) (Op.move
  (Operand.tmp 7)) (some (some 33, false)), VOp.mk (some 35) (Op.call (Call.mk (Callee.value (Operand.func 18)) #[Operand.tmp 34] #[24])) (some (some 33, false)), VOp.mk (some 36)
  (Op.move (Operand.tmp 5)) (some (some 33, false)), VOp.mk (some 37) (Op.call (Call.mk (Callee.value (Operand.func 18)) #[Operand.tmp 36] #[24])) (some (some 33, false)), VOp.mk
  (some 38) (Op.binOp BinOp.neq 3 (Operand.tmp 35) (Operand.tmp 37) 3) (some (some 33, false)), VOp.mk (some 39) (Op.pick (Operand.tmp 33) (Operand.const (Value.bool true))
  (Operand.tmp 38)) none]).seq (VCode.cond (Operand.tmp 39) ((VCode.ops [VOp.mk (some 4) (Op.assign (Operand.const (Value.bool false))) none]).seq VCode.ret) VCode.skip)).seq
  ((VCode.ops [VOp.mk (some 8) (Op.assign (Operand.const (Value.slice none 0 0))) none]).seq (((VCode.ops [VOp.mk (some 9) (Op.assign (Operand.const (Value.int IntKind.i64 0)))
  none]).seq (VCode.block 0 (((VCode.ops [VOp.mk (some 40) (Op.move (Operand.tmp 9)) none, VOp.mk (some 41) (Op.binOp BinOp.lss 3 (Operand.tmp 40) (Operand.const (Value.int
  IntKind.i64 5)) 3) none]).seq (VCode.cond (Operand.tmp 41) VCode.skip (VCode.exit 0))).seq ((VCode.block 1 ((VCode.ops [VOp.mk (some 45) (Op.move (Operand.tmp 5)) none, VOp.mk
  (some 46) (Op.move (Operand.tmp 9)) none, VOp.mk (some 47) (Op.call (Call.mk (Callee.value (Operand.func 11)) #[Operand.tmp 46] #[3])) none, VOp.mk (some 48) (Op.call (Call.mk
  (Callee.value (Operand.func 10)) #[Operand.tmp 45, Operand.tmp 47] #[24, 29])) none, VOp.mk (some 44) (Op.move (Operand.tmp 48)) none, VOp.mk (some 49) (Op.extract (Operand.tmp
  44) 0) none, VOp.mk (some 50) (Op.extract (Operand.tmp 44) 1) none, VOp.mk (some 10) (Op.alloc 29) none, VOp.mk none (Op.store 29 (Operand.tmp 10) (Operand.tmp 49)) none, VOp.mk
  (some 11) (Op.assign (Operand.tmp 50)) none]).seq ((VCode.ops [VOp.mk (some 52) (Op.move (Operand.tmp 7)) none, VOp.mk (some 53) (Op.move (Operand.tmp 9)) none, VOp.mk (some 54)
  (Op.call (Call.mk (Callee.value (Operand.func 11)) #[Operand.tmp 53] #[3])) none, VOp.mk (some 55) (Op.call (Call.mk (Callee.value (Operand.func 10)) #[Operand.tmp 52, Operand.tmp
  54] #[24, 29])) none, VOp.mk (some 51) (Op.move (Operand.tmp 55)) none, VOp.mk (some 56) (Op.extract (Operand.tmp 51) 0) none, VOp.mk (some 57) (Op.extract (Operand.tmp 51) 1)
  none, VOp.mk (some 12) (Op.alloc 29) none, VOp.mk none (Op.store 29 (Operand.tmp 12) (Operand.tmp 56)) none, VOp.mk (some 13) (Op.assign (Operand.tmp 57)) none]).seq (((VCode.ops
  [VOp.mk (some 58) (Op.move (Operand.tmp 11)) none, VOp.mk (some 59) (Op.move (Operand.tmp 13)) none, VOp.mk (some 60) (Op.binOp BinOp.neq 30 (Operand.tmp 58) (Operand.tmp 59) 30)
  none, VOp.mk (some 61) (Op.move (Operand.tmp 60)) none, VOp.mk (some 62) (Op.load 29 (Operand.tmp 10)) (some (some 61, false)), VOp.mk (some 63) (Op.load 29 (Operand.tmp 12))
  (some (some 61, false)), VOp.mk (some 64) (Op.call (Call.mk (Callee.value (Operand.func 12)) #[Operand.tmp 62, Operand.tmp 63] #[29, 29])) (some (some 61, false)), VOp.mk (some
  65) (Op.unOp UnOp.not 4 (Operand.tmp 64)) (some (some 61, false)), VOp.mk (some 66) (Op.pick (Operand.tmp 61) (Operand.const (Value.bool true)) (Operand.tmp 65)) none]).seq
  (VCode.cond (Operand.tmp 66) ((VCode.ops [VOp.mk (some 4) (Op.assign (Operand.const (Value.bool false))) none]).seq VCode.ret) VCode.skip)).seq (VCode.ops [VOp.mk (some 67)
  (Op.move (Operand.tmp 8)) none, VOp.mk (some 68) (Op.load 29 (Operand.tmp 10)) none, VOp.mk (some 69) (Op.buildSlice 27 1 #[(0, Operand.tmp 68)]) none, VOp.mk (some 70) (Op.call
  (Call.mk (Callee.builtin Builtin.append) #[Operand.tmp 67, Operand.tmp 69] #[27, 27])) none, VOp.mk (some 8) (Op.assign (Operand.tmp 70)) none]))))).seq (VCode.ops [VOp.mk (some
  42) (Op.move (Operand.tmp 9)) none, VOp.mk (some 43) (Op.binOp BinOp.add 3 (Operand.tmp 42) (Operand.const (Value.int IntKind.i64 1)) 3) none, VOp.mk (some 9) (Op.assign
  (Operand.tmp 43)) none]))).loop)).seq (((VCode.ops [VOp.mk (some 14) (Op.assign (Operand.const (Value.int IntKind.i64 0))) none]).seq (VCode.block 2 (((VCode.ops [VOp.mk (some 71)
  (Op.move (Operand.tmp 14)) none, VOp.mk (some 72) (Op.move (Operand.tmp 1)) none, VOp.mk (some 73) (Op.call (Call.mk (Callee.builtin Builtin.len) #[Operand.tmp 72] #[22])) none,
  VOp.mk (some 74) (Op.binOp BinOp.lss 3 (Operand.tmp 71) (Operand.tmp 73) 3) none, VOp.mk (some 75) (Op.move (Operand.tmp 74)) none, VOp.mk (some 76) (Op.move (Operand.tmp 14))
  (some (some 75, true)), VOp.mk (some 77) (Op.binOp BinOp.lss 3 (Operand.tmp 76) (Operand.const (Value.int IntKind.i64 40)) 3) (some (some 75, true)), VOp.mk (some 78) (Op.pick
  (Operand.tmp 75) (Operand.tmp 77) (Operand.const (Value.bool false))) none]).seq (VCode.cond (Operand.tmp 78) VCode.skip (VCode.exit 2))).seq ((VCode.block 3 ((VCode.ops [VOp.mk
  (some 81) (Op.move (Operand.tmp 7)) none, VOp.mk (some 82) (Op.call (Call.mk (Callee.value (Operand.func 19)) #[Operand.tmp 81] #[24])) none]).seq (VCode.ops [VOp.mk (some 83)
  (Op.move (Operand.tmp 7)) none, VOp.mk (some 84) (Op.move (Operand.tmp 1)) none, VOp.mk (some 85) (Op.move (Operand.tmp 14)) none, VOp.mk (some 86) (Op.indexAddr 22 (Operand.tmp
  84) (Operand.tmp 85)) none, VOp.mk (some 87) (Op.fieldAddr 39 (Operand.tmp 86) 1) none, VOp.mk (some 88) (Op.load 29 (Operand.tmp 87)) none, VOp.mk (some 89) (Op.move (Operand.tmp
  1)) none, VOp.mk (some 90) (Op.move (Operand.tmp 14)) none, VOp.mk (some 91) (Op.indexAddr 22 (Operand.tmp 89) (Operand.tmp 90)) none, VOp.mk (some 92) (Op.fieldAddr 39
  (Operand.tmp 91) 2) none, VOp.mk (some 93) (Op.load 29 (Operand.tmp 92)) none, VOp.mk (some 94) (Op.call (Call.mk (Callee.value (Operand.func 13)) #[Operand.tmp 83, Operand.tmp
  88, Operand.tmp 93] #[24, 29, 29])) none]))).seq (VCode.ops [VOp.mk (some 79) (Op.move (Operand.tmp 14)) none, VOp.mk (some 80) (Op.binOp BinOp.add 3 (Operand.tmp 79)
  (Operand.const (Value.int IntKind.i64 1)) 3) none, VOp.mk (some 14) (Op.assign (Operand.tmp 80)) none]))).loop)).seq (((VCode.ops [VOp.mk (some 15) (Op.assign (Operand.const
  (Value.int IntKind.i64 0))) none]).seq (VCode.block 4 (((VCode.ops [VOp.mk (some 95) (Op.move (Operand.tmp 15)) none, VOp.mk (some 96) (Op.binOp BinOp.lss 3 (Operand.tmp 95)
  (Operand.const (Value.int IntKind.i64 5)) 3) none]).seq (VCode.cond (Operand.tmp 96) VCode.skip (VCode.exit 4))).seq ((VCode.block 5 ((VCode.ops [VOp.mk (some 100) (Op.move
  (Operand.tmp 5)) none, VOp.mk (some 101) (Op.move (Operand.tmp 15)) none, VOp.mk (some 102) (Op.call (Call.mk (Callee.value (Operand.func 11)) #[Operand.tmp 101] #[3])) none,
  VOp.mk (some 103) (Op.call (Call.mk (Callee.value (Operand.func 10)) #[Operand.tmp 100, Operand.tmp 102] #[24, 29])) none, VOp.mk (some 99) (Op.move (Operand.tmp 103)) none,
  VOp.mk (some 104) (Op.extract (Operand.tmp 99) 0) none, VOp.mk (some 105) (Op.extract (Operand.tmp 99) 1) none, VOp.mk (some 16) (Op.alloc 29) none, VOp.mk none (Op.store 29
  (Operand.tmp 16) (Operand.tmp 104)) none, VOp.mk (some 17) (Op.assign (Operand.tmp 105)) none]).seq ((VCode.ops [VOp.mk (some 106) (Op.load 29 (Operand.tmp 16)) none, VOp.mk (some
  107) (Op.move (Operand.tmp 8)) none, VOp.mk (some 108) (Op.move (Operand.tmp 15)) none, VOp.mk (some 109) (Op.indexAddr 27 (Operand.tmp 107) (Operand.tmp 108)) none, VOp.mk (some
  110) (Op.load 29 (Operand.tmp 109)) none, VOp.mk (some 111) (Op.call (Call.mk (Callee.value (Operand.func 12)) #[Operand.tmp 106, Operand.tmp 110] #[29, 29])) none, VOp.mk (some
  112) (Op.unOp UnOp.not 4 (Operand.tmp 111)) none]).seq (VCode.cond (Operand.tmp 112) ((VCode.ops [VOp.mk (some 4) (Op.assign (Operand.const (Value.bool false))) none]).seq
  VCode.ret) VCode.skip)))).seq (VCode.ops [VOp.mk (some 97) (Op.move (Operand.tmp 15)) none, VOp.mk (some 98) (Op.binOp BinOp.add 3 (Operand.tmp 97) (Operand.const (Value.int
  IntKind.i64 1)) 3) none, VOp.mk (some 15) (Op.assign (Operand.tmp 98)) none]))).loop)).seq ((VCode.ops [VOp.mk (some 113) (Op.move (Operand.tmp 5)) none, VOp.mk (some 114)
  (Op.call (Call.mk (Callee.value (Operand.func 18)) #[Operand.tmp 113] #[24])) none, VOp.mk (some 115) (Op.binOp BinOp.eql 3 (Operand.tmp 114) (Operand.const (Value.int IntKind.i64
  5)) 3) none, VOp.mk (some 4) (Op.assign (Operand.tmp 115)) none]).seq VCode.ret)))))))))
theorem fn6 : FnOk Try.prog 6 116 vc6 [ResultVar.tmp 4] := ⟨Try.f6, _, [], Try.func6, rfl, rfl, rfl, by kernel_rfl, by kernel_rfl, by kernel_rfl⟩

/-- wafer/waferlaw11.UnifyNils -/
def vc7 : VCode := (VCode.ops [VOp.mk (some 2) (Op.box 29 (Operand.tmp 0)) none, VOp.mk (some 3) (Op.box 29 (Operand.tmp 1)) none, VOp.mk (some 4) (Op.assign (Operand.const
  (Value.bool false))) none]).seq ((VCode.ops [VOp.mk (some 5) (Op.assign (Operand.const (Value.pointer none))) none]).seq ((VCode.ops [VOp.mk (some 9) (Op.move (Operand.tmp 5))
  none, VOp.mk (some 10) (Op.load 29 (Operand.tmp 2)) none, VOp.mk (some 11) (Op.call (Call.mk (Callee.value (Operand.func 10)) #[Operand.tmp 9, Operand.tmp 10] #[24, 29])) none,
  VOp.mk (some 8) (Op.move (Operand.tmp 11)) none, VOp.mk (some 12) (Op.extract (Operand.tmp 8) 0) none, VOp.mk (some 13) (Op.extract (Operand.tmp 8) 1) none, VOp.mk (some 6)
  (Op.alloc 29) none, VOp.mk none (Op.store 29 (Operand.tmp 6) (Operand.tmp 12)) none, VOp.mk (some 7) (Op.assign (Operand.tmp 13)) none]).seq ((VCode.ops [VOp.mk (some 14) (Op.move
  (Operand.tmp 5)) none, VOp.mk (some 15) (Op.call (Call.mk (Callee.value (Operand.func 19)) #[Operand.tmp 14] #[24])) none, VOp.mk (some 16) (Op.build 29 #[]) none, VOp.mk (some
  17) (Op.call (Call.mk (Callee.value (Operand.func 12)) #[Operand.tmp 15, Operand.tmp 16] #[29, 29])) none, VOp.mk (some 18) (Op.move (Operand.tmp 17)) none, VOp.mk (some 19)
  (Op.move (Operand.tmp 5)) (some (some 18, true)), VOp.mk (some 20) (Op.load 29 (Operand.tmp 2)) (some (some 18, true)), VOp.mk (some 21) (Op.load 29 (Operand.tmp 3)) (some (some
  18, true)), VOp.mk (some 22) (Op.call (Call.mk (Callee.value (Operand.func 13)) #[Operand.tmp 19, Operand.tmp 20, Operand.tmp 21] #[24, 29, 29])) (some (some 18, true)), VOp.mk
  (some 23) (Op.binOp BinOp.eql 30 (Operand.tmp 22) (Operand.const (Value.int IntKind.i64 2)) 30) (some (some 18, true)), VOp.mk (some 24) (Op.pick (Operand.tmp 18) (Operand.tmp 23)
  (Operand.const (Value.bool false))) none, VOp.mk (some 25) (Op.move (Operand.tmp 24)) none, VOp.mk (some 26) (Op.move (Operand.tmp 7)) (some (some 25, true)), VOp.mk (some 27)
  (Op.binOp BinOp.eql 30 (Operand.tmp 26) (Operand.const (Value.int IntKind.i64 2)) 30) (some (some 25, true)), VOp.mk (some 28) (Op.pick (Operand.tmp 25) (Operand.tmp 27)
  (Operand.const (Value.bool false))) none, VOp.mk (some 29) (Op.move (Operand.tmp 28)) none, VOp.mk (some 30) (Op.load 29 (Operand.tmp 6)) (some (some 29, true)), VOp.mk (some 31)
  (Op.build 29 #[]) (some (some 29, true)), VOp.mk (some 32) (Op.call (Call.mk (Callee.value (Operand.func 12)) #[Operand.tmp 30, Operand.tmp 31] #[29, 29])) (some (some 29, true)),
  VOp.mk (some 33) (Op.pick (Operand.tmp 29) (Operand.tmp 32) (Operand.const (Value.bool false))) none, VOp.mk (some 34) (Op.move (Operand.tmp 33)) none, VOp.mk (some 35) (Op.move
  (Operand.tmp 5)) (some (some 34, true)), VOp.mk (some 36) (Op.load 29 (Operand.tmp 2)) (some (some 34, true)), VOp.mk (some 37) (Op.call (Call.mk (Callee.value (Operand.func 20))
  #[Operand.tmp 35, Operand.tmp 36] #[24, 29])) (some (some 34, true)), VOp.mk (some 38) (Op.call (Call.mk (Callee.builtin Builtin.len) #[Operand.tmp 37] #[41])) (some (some 34,
  true)), VOp.mk (some 39) (Op.binOp BinOp.eql 3 (Operand.tmp 38) (Operand.const (Value.int IntKind.i64 0)) 3) (some (some 34, true)), VOp.mk (some 40) (Op.pick (Operand.tmp 34)
  (Operand.tmp 39) (Operand.const (Value.bool false))) none, VOp.mk (some 41) (Op.move (Operand.tmp 40)) none, VOp.mk (some 42) (Op.move (Operand.tmp 5)) (some (some 41, true)),
  VOp.mk (some 43) (Op.call (Call.mk (Callee.value (Operand.func 18)) #[Operand.tmp 42] #[24])) (some (some 41, true)), VOp.mk (some 44) (Op.binOp BinOp.eql 3 (Operand.tmp 43)
  (Operand.const (Value.int IntKind.i64 0)) 3) (some (some 41, true)), VOp.mk (some 45) (Op.pick (Operand.tmp 41) (Operand.tmp 44) (Operand.const (Value.bool false))) none, VOp.mk
  (some 46) (Op.move (Operand.tmp 45)) none, VOp.mk (some 47) (Op.move (Operand.tmp 5)) (some (some 46, true)), VOp.mk (some 48) (Op.call (Call.mk (Callee.value (Operand.func 17))
  #[Operand.tmp 47] #[24])) (some (some 46, true)), VOp.mk (some 49) (Op.binOp BinOp.eql 24 (Operand.tmp 48) (Operand.const (Value.pointer none)) 24) (some (some 46, true)), VOp.mk
  (some 50) (Op.pick (Operand.tmp 46) (Operand.tmp 49) (Operand.const (Value.bool false))) none, VOp.mk (some 51) (Op.move (Operand.tmp 50)) none, VOp.mk (some 52) (Op.call (Call.mk
  (Callee.value (Operand.func 8)) #[] #[])) (some (some 51, true)), VOp.mk (some 53) (Op.pick (Operand.tmp 51) (Operand.tmp 52) (Operand.const (Value.bool false))) none, VOp.mk
  (some 4) (Op.assign (Operand.tmp 53)) none]).seq VCode.ret)))
theorem fn7 : FnOk Try.prog 7 54 vc7 [ResultVar.tmp 4] := ⟨Try.f7, _, [], Try.func7, rfl, rfl, rfl, by kernel_rfl, by kernel_rfl, by kernel_rfl⟩

/-- wafer/waferlaw11.alive -/
def vc8 : VCode := (VCode.ops [VOp.mk (some 0) (Op.assign (Operand.const (Value.bool false))) none]).seq ((VCode.ops [VOp.mk (some 11) (Op.call (Call.mk (Callee.value (Operand.func
  21)) #[] #[])) none, VOp.mk (some 1) (Op.assign (Operand.tmp 11)) none]).seq (((VCode.ops [VOp.mk (some 12) (Op.move (Operand.tmp 1)) none, VOp.mk (some 13) (Op.binOp BinOp.eql 24
  (Operand.tmp 12) (Operand.const (Value.pointer none)) 24) none]).seq (VCode.cond (Operand.tmp 13) ((VCode.ops [VOp.mk (some 0) (Op.assign (Operand.const (Value.bool false)))
  none]).seq VCode.ret) VCode.skip)).seq ((VCode.ops [VOp.mk (some 14) (Op.move (Operand.tmp 1)) none, VOp.mk (some 15) (Op.call (Call.mk (Callee.value (Operand.func 19))
  #[Operand.tmp 14] #[24])) none, VOp.mk (some 16) (Op.move (Operand.tmp 1)) none, VOp.mk (some 17) (Op.call (Call.mk (Callee.value (Operand.func 19)) #[Operand.tmp 16] #[24]))
  none, VOp.mk (some 2) (Op.alloc 29) none, VOp.mk (some 3) (Op.alloc 29) none, VOp.mk none (Op.store 29 (Operand.tmp 2) (Operand.tmp 15)) none, VOp.mk none (Op.store 29
  (Operand.tmp 3) (Operand.tmp 17)) none]).seq ((VCode.ops [VOp.mk (some 18) (Op.build 29 #[(0, Operand.const (Value.int IntKind.i64 1))]) none, VOp.mk (some 4) (Op.alloc 29) none,
  VOp.mk none (Op.store 29 (Operand.tmp 4) (Operand.tmp 18)) none]).seq ((VCode.ops [VOp.mk (some 19) (Op.load 29 (Operand.tmp 4)) none, VOp.mk (some 20) (Op.load 29 (Operand.tmp
  4)) none, VOp.mk (some 21) (Op.buildSlice 27 2 #[(0, Operand.tmp 19), (1, Operand.tmp 20)]) none, VOp.mk (some 22) (Op.build 29 #[(0, Operand.const (Value.int IntKind.i64 4)), (2,
  Operand.tmp 21)]) none, VOp.mk (some 5) (Op.alloc 29) none, VOp.mk none (Op.store 29 (Operand.tmp 5) (Operand.tmp 22)) none]).seq ((VCode.ops [VOp.mk (some 23) (Op.move
  (Operand.tmp 1)) none, VOp.mk (some 24) (Op.load 29 (Operand.tmp 2)) none, VOp.mk (some 25) (Op.load 29 (Operand.tmp 3)) none, VOp.mk (some 26) (Op.call (Call.mk (Callee.value
  (Operand.func 13)) #[Operand.tmp 23, Operand.tmp 24, Operand.tmp 25] #[24, 29, 29])) none, VOp.mk (some 6) (Op.assign (Operand.tmp 26)) none]).seq ((VCode.ops [VOp.mk (some 27)
  (Op.move (Operand.tmp 1)) none, VOp.mk (some 28) (Op.load 29 (Operand.tmp 3)) none, VOp.mk (some 29) (Op.load 29 (Operand.tmp 5)) none, VOp.mk (some 30) (Op.call (Call.mk
  (Callee.value (Operand.func 13)) #[Operand.tmp 27, Operand.tmp 28, Operand.tmp 29] #[24, 29, 29])) none, VOp.mk (some 7) (Op.assign (Operand.tmp 30)) none]).seq ((VCode.ops
  [VOp.mk (some 31) (Op.move (Operand.tmp 1)) none, VOp.mk (some 32) (Op.load 29 (Operand.tmp 2)) none, VOp.mk (some 33) (Op.build 29 #[(0, Operand.const (Value.int IntKind.i64
  2))]) none, VOp.mk (some 34) (Op.call (Call.mk (Callee.value (Operand.func 13)) #[Operand.tmp 31, Operand.tmp 32, Operand.tmp 33] #[24, 29, 29])) none, VOp.mk (some 8) (Op.assign
  (Operand.tmp 34)) none]).seq ((VCode.ops [VOp.mk (some 36) (Op.move (Operand.tmp 1)) none, VOp.mk (some 37) (Op.load 29 (Operand.tmp 2)) none, VOp.mk (some 38) (Op.call (Call.mk
  (Callee.value (Operand.func 10)) #[Operand.tmp 36, Operand.tmp 37] #[24, 29])) none, VOp.mk (some 35) (Op.move (Operand.tmp 38)) none, VOp.mk (some 39) (Op.extract (Operand.tmp
  35) 0) none, VOp.mk (some 40) (Op.extract (Operand.tmp 35) 1) none, VOp.mk (some 9) (Op.alloc 29) none, VOp.mk none (Op.store 29 (Operand.tmp 9) (Operand.tmp 39)) none, VOp.mk
  (some 10) (Op.assign (Operand.tmp 40)) none]).seq ((VCode.ops [VOp.mk (some 41) (Op.move (Operand.tmp 6)) none, VOp.mk (some 42) (Op.binOp BinOp.eql 30 (Operand.tmp 41)
  (Operand.const (Value.int IntKind.i64 0)) 30) none, VOp.mk (some 43) (Op.move (Operand.tmp 42)) none, VOp.mk (some 44) (Op.move (Operand.tmp 7)) (some (some 43, true)), VOp.mk
  (some 45) (Op.binOp BinOp.eql 30 (Operand.tmp 44) (Operand.const (Value.int IntKind.i64 0)) 30) (some (some 43, true)), VOp.mk (some 46) (Op.pick (Operand.tmp 43) (Operand.tmp 45)
  (Operand.const (Value.bool false))) none, VOp.mk (some 47) (Op.move (Operand.tmp 46)) none, VOp.mk (some 48) (Op.move (Operand.tmp 8)) (some (some 47, true)), VOp.mk (some 49)
  (Op.binOp BinOp.eql 30 (Operand.tmp 48) (Operand.const (Value.int IntKind.i64 22)) 30) (some (some 47, true)), VOp.mk (some 50) (Op.pick (Operand.tmp 47) (Operand.tmp 49)
  (Operand.const (Value.bool false))) none, VOp.mk (some 51) (Op.move (Operand.tmp 50)) none, VOp.mk (some 52) (Op.move (Operand.tmp 10)) (some (some 51, true)), VOp.mk (some 53)
  (Op.binOp BinOp.eql 30 (Operand.tmp 52) (Operand.const (Value.int IntKind.i64 0)) 30) (some (some 51, true)), VOp.mk (some 54) (Op.pick (Operand.tmp 51) (Operand.tmp 53)
  (Operand.const (Value.bool false))) none, VOp.mk (some 55) (Op.move (Operand.tmp 54)) none, VOp.mk (some 56) (Op.load 29 (Operand.tmp 9)) (some (some 55, true)), VOp.mk (some 57)
  (Op.load 29 (Operand.tmp 5)) (some (some 55, true)), VOp.mk (some 58) (Op.call (Call.mk (Callee.value (Operand.func 12)) #[Operand.tmp 56, Operand.tmp 57] #[29, 29])) (some (some
  55, true)), VOp.mk (some 59) (Op.pick (Operand.tmp 55) (Operand.tmp 58) (Operand.const (Value.bool false))) none, VOp.mk (some 0) (Op.assign (Operand.tmp 59)) none]).seq
  VCode.ret))))))))))
theorem fn8 : FnOk Try.prog 8 60 vc8 [ResultVar.tmp 0] := ⟨Try.f8, _, [], Try.func8, rfl, rfl, rfl, by kernel_rfl, by kernel_rfl, by kernel_rfl⟩

/-- wafer/waferlaw11.replayed -/
def vc9 : VCode := (VCode.ops [VOp.mk (some 8) (Op.assign (Operand.const (Value.pointer none))) none, VOp.mk (some 9) (Op.assign (Operand.const (Value.bool false))) none]).seq
  ((VCode.ops [VOp.mk (some 16) (Op.call (Call.mk (Callee.value (Operand.func 21)) #[] #[])) none, VOp.mk (some 10) (Op.assign (Operand.tmp 16)) none]).seq (((VCode.ops [VOp.mk
  (some 17) (Op.move (Operand.tmp 10)) none, VOp.mk (some 18) (Op.binOp BinOp.eql 24 (Operand.tmp 17) (Operand.const (Value.pointer none)) 24) none]).seq (VCode.cond (Operand.tmp
  18) ((VCode.ops [VOp.mk (some 8) (Op.assign (Operand.const (Value.pointer none))) none, VOp.mk (some 9) (Op.assign (Operand.const (Value.bool false))) none]).seq VCode.ret)
  VCode.skip)).seq (((VCode.ops [VOp.mk (some 11) (Op.assign (Operand.const (Value.int IntKind.i64 0))) none]).seq (VCode.block 0 (((VCode.ops [VOp.mk (some 19) (Op.move
  (Operand.tmp 11)) none, VOp.mk (some 20) (Op.move (Operand.tmp 0)) none, VOp.mk (some 21) (Op.binOp BinOp.lss 3 (Operand.tmp 19) (Operand.tmp 20) 3) none]).seq (VCode.cond
  (Operand.tmp 21) VCode.skip (VCode.exit 0))).seq ((VCode.block 1 (VCode.ops [VOp.mk (some 24) (Op.move (Operand.tmp 10)) none, VOp.mk (some 25) (Op.call (Call.mk (Callee.value
  (Operand.func 19)) #[Operand.tmp 24] #[24])) none])).seq (VCode.ops [VOp.mk (some 22) (Op.move (Operand.tmp 11)) none, VOp.mk (some 23) (Op.binOp BinOp.add 3 (Operand.tmp 22)
  (Operand.const (Value.int IntKind.i64 1)) 3) none, VOp.mk (some 11) (Op.assign (Operand.tmp 23)) none]))).loop)).seq (((VCode.ops [VOp.mk (some 12) (Op.assign (Operand.const
  (Value.int IntKind.i64 0))) none]).seq (VCode.block 2 (((VCode.ops [VOp.mk (some 26) (Op.move (Operand.tmp 12)) none, VOp.mk (some 27) (Op.move (Operand.tmp 1)) none, VOp.mk (some
  28) (Op.call (Call.mk (Callee.builtin Builtin.len) #[Operand.tmp 27] #[22])) none, VOp.mk (some 29) (Op.binOp BinOp.lss 3 (Operand.tmp 26) (Operand.tmp 28) 3) none]).seq
  (VCode.cond (Operand.tmp 29) VCode.skip (VCode.exit 2))).seq ((VCode.block 3 ((VCode.ops [VOp.mk (some 32) (Op.move (Operand.tmp 1)) none, VOp.mk (some 33) (Op.move (Operand.tmp
  12)) none, VOp.mk (some 34) (Op.indexAddr 22 (Operand.tmp 32) (Operand.tmp 33)) none, VOp.mk (some 35) (Op.load 39 (Operand.tmp 34)) none, VOp.mk (some 13) (Op.alloc 39) none,
  VOp.mk none (Op.store 39 (Operand.tmp 13) (Operand.tmp 35)) none]).seq (((VCode.ops [VOp.mk (some 36) (Op.move (Operand.tmp 2)) none]).seq (VCode.cond (Operand.tmp 36) (VCode.ops
  [VOp.mk (some 37) (Op.move (Operand.tmp 1)) none, VOp.mk (some 38) (Op.move (Operand.tmp 1)) none, VOp.mk (some 39) (Op.call (Call.mk (Callee.builtin Builtin.len) #[Operand.tmp
  38] #[22])) none, VOp.mk (some 40) (Op.binOp BinOp.sub 3 (Operand.tmp 39) (Operand.const (Value.int IntKind.i64 1)) 3) none, VOp.mk (some 41) (Op.move (Operand.tmp 12)) none,
  VOp.mk (some 42) (Op.binOp BinOp.sub 3 (Operand.tmp 40) (Operand.tmp 41) 3) none, VOp.mk (some 43) (Op.indexAddr 22 (Operand.tmp 37) (Operand.tmp 42)) none, VOp.mk (some 44)
  (Op.load 39 (Operand.tmp 43)) none, VOp.mk none (Op.store 39 (Operand.tmp 13) (Operand.tmp 44)) none]) VCode.skip)).seq (((VCode.opsW [(0, VOp.mk (some 45) (Op.fieldAddr 39
  (Operand.tmp 13) 1) none), (1, VOp.mk (some 46) (Op.load 29 (Operand.tmp 45)) none), (2, VOp.mk (some 47) (Op.fieldAddr 39 (Operand.tmp 13) 2) none), (3, VOp.mk (some 48) (Op.load
  29 (Operand.tmp 47)) none), (4, VOp.mk (some 14) (Op.alloc 29) none), (5, VOp.mk (some 15) (Op.alloc 29) none), (6, VOp.mk none (Op.store 29 (Operand.tmp 14) (Operand.tmp 46))
  none), (7, VOp.mk none (Op.store 29 (Operand.tmp 15) (Operand.tmp 48)) none)] [(4, [0, 1, 2, 3]), (5, [0, 1, 2, 3]), (6, [2, 3])]).both (VCode.opsW [(0, VOp.mk (some 45)
  (Op.fieldAddr 39 (Operand.tmp 13) 1) none), (1, VOp.mk (some 46) (Op.load 29 (Operand.tmp 45)) none), (2, VOp.mk (some 47) (Op.fieldAddr 39 (Operand.tmp 13) 2) none), (3, VOp.mk
  (some 48) (Op.load 29 (Operand.tmp 47)) none), (5, VOp.mk (some 15) (Op.alloc 29) none), (4, VOp.mk (some 14) (Op.alloc 29) none), (6, VOp.mk none (Op.store 29 (Operand.tmp 14)
  (Operand.tmp 46)) none), (7, VOp.mk none (Op.store 29 (Operand.tmp 15) (Operand.tmp 48)) none)] [(4, [0, 1, 2, 3]), (5, [0, 1, 2, 3]), (6, [2, 3])])).seq (((VCode.ops [VOp.mk
  (some 49) (Op.move (Operand.tmp 3)) none]).seq (VCode.cond (Operand.tmp 49) (VCode.ops [VOp.mk (some 50) (Op.load 29 (Operand.tmp 15)) none, VOp.mk (some 51) (Op.load 29
  (Operand.tmp 14)) none, VOp.mk none (Op.store 29 (Operand.tmp 14) (Operand.tmp 50)) none, VOp.mk none (Op.store 29 (Operand.tmp 15) (Operand.tmp 51)) none]) VCode.skip)).seq
  ((VCode.ops [VOp.mk (some 52) (Op.move (Operand.tmp 10)) none, VOp.mk (some 53) (Op.load 29 (Operand.tmp 14)) none, VOp.mk (some 54) (Op.load 29 (Operand.tmp 15)) none, VOp.mk
  (some 55) (Op.call (Call.mk (Callee.value (Operand.func 13)) #[Operand.tmp 52, Operand.tmp 53, Operand.tmp 54] #[24, 29, 29])) none, VOp.mk (some 56) (Op.binOp BinOp.neq 30
  (Operand.tmp 55) (Operand.const (Value.int IntKind.i64 0)) 30) none]).seq (VCode.cond (Operand.tmp 56) ((VCode.ops [VOp.mk (some 57) (Op.move (Operand.tmp 10)) none, VOp.mk (some
  8) (Op.assign (Operand.tmp 57)) none, VOp.mk (some 9) (Op.assign (Operand.const (Value.bool false))) none]).seq VCode.ret) VCode.skip))))))).seq (VCode.ops [VOp.mk (some 30)
  (Op.move (Operand.tmp 12)) none, VOp.mk (some 31) (Op.binOp BinOp.add 3 (Operand.tmp 30) (Operand.const (Value.int IntKind.i64 1)) 3) none, VOp.mk (some 12) (Op.assign
  (Operand.tmp 31)) none]))).loop)).seq ((VCode.ops [VOp.mk (some 58) (Op.move (Operand.tmp 10)) none, VOp.mk (some 8) (Op.assign (Operand.tmp 58)) none, VOp.mk (some 9) (Op.assign
  (Operand.const (Value.bool true))) none]).seq VCode.ret)))))
theorem fn9 : FnOk Try.prog 9 59 vc9 [ResultVar.tmp 8, ResultVar.tmp 9] := ⟨Try.f9, _, [(14, [([0, 1, 2, 3, 4, 5, 6, 7], [(4, [0, 1, 2, 3]), (5, [0, 1, 2, 3]), (6, [2, 3])]), ([0,
  1, 2, 3, 5, 4, 6, 7], [(4, [0, 1, 2, 3]), (5, [0, 1, 2, 3]), (6, [2, 3])])])], Try.func9, rfl, rfl, rfl, by kernel_rfl, by kernel_rfl, by kernel_rfl⟩

/-- (*wafer/unify.Store).Resolve -/
def vc10 : VCode := (VCode.ops [VOp.mk (some 3) (Op.box 29 (Operand.tmp 1)) none, VOp.mk (some 4) (Op.alloc 29) none, VOp.mk (some 5) (Op.assign (Operand.const (Value.int
  IntKind.i64 0))) none]).seq (((VCode.ops [VOp.mk (some 6) (Op.move (Operand.tmp 0)) none, VOp.mk (some 7) (Op.binOp BinOp.eql 24 (Operand.tmp 6) (Operand.const (Value.pointer
  none)) 24) none]).seq (VCode.cond (Operand.tmp 7) ((VCode.ops [VOp.mk (some 8) (Op.build 29 #[]) none, VOp.mk none (Op.store 29 (Operand.tmp 4) (Operand.tmp 8)) none, VOp.mk (some
  5) (Op.assign (Operand.const (Value.int IntKind.i64 2))) none]).seq VCode.ret) VCode.skip)).seq (((VCode.ops [VOp.mk (some 9) (Op.move (Operand.tmp 0)) none, VOp.mk (some 10)
  (Op.load 29 (Operand.tmp 3)) none, VOp.mk (some 11) (Op.call (Call.mk (Callee.value (Operand.func 22)) #[Operand.tmp 9, Operand.tmp 10, Operand.const (Value.int IntKind.i64 0)]
  #[24, 29, 3])) none, VOp.mk (some 12) (Op.binOp BinOp.gtr 3 (Operand.tmp 11) (Operand.const (Value.int IntKind.i64 1000)) 3) none]).seq (VCode.cond (Operand.tmp 12) ((VCode.ops
  [VOp.mk (some 13) (Op.build 29 #[]) none, VOp.mk none (Op.store 29 (Operand.tmp 4) (Operand.tmp 13)) none, VOp.mk (some 5) (Op.assign (Operand.const (Value.int IntKind.i64 3)))
  none]).seq VCode.ret) VCode.skip)).seq ((VCode.ops [VOp.mk (some 14) (Op.move (Operand.tmp 0)) none, VOp.mk (some 15) (Op.load 29 (Operand.tmp 3)) none, VOp.mk (some 16) (Op.call
  (Call.mk (Callee.value (Operand.func 23)) #[Operand.tmp 14, Operand.tmp 15] #[24, 29])) none, VOp.mk none (Op.store 29 (Operand.tmp 4) (Operand.tmp 16)) none, VOp.mk (some 5)
  (Op.assign (Operand.const (Value.int IntKind.i64 0))) none]).seq VCode.ret)))
theorem fn10 : FnOk Try.prog 10 17 vc10 [ResultVar.cell 4 29, ResultVar.tmp 5] := ⟨Try.f10, _, [], Try.func10, rfl, rfl, rfl, by kernel_rfl, by kernel_rfl, by kernel_rfl⟩

/-- wafer/waferlaw11.meta -/
def vc11 : VCode := (VCode.ops [VOp.mk (some 2) (Op.alloc 29) none]).seq ((VCode.ops [VOp.mk (some 3) (Op.move (Operand.tmp 0)) none, VOp.mk (some 4) (Op.build 29 #[(0,
  Operand.const (Value.int IntKind.i64 7)), (1, Operand.tmp 3)]) none, VOp.mk none (Op.store 29 (Operand.tmp 2) (Operand.tmp 4)) none]).seq VCode.ret)
theorem fn11 : FnOk Try.prog 11 5 vc11 [ResultVar.cell 2 29] := ⟨Try.f11, _, [], Try.func11, rfl, rfl, rfl, by kernel_rfl, by kernel_rfl, by kernel_rfl⟩

/-- wafer/waferref08.Same -/
def vc12 : VCode := (VCode.ops [VOp.mk (some 2) (Op.box 29 (Operand.tmp 0)) none, VOp.mk (some 3) (Op.box 29 (Operand.tmp 1)) none, VOp.mk (some 4) (Op.assign (Operand.const
  (Value.bool false))) none]).seq ((VCode.ops [VOp.mk (some 5) (Op.load 29 (Operand.tmp 2)) none, VOp.mk (some 6) (Op.load 29 (Operand.tmp 3)) none, VOp.mk (some 7) (Op.call
  (Call.mk (Callee.value (Operand.func 24)) #[Operand.tmp 5, Operand.tmp 6] #[29, 29])) none, VOp.mk (some 8) (Op.binOp BinOp.eql 3 (Operand.tmp 7) (Operand.const (Value.int
  IntKind.i64 0)) 3) none, VOp.mk (some 4) (Op.assign (Operand.tmp 8)) none]).seq VCode.ret)
theorem fn12 : FnOk Try.prog 12 9 vc12 [ResultVar.tmp 4] := ⟨Try.f12, _, [], Try.func12, rfl, rfl, rfl, by kernel_rfl, by kernel_rfl, by kernel_rfl⟩

/-- (*wafer/unify.Store).Unify -/
def vc13 : VCode := (VCode.ops [VOp.mk (some 4) (Op.box 29 (Operand.tmp 1)) none, VOp.mk (some 5) (Op.box 29 (Operand.tmp 2)) none, VOp.mk (some 6) (Op.assign (Operand.const
  (Value.int IntKind.i64 0))) none]).seq (((VCode.ops [VOp.mk (some 11) (Op.move (Operand.tmp 0)) none, VOp.mk (some 12) (Op.binOp BinOp.eql 24 (Operand.tmp 11) (Operand.const
  (Value.pointer none)) 24) none]).seq (VCode.cond (Operand.tmp 12) ((VCode.ops [VOp.mk (some 6) (Op.assign (Operand.const (Value.int IntKind.i64 2))) none]).seq VCode.ret)
  VCode.skip)).seq ((VCode.ops [VOp.mk (some 13) (Op.move (Operand.tmp 0)) none, VOp.mk (some 14) (Op.nilCheck (Operand.tmp 13)) none, VOp.mk (some 15) (Op.fieldAddr 56 (Operand.tmp
  14) 0) none, VOp.mk (some 16) (Op.load 51 (Operand.tmp 15)) none, VOp.mk (some 17) (Op.call (Call.mk (Callee.value (Operand.func 25)) #[Operand.tmp 16] #[51])) none, VOp.mk (some
  7) (Op.assign (Operand.tmp 17)) none]).seq ((VCode.ops [VOp.mk (some 18) (Op.move (Operand.tmp 0)) none, VOp.mk (some 19) (Op.load 29 (Operand.tmp 4)) none, VOp.mk (some 20)
  (Op.load 29 (Operand.tmp 5)) none, VOp.mk (some 21) (Op.call (Call.mk (Callee.value (Operand.func 26)) #[Operand.tmp 18, Operand.tmp 19, Operand.tmp 20] #[24, 29, 29])) none,
  VOp.mk (some 8) (Op.alloc 57) none, VOp.mk none (Op.store 57 (Operand.tmp 8) (Operand.tmp 21)) none]).seq ((VCode.ops [VOp.mk (some 22) (Op.move (Operand.tmp 0)) none, VOp.mk
  (some 23) (Op.load 29 (Operand.tmp 4)) none, VOp.mk (some 24) (Op.load 29 (Operand.tmp 5)) none, VOp.mk (some 25) (Op.call (Call.mk (Callee.value (Operand.func 27)) #[Operand.tmp
  22, Operand.tmp 23, Operand.tmp 24, Operand.tmp 8] #[24, 29, 29, 59])) none, VOp.mk (some 9) (Op.assign (Operand.tmp 25)) none]).seq (((VCode.ops [VOp.mk (some 10) (Op.assign
  (Operand.const (Value.int IntKind.i64 0))) none]).seq (VCode.block 0 (((VCode.ops [VOp.mk (some 26) (Op.move (Operand.tmp 9)) none, VOp.mk (some 27) (Op.move (Operand.tmp 26))
  none, VOp.mk (some 28) (Op.move (Operand.tmp 10)) (some (some 27, true)), VOp.mk (some 29) (Op.move (Operand.tmp 0)) (some (some 27, true)), VOp.mk (some 30) (Op.nilCheck
  (Operand.tmp 29)) (some (some 27, true)), VOp.mk (some 31) (Op.fieldAddr 56 (Operand.tmp 30) 0) (some (some 27, true)), VOp.mk (some 32) (Op.load 51 (Operand.tmp 31)) (some (some
  27, true)), VOp.mk (some 33) (Op.call (Call.mk (Callee.builtin Builtin.len) #[Operand.tmp 32] #[51])) (some (some 27, true)), VOp.mk (some 34) (Op.binOp BinOp.lss 3 (Operand.tmp
  28) (Operand.tmp 33) 3) (some (some 27, true)), VOp.mk (some 35) (Op.pick (Operand.tmp 27) (Operand.tmp 34) (Operand.const (Value.bool false))) none]).seq (VCode.cond (Operand.tmp
  35) VCode.skip (VCode.exit 0))).seq ((VCode.block 1 (VCode.ops [VOp.mk (some 38) (Op.move (Operand.tmp 0)) none, VOp.mk (some 39) (Op.move (Operand.tmp 10)) none, VOp.mk (some 40)
  (Op.build 29 #[(0, Operand.const (Value.int IntKind.i64 7)), (1, Operand.tmp 39)]) none, VOp.mk (some 41) (Op.call (Call.mk (Callee.value (Operand.func 22)) #[Operand.tmp 38,
  Operand.tmp 40, Operand.const (Value.int IntKind.i64 0)] #[24, 29, 3])) none, VOp.mk (some 42) (Op.binOp BinOp.leq 3 (Operand.tmp 41) (Operand.const (Value.int IntKind.i64 1000))
  3) none, VOp.mk (some 9) (Op.assign (Operand.tmp 42)) none])).seq (VCode.ops [VOp.mk (some 36) (Op.move (Operand.tmp 10)) none, VOp.mk (some 37) (Op.binOp BinOp.add 3 (Operand.tmp
  36) (Operand.const (Value.int IntKind.i64 1)) 3) none, VOp.mk (some 10) (Op.assign (Operand.tmp 37)) none]))).loop)).seq (((VCode.ops [VOp.mk (some 43) (Op.move (Operand.tmp 9))
  none, VOp.mk (some 44) (Op.unOp UnOp.not 4 (Operand.tmp 43)) none]).seq (VCode.cond (Operand.tmp 44) ((VCode.opsW [(0, VOp.mk (some 45) (Op.move (Operand.tmp 0)) none), (1, VOp.mk
  (some 46) (Op.move (Operand.tmp 0)) none), (2, VOp.mk (some 47) (Op.nilCheck (Operand.tmp 46)) none), (3, VOp.mk (some 48) (Op.fieldAddr 56 (Operand.tmp 47) 0) none), (4, VOp.mk
  (some 49) (Op.load 51 (Operand.tmp 48)) none), (5, VOp.mk (some 50) (Op.move (Operand.tmp 0)) none), (6, VOp.mk (some 51) (Op.nilCheck (Operand.tmp 50)) none), (7, VOp.mk (some
  52) (Op.fieldAddr 56 (Operand.tmp 51) 0) none), (8, VOp.mk (some 53) (Op.load 51 (Operand.tmp 52)) none), (9, VOp.mk (some 54) (Op.move (Operand.tmp 7)) none), (10, VOp.mk (some
  55) (Op.call (Call.mk (Callee.builtin Builtin.copy) #[Operand.tmp 53, Operand.tmp 54] #[51, 51])) none), (11, VOp.mk (some 56) (Op.slice 51 (Operand.tmp 49) none (some
  (Operand.tmp 55)) none) none), (12, VOp.mk (some 57) (Op.nilCheck (Operand.tmp 45)) none), (13, VOp.mk (some 58) (Op.fieldAddr 56 (Operand.tmp 57) 0) none), (14, VOp.mk none
  (Op.store 51 (Operand.tmp 58) (Operand.tmp 56)) none)] [(10, [2, 3, 4])]).seq ((VCode.ops [VOp.mk (some 6) (Op.assign (Operand.const (Value.int IntKind.i64 22))) none]).seq
  VCode.ret)) VCode.skip)).seq ((VCode.ops [VOp.mk (some 6) (Op.assign (Operand.const (Value.int IntKind.i64 0))) none]).seq VCode.ret)))))))
theorem fn13 : FnOk Try.prog 13 59 vc13 [ResultVar.tmp 6] := ⟨Try.f13, _, [(11, [([0, 1, 2, 3, 4, 5, 6, 7, 8, 9, 10, 11, 12, 13, 14], [(10, [2, 3, 4])])])], Try.func13, rfl, rfl,
  rfl, by kernel_rfl, by kernel_rfl, by kernel_rfl⟩

/-- wafer/waferlaw11.put -/
def vc14 : VCode := (VCode.ops [VOp.mk (some 2) (Op.box 29 (Operand.tmp 0)) none, VOp.mk (some 4) (Op.alloc 29) none]).seq (((VCode.ops [VOp.mk (some 7) (Op.fieldAddr 29
  (Operand.tmp 2) 0) none, VOp.mk (some 8) (Op.load 3 (Operand.tmp 7)) none, VOp.mk (some 9) (Op.binOp BinOp.eql 3 (Operand.tmp 8) (Operand.const (Value.int IntKind.i64 7)) 3) none,
  VOp.mk (some 10) (Op.move (Operand.tmp 9)) none, VOp.mk (some 11) (Op.fieldAddr 29 (Operand.tmp 2) 2) (some (some 10, true)), VOp.mk (some 12) (Op.load 27 (Operand.tmp 11)) (some
  (some 10, true)), VOp.mk (some 13) (Op.call (Call.mk (Callee.builtin Builtin.len) #[Operand.tmp 12] #[27])) (some (some 10, true)), VOp.mk (some 14) (Op.binOp BinOp.eql 3
  (Operand.tmp 13) (Operand.const (Value.int IntKind.i64 0)) 3) (some (some 10, true)), VOp.mk (some 15) (Op.pick (Operand.tmp 10) (Operand.tmp 14) (Operand.const (Value.bool
  false))) none, VOp.mk (some 16) (Op.move (Operand.tmp 15)) none, VOp.mk (some 17) (Op.fieldAddr 29 (Operand.tmp 2) 1) (some (some 16, true)), VOp.mk (some 18) (Op.load 3
  (Operand.tmp 17)) (some (some 16, true)), VOp.mk (some 19) (Op.binOp BinOp.geq 3 (Operand.tmp 18) (Operand.const (Value.int IntKind.i64 0)) 3) (some (some 16, true)), VOp.mk (some
  20) (Op.pick (Operand.tmp 16) (Operand.tmp 19) (Operand.const (Value.bool false))) none, VOp.mk (some 21) (Op.move (Operand.tmp 20)) none, VOp.mk (some 22) (Op.fieldAddr 29
  (Operand.tmp 2) 1) (some (some 21, true)), VOp.mk (some 23) (Op.load 3 (Operand.tmp 22)) (some (some 21, true)), VOp.mk (some 24) (Op.move (Operand.tmp 1)) (some (some 21, true)),
  VOp.mk (some 25) (Op.call (Call.mk (Callee.builtin Builtin.len) #[Operand.tmp 24] #[27])) (some (some 21, true)), VOp.mk (some 26) (Op.binOp BinOp.lss 3 (Operand.tmp 23)
  (Operand.tmp 25) 3) (some (some 21, true)), VOp.mk (some 27) (Op.pick (Operand.tmp 21) (Operand.tmp 26) (Operand.const (Value.bool false))) none]).seq (VCode.cond (Operand.tmp 27)
  ((VCode.ops [VOp.mk (some 28) (Op.move (Operand.tmp 1)) none, VOp.mk (some 29) (Op.fieldAddr 29 (Operand.tmp 2) 1) none, VOp.mk (some 30) (Op.load 3 (Operand.tmp 29)) none, VOp.mk
  (some 31) (Op.indexAddr 27 (Operand.tmp 28) (Operand.tmp 30)) none, VOp.mk (some 32) (Op.load 29 (Operand.tmp 31)) none, VOp.mk none (Op.store 29 (Operand.tmp 4) (Operand.tmp 32))
  none]).seq VCode.ret) VCode.skip)).seq ((VCode.ops [VOp.mk (some 33) (Op.load 29 (Operand.tmp 2)) none, VOp.mk (some 5) (Op.alloc 29) none, VOp.mk none (Op.store 29 (Operand.tmp
  5) (Operand.tmp 33)) none]).seq ((VCode.ops [VOp.mk (some 34) (Op.fieldAddr 29 (Operand.tmp 5) 2) none, VOp.mk none (Op.store 27 (Operand.tmp 34) (Operand.const (Value.slice none
  0 0))) none]).seq (((VCode.ops [VOp.mk (some 6) (Op.assign (Operand.const (Value.int IntKind.i64 0))) none]).seq (VCode.block 0 (((VCode.ops [VOp.mk (some 35) (Op.move
  (Operand.tmp 6)) none, VOp.mk (some 36) (Op.fieldAddr 29 (Operand.tmp 2) 2) none, VOp.mk (some 37) (Op.load 27 (Operand.tmp 36)) none, VOp.mk (some 38) (Op.call (Call.mk
  (Callee.builtin Builtin.len) #[Operand.tmp 37] #[27])) none, VOp.mk (some 39) (Op.binOp BinOp.lss 3 (Operand.tmp 35) (Operand.tmp 38) 3) none]).seq (VCode.cond (Operand.tmp 39)
  VCode.skip (VCode.exit 0))).seq ((VCode.block 1 (VCode.opsW [(0, VOp.mk (some 42) (Op.fieldAddr 29 (Operand.tmp 5) 2) none), (1, VOp.mk (some 43) (Op.load 27 (Operand.tmp 42))
  none), (2, VOp.mk (some 44) (Op.fieldAddr 29 (Operand.tmp 2) 2) none), (3, VOp.mk (some 45) (Op.load 27 (Operand.tmp 44)) none), (4, VOp.mk (some 46) (Op.move (Operand.tmp 6))
  none), (5, VOp.mk (some 47) (Op.indexAddr 27 (Operand.tmp 45) (Operand.tmp 46)) none), (6, VOp.mk (some 48) (Op.load 29 (Operand.tmp 47)) none), (7, VOp.mk (some 49) (Op.move
  (Operand.tmp 1)) none), (8, VOp.mk (some 50) (Op.call (Call.mk (Callee.value (Operand.func 14)) #[Operand.tmp 48, Operand.tmp 49] #[29, 27])) none), (9, VOp.mk (some 51)
  (Op.buildSlice 27 1 #[(0, Operand.tmp 50)]) none), (10, VOp.mk (some 52) (Op.call (Call.mk (Callee.builtin Builtin.append) #[Operand.tmp 43, Operand.tmp 51] #[27, 27])) none),
  (11, VOp.mk (some 53) (Op.fieldAddr 29 (Operand.tmp 5) 2) none), (12, VOp.mk none (Op.store 27 (Operand.tmp 53) (Operand.tmp 52)) none)] [(8, [0, 1]), (9, [0, 1])])).seq
  (VCode.ops [VOp.mk (some 40) (Op.move (Operand.tmp 6)) none, VOp.mk (some 41) (Op.binOp BinOp.add 3 (Operand.tmp 40) (Operand.const (Value.int IntKind.i64 1)) 3) none, VOp.mk
  (some 6) (Op.assign (Operand.tmp 41)) none]))).loop)).seq ((VCode.ops [VOp.mk (some 54) (Op.load 29 (Operand.tmp 5)) none, VOp.mk none (Op.store 29 (Operand.tmp 4) (Operand.tmp
  54)) none]).seq VCode.ret)))))
theorem fn14 : FnOk Try.prog 14 55 vc14 [ResultVar.cell 4 29] := ⟨Try.f14, _, [(8, [([0, 1, 2, 3, 4, 5, 6, 7, 8, 9, 10, 11, 12], [(8, [0, 1]), (9, [0, 1])])])], Try.func14, rfl,
  rfl, rfl, by kernel_rfl, by kernel_rfl, by kernel_rfl⟩

/-- wafer/waferref08.Size -/
def vc15 : VCode := (VCode.ops [VOp.mk (some 1) (Op.box 29 (Operand.tmp 0)) none, VOp.mk (some 2) (Op.assign (Operand.const (Value.int IntKind.i64 0))) none]).seq ((VCode.ops
  [VOp.mk (some 3) (Op.load 29 (Operand.tmp 1)) none, VOp.mk (some 4) (Op.call (Call.mk (Callee.value (Operand.func 28)) #[Operand.tmp 3, Operand.const (Value.int IntKind.i64 0)]
  #[29, 3])) none, VOp.mk (some 2) (Op.assign (Operand.tmp 4)) none]).seq VCode.ret)
theorem fn15 : FnOk Try.prog 15 5 vc15 [ResultVar.tmp 2] := ⟨Try.f15, _, [], Try.func15, rfl, rfl, rfl, by kernel_rfl, by kernel_rfl, by kernel_rfl⟩

/-- wafer/waferref08.Metas -/
def vc16 : VCode := (VCode.ops [VOp.mk (some 1) (Op.box 29 (Operand.tmp 0)) none, VOp.mk (some 2) (Op.assign (Operand.const (Value.slice none 0 0))) none]).seq ((VCode.ops [VOp.mk
  (some 3) (Op.load 29 (Operand.tmp 1)) none, VOp.mk (some 4) (Op.call (Call.mk (Callee.value (Operand.func 29)) #[Operand.tmp 3, Operand.const (Value.int IntKind.i64 7),
  Operand.const (Value.slice none 0 0)] #[29, 3, 41])) none, VOp.mk (some 2) (Op.assign (Operand.tmp 4)) none]).seq VCode.ret)
theorem fn16 : FnOk Try.prog 16 5 vc16 [ResultVar.tmp 2] := ⟨Try.f16, _, [], Try.func16, rfl, rfl, rfl, by kernel_rfl, by kernel_rfl, by kernel_rfl⟩

/-- (*wafer/unify.Store).Clone -/
def vc17 : VCode := (VCode.ops [VOp.mk (some 2) (Op.assign (Operand.const (Value.pointer none))) none]).seq (((VCode.ops [VOp.mk (some 4) (Op.move (Operand.tmp 0)) none, VOp.mk
  (some 5) (Op.binOp BinOp.eql 24 (Operand.tmp 4) (Operand.const (Value.pointer none)) 24) none]).seq (VCode.cond (Operand.tmp 5) ((VCode.ops [VOp.mk (some 2) (Op.assign
  (Operand.const (Value.pointer none))) none]).seq VCode.ret) VCode.skip)).seq ((VCode.ops [VOp.mk (some 6) (Op.move (Operand.tmp 0)) none, VOp.mk (some 7) (Op.nilCheck (Operand.tmp
  6)) none, VOp.mk (some 8) (Op.fieldAddr 56 (Operand.tmp 7) 0) none, VOp.mk (some 9) (Op.load 51 (Operand.tmp 8)) none, VOp.mk (some 10) (Op.call (Call.mk (Callee.builtin
  Builtin.len) #[Operand.tmp 9] #[51])) none, VOp.mk (some 11) (Op.makeSlice 51 (Operand.tmp 10) (Operand.tmp 10)) none, VOp.mk (some 3) (Op.assign (Operand.tmp 11)) none]).seq
  ((VCode.ops [VOp.mk (some 12) (Op.move (Operand.tmp 3)) none, VOp.mk (some 13) (Op.move (Operand.tmp 0)) none, VOp.mk (some 14) (Op.nilCheck (Operand.tmp 13)) none, VOp.mk (some
  15) (Op.fieldAddr 56 (Operand.tmp 14) 0) none, VOp.mk (some 16) (Op.load 51 (Operand.tmp 15)) none, VOp.mk (some 17) (Op.call (Call.mk (Callee.builtin Builtin.copy) #[Operand.tmp
  12, Operand.tmp 16] #[51, 51])) none]).seq ((VCode.ops [VOp.mk (some 18) (Op.move (Operand.tmp 3)) none, VOp.mk (some 19) (Op.build 56 #[(0, Operand.tmp 18)]) none, VOp.mk (some
  20) (Op.box 56 (Operand.tmp 19)) none, VOp.mk (some 2) (Op.assign (Operand.tmp 20)) none]).seq VCode.ret))))
theorem fn17 : FnOk Try.prog 17 21 vc17 [ResultVar.tmp 2] := ⟨Try.f17, _, [], Try.func17, rfl, rfl, rfl, by kernel_rfl, by kernel_rfl, by kernel_rfl⟩

/-- (*wafer/unify.Store).Count -/
def vc18 : VCode := (VCode.ops [VOp.mk (some 2) (Op.assign (Operand.const (Value.int IntKind.i64 0))) none]).seq (((VCode.ops [VOp.mk (some 3) (Op.move (Operand.tmp 0)) none, VOp.mk
  (some 4) (Op.binOp BinOp.eql 24 (Operand.tmp 3) (Operand.const (Value.pointer none)) 24) none]).seq (VCode.cond (Operand.tmp 4) ((VCode.ops [VOp.mk (some 2) (Op.assign
  (Operand.const (Value.int IntKind.i64 0))) none]).seq VCode.ret) VCode.skip)).seq ((VCode.ops [VOp.mk (some 5) (Op.move (Operand.tmp 0)) none, VOp.mk (some 6) (Op.nilCheck
  (Operand.tmp 5)) none, VOp.mk (some 7) (Op.fieldAddr 56 (Operand.tmp 6) 0) none, VOp.mk (some 8) (Op.load 51 (Operand.tmp 7)) none, VOp.mk (some 9) (Op.call (Call.mk
  (Callee.builtin Builtin.len) #[Operand.tmp 8] #[51])) none, VOp.mk (some 2) (Op.assign (Operand.tmp 9)) none]).seq VCode.ret))
theorem fn18 : FnOk Try.prog 18 10 vc18 [ResultVar.tmp 2] := ⟨Try.f18, _, [], Try.func18, rfl, rfl, rfl, by kernel_rfl, by kernel_rfl, by kernel_rfl⟩

/-- (*wafer/unify.Store).Meta -/
def vc19 : VCode := (VCode.ops [VOp.mk (some 2) (Op.alloc 29) none]).seq (((VCode.ops [VOp.mk (some 3) (Op.move (Operand.tmp 0)) none, VOp.mk (some 4) (Op.binOp BinOp.eql 24
  (Operand.tmp 3) (Operand.const (Value.pointer none)) 24) none]).seq (VCode.cond (Operand.tmp 4) ((VCode.ops [VOp.mk (some 5) (Op.build 29 #[]) none, VOp.mk none (Op.store 29
  (Operand.tmp 2) (Operand.tmp 5)) none]).seq VCode.ret) VCode.skip)).seq ((VCode.ops [VOp.mk (some 6) (Op.move (Operand.tmp 0)) none, VOp.mk (some 7) (Op.move (Operand.tmp 0))
  none, VOp.mk (some 8) (Op.nilCheck (Operand.tmp 7)) none, VOp.mk (some 9) (Op.fieldAddr 56 (Operand.tmp 8) 0) none, VOp.mk (some 10) (Op.load 51 (Operand.tmp 9)) none, VOp.mk
  (some 11) (Op.build 54 #[]) none, VOp.mk (some 12) (Op.buildSlice 51 1 #[(0, Operand.tmp 11)]) none, VOp.mk (some 13) (Op.call (Call.mk (Callee.builtin Builtin.append)
  #[Operand.tmp 10, Operand.tmp 12] #[51, 51])) none, VOp.mk (some 14) (Op.nilCheck (Operand.tmp 6)) none, VOp.mk (some 15) (Op.fieldAddr 56 (Operand.tmp 14) 0) none, VOp.mk none
  (Op.store 51 (Operand.tmp 15) (Operand.tmp 13)) none]).seq ((VCode.ops [VOp.mk (some 16) (Op.move (Operand.tmp 0)) none, VOp.mk (some 17) (Op.nilCheck (Operand.tmp 16)) none,
  VOp.mk (some 18) (Op.fieldAddr 56 (Operand.tmp 17) 0) none, VOp.mk (some 19) (Op.load 51 (Operand.tmp 18)) none, VOp.mk (some 20) (Op.call (Call.mk (Callee.builtin Builtin.len)
  #[Operand.tmp 19] #[51])) none, VOp.mk (some 21) (Op.binOp BinOp.sub 3 (Operand.tmp 20) (Operand.const (Value.int IntKind.i64 1)) 3) none, VOp.mk (some 22) (Op.build 29 #[(0,
  Operand.const (Value.int IntKind.i64 7)), (1, Operand.tmp 21)]) none, VOp.mk none (Op.store 29 (Operand.tmp 2) (Operand.tmp 22)) none]).seq VCode.ret)))
theorem fn19 : FnOk Try.prog 19 23 vc19 [ResultVar.cell 2 29] := ⟨Try.f19, _, [], Try.func19, rfl, rfl, rfl, by kernel_rfl, by kernel_rfl, by kernel_rfl⟩

/-- (*wafer/unify.Store).Open -/
def vc20 : VCode := (VCode.ops [VOp.mk (some 3) (Op.box 29 (Operand.tmp 1)) none, VOp.mk (some 4) (Op.assign (Operand.const (Value.slice none 0 0))) none]).seq (((VCode.ops [VOp.mk
  (some 6) (Op.move (Operand.tmp 0)) none, VOp.mk (some 7) (Op.binOp BinOp.eql 24 (Operand.tmp 6) (Operand.const (Value.pointer none)) 24) none]).seq (VCode.cond (Operand.tmp 7)
  ((VCode.ops [VOp.mk (some 4) (Op.assign (Operand.const (Value.slice none 0 0))) none]).seq VCode.ret) VCode.skip)).seq ((VCode.ops [VOp.mk (some 5) (Op.alloc 41) none]).seq
  ((VCode.ops [VOp.mk (some 8) (Op.move (Operand.tmp 0)) none, VOp.mk (some 9) (Op.load 29 (Operand.tmp 3)) none, VOp.mk (some 10) (Op.call (Call.mk (Callee.value (Operand.func 30))
  #[Operand.tmp 8, Operand.tmp 9, Operand.tmp 5] #[24, 29, 62])) none]).seq ((VCode.ops [VOp.mk (some 11) (Op.load 41 (Operand.tmp 5)) none, VOp.mk (some 12) (Op.call (Call.mk
  (Callee.value (Operand.func 31)) #[Operand.tmp 11] #[41])) none]).seq ((VCode.ops [VOp.mk (some 13) (Op.load 41 (Operand.tmp 5)) none, VOp.mk (some 14) (Op.call (Call.mk
  (Callee.value (Operand.func 32)) #[Operand.tmp 13] #[41])) none, VOp.mk (some 4) (Op.assign (Operand.tmp 14)) none]).seq VCode.ret)))))
theorem fn20 : FnOk Try.prog 20 15 vc20 [ResultVar.tmp 4] := ⟨Try.f20, _, [], Try.func20, rfl, rfl, rfl, by kernel_rfl, by kernel_rfl, by kernel_rfl⟩

/-- wafer/unify.New -/
def vc21 : VCode := (VCode.ops [VOp.mk (some 0) (Op.assign (Operand.const (Value.pointer none))) none]).seq ((VCode.ops [VOp.mk (some 1) (Op.build 56 #[]) none, VOp.mk (some 2)
  (Op.box 56 (Operand.tmp 1)) none, VOp.mk (some 0) (Op.assign (Operand.tmp 2)) none]).seq VCode.ret)
theorem fn21 : FnOk Try.prog 21 3 vc21 [ResultVar.tmp 0] := ⟨Try.f21, _, [], Try.func21, rfl, rfl, rfl, by kernel_rfl, by kernel_rfl, by kernel_rfl⟩

/-- (*wafer/unify.Store).size -/
def vc22 : VCode := (VCode.ops [VOp.mk (some 4) (Op.box 29 (Operand.tmp 1)) none, VOp.mk (some 6) (Op.assign (Operand.const (Value.int IntKind.i64 0))) none]).seq ((VCode.ops
  [VOp.mk (some 9) (Op.move (Operand.tmp 0)) none, VOp.mk (some 10) (Op.load 29 (Operand.tmp 4)) none, VOp.mk (some 11) (Op.call (Call.mk (Callee.value (Operand.func 33))
  #[Operand.tmp 9, Operand.tmp 10] #[24, 29])) none, VOp.mk none (Op.store 29 (Operand.tmp 4) (Operand.tmp 11)) none]).seq ((VCode.ops [VOp.mk (some 12) (Op.move (Operand.tmp 2))
  none, VOp.mk (some 13) (Op.binOp BinOp.add 3 (Operand.tmp 12) (Operand.const (Value.int IntKind.i64 1)) 3) none, VOp.mk (some 2) (Op.assign (Operand.tmp 13)) none]).seq
  (((VCode.ops [VOp.mk (some 14) (Op.fieldAddr 29 (Operand.tmp 4) 2) none, VOp.mk (some 15) (Op.load 27 (Operand.tmp 14)) none, VOp.mk (some 16) (Op.call (Call.mk (Callee.builtin
  Builtin.len) #[Operand.tmp 15] #[27])) none, VOp.mk (some 17) (Op.move (Operand.const (Value.int IntKind.i64 0))) none]).seq (VCode.block 0 ((VCode.ops [VOp.mk (some 18) (Op.binOp
  BinOp.lss 3 (Operand.tmp 17) (Operand.tmp 16) 3) none]).seq ((VCode.cond (Operand.tmp 18) VCode.skip (VCode.exit 0)).seq ((VCode.block 1 ((VCode.ops [VOp.mk (some 19)
  (Op.indexAddr 27 (Operand.tmp 15) (Operand.tmp 17)) none, VOp.mk (some 20) (Op.load 29 (Operand.tmp 19)) none, VOp.mk (some 8) (Op.alloc 29) none, VOp.mk none (Op.store 29
  (Operand.tmp 8) (Operand.tmp 20)) none]).seq (((VCode.ops [VOp.mk (some 21) (Op.move (Operand.tmp 2)) none, VOp.mk (some 22) (Op.binOp BinOp.gtr 3 (Operand.tmp 21) (Operand.const
  (Value.int IntKind.i64 1000)) 3) none]).seq (VCode.cond (Operand.tmp 22) ((VCode.ops [VOp.mk (some 23) (Op.move (Operand.tmp 2)) none, VOp.mk (some 6) (Op.assign (Operand.tmp 23))
  none]).seq VCode.ret) VCode.skip)).seq (VCode.ops [VOp.mk (some 24) (Op.move (Operand.tmp 0)) none, VOp.mk (some 25) (Op.load 29 (Operand.tmp 8)) none, VOp.mk (some 26) (Op.move
  (Operand.tmp 2)) none, VOp.mk (some 27) (Op.call (Call.mk (Callee.value (Operand.func 22)) #[Operand.tmp 24, Operand.tmp 25, Operand.tmp 26] #[24, 29, 3])) none, VOp.mk (some 2)
  (Op.assign (Operand.tmp 27)) none])))).seq (VCode.ops [VOp.mk (some 28) (Op.binOp BinOp.add 3 (Operand.tmp 17) (Operand.const (Value.int IntKind.i64 1)) 3) none, VOp.mk (some 17)
  (Op.move (Operand.tmp 28)) none])))).loop)).seq ((VCode.ops [VOp.mk (some 29) (Op.move (Operand.tmp 2)) none, VOp.mk (some 6) (Op.assign (Operand.tmp 29)) none]).seq VCode.ret))))
theorem fn22 : FnOk Try.prog 22 30 vc22 [ResultVar.tmp 6] := ⟨Try.f22, _, [], Try.func22, rfl, rfl, rfl, by kernel_rfl, by kernel_rfl, by kernel_rfl⟩

/-- (*wafer/unify.Store).resolved -/
def vc23 : VCode := (VCode.ops [VOp.mk (some 3) (Op.box 29 (Operand.tmp 1)) none, VOp.mk (some 4) (Op.alloc 29) none]).seq ((VCode.ops [VOp.mk (some 7) (Op.move (Operand.tmp 0))
  none, VOp.mk (some 8) (Op.load 29 (Operand.tmp 3)) none, VOp.mk (some 9) (Op.call (Call.mk (Callee.value (Operand.func 33)) #[Operand.tmp 7, Operand.tmp 8] #[24, 29])) none,
  VOp.mk none (Op.store 29 (Operand.tmp 3) (Operand.tmp 9)) none]).seq (((VCode.ops [VOp.mk (some 10) (Op.fieldAddr 29 (Operand.tmp 3) 2) none, VOp.mk (some 11) (Op.load 27
  (Operand.tmp 10)) none, VOp.mk (some 12) (Op.call (Call.mk (Callee.builtin Builtin.len) #[Operand.tmp 11] #[27])) none, VOp.mk (some 13) (Op.binOp BinOp.eql 3 (Operand.tmp 12)
  (Operand.const (Value.int IntKind.i64 0)) 3) none]).seq (VCode.cond (Operand.tmp 13) ((VCode.ops [VOp.mk (some 14) (Op.load 29 (Operand.tmp 3)) none, VOp.mk none (Op.store 29
  (Operand.tmp 4) (Operand.tmp 14)) none]).seq VCode.ret) VCode.skip)).seq ((VCode.ops [VOp.mk (some 15) (Op.fieldAddr 29 (Operand.tmp 3) 2) none, VOp.mk (some 16) (Op.load 27
  (Operand.tmp 15)) none, VOp.mk (some 17) (Op.call (Call.mk (Callee.value (Operand.func 34)) #[Operand.tmp 16] #[27])) none, VOp.mk (some 18) (Op.fieldAddr 29 (Operand.tmp 3) 2)
  none, VOp.mk none (Op.store 27 (Operand.tmp 18) (Operand.tmp 17)) none]).seq (((VCode.ops [VOp.mk (some 19) (Op.fieldAddr 29 (Operand.tmp 3) 2) none, VOp.mk (some 20) (Op.load 27
  (Operand.tmp 19)) none, VOp.mk (some 21) (Op.call (Call.mk (Callee.builtin Builtin.len) #[Operand.tmp 20] #[27])) none, VOp.mk (some 22) (Op.move (Operand.const (Value.int
  IntKind.i64 0))) none]).seq (VCode.block 0 ((VCode.ops [VOp.mk (some 23) (Op.binOp BinOp.lss 3 (Operand.tmp 22) (Operand.tmp 21) 3) none]).seq ((VCode.cond (Operand.tmp 23)
  VCode.skip (VCode.exit 0)).seq ((VCode.block 1 ((VCode.ops [VOp.mk (some 24) (Op.move (Operand.tmp 22)) none, VOp.mk (some 25) (Op.indexAddr 27 (Operand.tmp 20) (Operand.tmp 22))
  none, VOp.mk (some 26) (Op.load 29 (Operand.tmp 25)) none, VOp.mk (some 6) (Op.alloc 29) none, VOp.mk (some 5) (Op.assign (Operand.tmp 24)) none, VOp.mk none (Op.store 29
  (Operand.tmp 6) (Operand.tmp 26)) none]).seq (VCode.opsW [(0, VOp.mk (some 27) (Op.fieldAddr 29 (Operand.tmp 3) 2) none), (1, VOp.mk (some 28) (Op.load 27 (Operand.tmp 27)) none),
  (2, VOp.mk (some 29) (Op.move (Operand.tmp 5)) none), (3, VOp.mk (some 30) (Op.move (Operand.tmp 0)) none), (4, VOp.mk (some 31) (Op.load 29 (Operand.tmp 6)) none), (5, VOp.mk
  (some 32) (Op.call (Call.mk (Callee.value (Operand.func 23)) #[Operand.tmp 30, Operand.tmp 31] #[24, 29])) none), (6, VOp.mk (some 33) (Op.indexAddr 27 (Operand.tmp 28)
  (Operand.tmp 29)) none), (7, VOp.mk none (Op.store 29 (Operand.tmp 33) (Operand.tmp 32)) none)] [(5, [0, 1])]))).seq (VCode.ops [VOp.mk (some 34) (Op.binOp BinOp.add 3
  (Operand.tmp 22) (Operand.const (Value.int IntKind.i64 1)) 3) none, VOp.mk (some 22) (Op.move (Operand.tmp 34)) none])))).loop)).seq ((VCode.ops [VOp.mk (some 35) (Op.load 29
  (Operand.tmp 3)) none, VOp.mk none (Op.store 29 (Operand.tmp 4) (Operand.tmp 35)) none]).seq VCode.ret)))))
theorem fn23 : FnOk Try.prog 23 36 vc23 [ResultVar.cell 4 29] := ⟨Try.f23, _, [(8, [([0, 1, 2, 3, 4, 5, 6, 7], [(5, [0, 1])])])], Try.func23, rfl, rfl, rfl, by kernel_rfl, by
  kernel_rfl, by kernel_rfl⟩

/-- wafer/waferref08.Cmp -/
def vc24 : VCode := (VCode.ops [VOp.mk (some 2) (Op.box 29 (Operand.tmp 0)) none, VOp.mk (some 3) (Op.box 29 (Operand.tmp 1)) none, VOp.mk (some 4) (Op.assign (Operand.const
  (Value.int IntKind.i64 0))) none]).seq (((VCode.ops [VOp.mk (some 10) (Op.fieldAddr 29 (Operand.tmp 2) 0) none, VOp.mk (some 11) (Op.load 3 (Operand.tmp 10)) none, VOp.mk (some
  12) (Op.fieldAddr 29 (Operand.tmp 3) 0) none, VOp.mk (some 13) (Op.load 3 (Operand.tmp 12)) none, VOp.mk (some 14) (Op.call (Call.mk (Callee.value (Operand.func 35)) #[Operand.tmp
  11, Operand.tmp 13] #[3, 3])) none, VOp.mk (some 5) (Op.assign (Operand.tmp 14)) none]).seq ((VCode.ops [VOp.mk (some 15) (Op.move (Operand.tmp 5)) none, VOp.mk (some 16)
  (Op.binOp BinOp.neq 3 (Operand.tmp 15) (Operand.const (Value.int IntKind.i64 0)) 3) none]).seq (VCode.cond (Operand.tmp 16) ((VCode.ops [VOp.mk (some 17) (Op.move (Operand.tmp 5))
  none, VOp.mk (some 4) (Op.assign (Operand.tmp 17)) none]).seq VCode.ret) VCode.skip))).seq (((VCode.ops [VOp.mk (some 18) (Op.fieldAddr 29 (Operand.tmp 2) 1) none, VOp.mk (some
  19) (Op.load 3 (Operand.tmp 18)) none, VOp.mk (some 20) (Op.fieldAddr 29 (Operand.tmp 3) 1) none, VOp.mk (some 21) (Op.load 3 (Operand.tmp 20)) none, VOp.mk (some 22) (Op.call
  (Call.mk (Callee.value (Operand.func 35)) #[Operand.tmp 19, Operand.tmp 21] #[3, 3])) none, VOp.mk (some 6) (Op.assign (Operand.tmp 22)) none]).seq ((VCode.ops [VOp.mk (some 23)
  (Op.move (Operand.tmp 6)) none, VOp.mk (some 24) (Op.binOp BinOp.neq 3 (Operand.tmp 23) (Operand.const (Value.int IntKind.i64 0)) 3) none]).seq (VCode.cond (Operand.tmp 24)
  ((VCode.ops [VOp.mk (some 25) (Op.move (Operand.tmp 6)) none, VOp.mk (some 4) (Op.assign (Operand.tmp 25)) none]).seq VCode.ret) VCode.skip))).seq (((VCode.ops [VOp.mk (some 26)
  (Op.fieldAddr 29 (Operand.tmp 2) 2) none, VOp.mk (some 27) (Op.load 27 (Operand.tmp 26)) none, VOp.mk (some 28) (Op.call (Call.mk (Callee.builtin Builtin.len) #[Operand.tmp 27]
  #[27])) none, VOp.mk (some 29) (Op.fieldAddr 29 (Operand.tmp 3) 2) none, VOp.mk (some 30) (Op.load 27 (Operand.tmp 29)) none, VOp.mk (some 31) (Op.call (Call.mk (Callee.builtin
  Builtin.len) #[Operand.tmp 30] #[27])) none, VOp.mk (some 32) (Op.call (Call.mk (Callee.value (Operand.func 35)) #[Operand.tmp 28, Operand.tmp 31] #[3, 3])) none, VOp.mk (some 7)
  (Op.assign (Operand.tmp 32)) none]).seq ((VCode.ops [VOp.mk (some 33) (Op.move (Operand.tmp 7)) none, VOp.mk (some 34) (Op.binOp BinOp.neq 3 (Operand.tmp 33) (Operand.const
  (Value.int IntKind.i64 0)) 3) none]).seq (VCode.cond (Operand.tmp 34) ((VCode.ops [VOp.mk (some 35) (Op.move (Operand.tmp 7)) none, VOp.mk (some 4) (Op.assign (Operand.tmp 35))
  none]).seq VCode.ret) VCode.skip))).seq (((VCode.ops [VOp.mk (some 8) (Op.assign (Operand.const (Value.int IntKind.i64 0))) none]).seq (VCode.block 0 (((VCode.ops [VOp.mk (some
  36) (Op.move (Operand.tmp 8)) none, VOp.mk (some 37) (Op.fieldAddr 29 (Operand.tmp 2) 2) none, VOp.mk (some 38) (Op.load 27 (Operand.tmp 37)) none, VOp.mk (some 39) (Op.call
  (Call.mk (Callee.builtin Builtin.len) #[Operand.tmp 38] #[27])) none, VOp.mk (some 40) (Op.binOp BinOp.lss 3 (Operand.tmp 36) (Operand.tmp 39) 3) none]).seq (VCode.cond
  (Operand.tmp 40) VCode.skip (VCode.exit 0))).seq ((VCode.block 1 ((VCode.ops [VOp.mk (some 43) (Op.fieldAddr 29 (Operand.tmp 2) 2) none, VOp.mk (some 44) (Op.load 27 (Operand.tmp
  43)) none, VOp.mk (some 45) (Op.move (Operand.tmp 8)) none, VOp.mk (some 46) (Op.indexAddr 27 (Operand.tmp 44) (Operand.tmp 45)) none, VOp.mk (some 47) (Op.load 29 (Operand.tmp
  46)) none, VOp.mk (some 48) (Op.fieldAddr 29 (Operand.tmp 3) 2) none, VOp.mk (some 49) (Op.load 27 (Operand.tmp 48)) none, VOp.mk (some 50) (Op.move (Operand.tmp 8)) none, VOp.mk
  (some 51) (Op.indexAddr 27 (Operand.tmp 49) (Operand.tmp 50)) none, VOp.mk (some 52) (Op.load 29 (Operand.tmp 51)) none, VOp.mk (some 53) (Op.call (Call.mk (Callee.value
  (Operand.func 24)) #[Operand.tmp 47, Operand.tmp 52] #[29, 29])) none, VOp.mk (some 9) (Op.assign (Operand.tmp 53)) none]).seq ((VCode.ops [VOp.mk (some 54) (Op.move (Operand.tmp
  9)) none, VOp.mk (some 55) (Op.binOp BinOp.neq 3 (Operand.tmp 54) (Operand.const (Value.int IntKind.i64 0)) 3) none]).seq (VCode.cond (Operand.tmp 55) ((VCode.ops [VOp.mk (some
  56) (Op.move (Operand.tmp 9)) none, VOp.mk (some 4) (Op.assign (Operand.tmp 56)) none]).seq VCode.ret) VCode.skip)))).seq (VCode.ops [VOp.mk (some 41) (Op.move (Operand.tmp 8))
  none, VOp.mk (some 42) (Op.binOp BinOp.add 3 (Operand.tmp 41) (Operand.const (Value.int IntKind.i64 1)) 3) none, VOp.mk (some 8) (Op.assign (Operand.tmp 42)) none]))).loop)).seq
  ((VCode.ops [VOp.mk (some 4) (Op.assign (Operand.const (Value.int IntKind.i64 0))) none]).seq VCode.ret)))))
theorem fn24 : FnOk Try.prog 24 57 vc24 [ResultVar.tmp 4] := ⟨Try.f24, _, [], Try.func24, rfl, rfl, rfl, by kernel_rfl, by kernel_rfl, by kernel_rfl⟩

/-- slices.Clone[[]wafer/unify.fact,wafer/unify.fact] -/
def vc25 : VCode := (VCode.ops [VOp.mk (some 2) (Op.assign (Operand.const (Value.slice none 0 0))) none]).seq (((VCode.ops [VOp.mk (some 3) (Op.move (Operand.tmp 0)) none, VOp.mk
  (some 4) (Op.binOp BinOp.eql 51 (Operand.tmp 3) (Operand.const (Value.slice none 0 0)) 51) none]).seq (VCode.cond (Operand.tmp 4) ((VCode.ops [VOp.mk (some 2) (Op.assign
  (Operand.const (Value.slice none 0 0))) none]).seq VCode.ret) VCode.skip)).seq ((VCode.ops [VOp.mk (some 5) (Op.buildSlice 51 0 #[]) none, VOp.mk (some 6) (Op.move (Operand.tmp
  0)) none, VOp.mk (some 7) (Op.call (Call.mk (Callee.builtin Builtin.append) #[Operand.tmp 5, Operand.tmp 6] #[51, 51])) none, VOp.mk (some 2) (Op.assign (Operand.tmp 7))
  none]).seq VCode.ret))
theorem fn25 : FnOk Try.prog 25 8 vc25 [ResultVar.tmp 2] := ⟨Try.f25, _, [], Try.func25, rfl, rfl, rfl, by kernel_rfl, by kernel_rfl, by kernel_rfl⟩

/-- (*wafer/unify.Store).reach -/
def vc26 : VCode := (VCode.ops [VOp.mk (some 4) (Op.box 29 (Operand.tmp 1)) none, VOp.mk (some 5) (Op.box 29 (Operand.tmp 2)) none, VOp.mk (some 6) (Op.assign (Operand.const
  (Value.int IntKind.i64 0))) none]).seq ((VCode.opsW [(0, VOp.mk (some 7) (Op.load 29 (Operand.tmp 4)) none), (3, VOp.mk (some 10) (Op.load 29 (Operand.tmp 5)) none), (1, VOp.mk
  (some 8) (Op.call (Call.mk (Callee.value (Operand.func 36)) #[Operand.tmp 7] #[29])) none), (2, VOp.mk (some 9) (Op.binOp BinOp.add 3 (Operand.const (Value.int IntKind.i64 1))
  (Operand.tmp 8) 3) none), (4, VOp.mk (some 11) (Op.call (Call.mk (Callee.value (Operand.func 36)) #[Operand.tmp 10] #[29])) none), (5, VOp.mk (some 12) (Op.binOp BinOp.add 3
  (Operand.tmp 9) (Operand.tmp 11) 3) none), (6, VOp.mk (some 13) (Op.binOp BinOp.mul 3 (Operand.const (Value.int IntKind.i64 4004)) (Operand.tmp 12) 3) none), (7, VOp.mk (some 6)
  (Op.assign (Operand.tmp 13)) none)] [(1, [3])]).seq VCode.ret)
theorem fn26 : FnOk Try.prog 26 14 vc26 [ResultVar.tmp 6] := ⟨Try.f26, _, [(1, [([0, 3, 1, 2, 4, 5, 6, 7], [(1, [3])])])], Try.func26, rfl, rfl, rfl, by kernel_rfl, by kernel_rfl,
  by kernel_rfl⟩

/-- (*wafer/unify.Store).join -/
def vc27 : VCode := (VCode.ops [VOp.mk (some 5) (Op.box 29 (Operand.tmp 1)) none, VOp.mk (some 6) (Op.box 29 (Operand.tmp 2)) none, VOp.mk (some 8) (Op.assign (Operand.const
  (Value.bool false))) none]).seq ((VCode.opsW [(0, VOp.mk (some 10) (Op.move (Operand.tmp 0)) none), (1, VOp.mk (some 11) (Op.load 29 (Operand.tmp 5)) none), (3, VOp.mk (some 13)
  (Op.move (Operand.tmp 0)) none), (4, VOp.mk (some 14) (Op.load 29 (Operand.tmp 6)) none), (2, VOp.mk (some 12) (Op.call (Call.mk (Callee.value (Operand.func 33)) #[Operand.tmp 10,
  Operand.tmp 11] #[24, 29])) none), (5, VOp.mk (some 15) (Op.call (Call.mk (Callee.value (Operand.func 33)) #[Operand.tmp 13, Operand.tmp 14] #[24, 29])) none), (6, VOp.mk none
  (Op.store 29 (Operand.tmp 5) (Operand.tmp 12)) none), (7, VOp.mk none (Op.store 29 (Operand.tmp 6) (Operand.tmp 15)) none)] [(2, [4])]).seq (((VCode.ops [VOp.mk (some 16) (Op.move
  (Operand.tmp 3)) none, VOp.mk (some 17) (Op.call (Call.mk (Callee.value (Operand.func 37)) #[Operand.tmp 16] #[59])) none, VOp.mk (some 18) (Op.unOp UnOp.not 4 (Operand.tmp 17))
  none]).seq (VCode.cond (Operand.tmp 18) ((VCode.ops [VOp.mk (some 8) (Op.assign (Operand.const (Value.bool false))) none]).seq VCode.ret) VCode.skip)).seq ((VCode.block 0
  ((VCode.ops [VOp.mk (some 20) (Op.move (Operand.tmp 0)) none, VOp.mk (some 21) (Op.load 29 (Operand.tmp 5)) none, VOp.mk (some 22) (Op.call (Call.mk (Callee.value (Operand.func
  38)) #[Operand.tmp 20, Operand.tmp 21] #[24, 29])) none, VOp.mk (some 23) (Op.move (Operand.tmp 22)) none, VOp.mk (some 24) (Op.move (Operand.tmp 0)) (some (some 23, true)),
  VOp.mk (some 25) (Op.load 29 (Operand.tmp 6)) (some (some 23, true)), VOp.mk (some 26) (Op.call (Call.mk (Callee.value (Operand.func 38)) #[Operand.tmp 24, Operand.tmp 25] #[24,
  29])) (some (some 23, true)), VOp.mk (some 27) (Op.pick (Operand.tmp 23) (Operand.tmp 26) (Operand.const (Value.bool false))) none, VOp.mk (some 28) (Op.move (Operand.tmp 27))
  none, VOp.mk (some 29) (Op.fieldAddr 29 (Operand.tmp 5) 1) (some (some 28, true)), VOp.mk (some 30) (Op.load 3 (Operand.tmp 29)) (some (some 28, true)), VOp.mk (some 31)
  (Op.fieldAddr 29 (Operand.tmp 6) 1) (some (some 28, true)), VOp.mk (some 32) (Op.load 3 (Operand.tmp 31)) (some (some 28, true)), VOp.mk (some 33) (Op.binOp BinOp.eql 3
  (Operand.tmp 30) (Operand.tmp 32) 3) (some (some 28, true)), VOp.mk (some 34) (Op.pick (Operand.tmp 28) (Operand.tmp 33) (Operand.const (Value.bool false))) none, VOp.mk (some 19)
  (Op.assign (Operand.tmp 34)) none]).seq (VCode.cond (Operand.tmp 19) ((VCode.ops [VOp.mk (some 8) (Op.assign (Operand.const (Value.bool true))) none]).seq VCode.ret) ((VCode.ops
  [VOp.mk (some 36) (Op.move (Operand.tmp 0)) none, VOp.mk (some 37) (Op.load 29 (Operand.tmp 5)) none, VOp.mk (some 38) (Op.call (Call.mk (Callee.value (Operand.func 38))
  #[Operand.tmp 36, Operand.tmp 37] #[24, 29])) none, VOp.mk (some 39) (Op.move (Operand.tmp 38)) none, VOp.mk (some 40) (Op.move (Operand.tmp 0)) (some (some 39, true)), VOp.mk
  (some 41) (Op.load 29 (Operand.tmp 6)) (some (some 39, true)), VOp.mk (some 42) (Op.call (Call.mk (Callee.value (Operand.func 38)) #[Operand.tmp 40, Operand.tmp 41] #[24, 29]))
  (some (some 39, true)), VOp.mk (some 43) (Op.unOp UnOp.not 4 (Operand.tmp 42)) (some (some 39, true)), VOp.mk (some 44) (Op.move (Operand.tmp 43)) (some (some 39, true)), VOp.mk
  (some 45) (Op.fieldAddr 29 (Operand.tmp 5) 1) (some (some 44, false)), VOp.mk (some 46) (Op.load 3 (Operand.tmp 45)) (some (some 44, false)), VOp.mk (some 47) (Op.fieldAddr 29
  (Operand.tmp 6) 1) (some (some 44, false)), VOp.mk (some 48) (Op.load 3 (Operand.tmp 47)) (some (some 44, false)), VOp.mk (some 49) (Op.binOp BinOp.gtr 3 (Operand.tmp 46)
  (Operand.tmp 48) 3) (some (some 44, false)), VOp.mk (some 50) (Op.pick (Operand.tmp 44) (Operand.const (Value.bool true)) (Operand.tmp 49)) (some (some 39, true)), VOp.mk (some
  51) (Op.pick (Operand.tmp 39) (Operand.tmp 50) (Operand.const (Value.bool false))) none, VOp.mk (some 35) (Op.assign (Operand.tmp 51)) none]).seq (VCode.cond (Operand.tmp 35)
  ((VCode.ops [VOp.mk (some 52) (Op.move (Operand.tmp 0)) none, VOp.mk (some 53) (Op.nilCheck (Operand.tmp 52)) none, VOp.mk (some 54) (Op.fieldAddr 56 (Operand.tmp 53) 0) none,
  VOp.mk (some 55) (Op.load 51 (Operand.tmp 54)) none, VOp.mk (some 56) (Op.fieldAddr 29 (Operand.tmp 5) 1) none, VOp.mk (some 57) (Op.load 3 (Operand.tmp 56)) none, VOp.mk (some
  58) (Op.load 29 (Operand.tmp 6)) none, VOp.mk (some 59) (Op.build 54 #[(0, Operand.const (Value.bool true)), (1, Operand.tmp 58)]) none, VOp.mk (some 60) (Op.indexAddr 51
  (Operand.tmp 55) (Operand.tmp 57)) none, VOp.mk none (Op.store 54 (Operand.tmp 60) (Operand.tmp 59)) none]).seq ((VCode.ops [VOp.mk (some 8) (Op.assign (Operand.const (Value.bool
  true))) none]).seq VCode.ret)) ((VCode.ops [VOp.mk (some 62) (Op.move (Operand.tmp 0)) none, VOp.mk (some 63) (Op.load 29 (Operand.tmp 6)) none, VOp.mk (some 64) (Op.call (Call.mk
  (Callee.value (Operand.func 38)) #[Operand.tmp 62, Operand.tmp 63] #[24, 29])) none, VOp.mk (some 61) (Op.assign (Operand.tmp 64)) none]).seq (VCode.cond (Operand.tmp 61)
  ((VCode.ops [VOp.mk (some 65) (Op.move (Operand.tmp 0)) none, VOp.mk (some 66) (Op.nilCheck (Operand.tmp 65)) none, VOp.mk (some 67) (Op.fieldAddr 56 (Operand.tmp 66) 0) none,
  VOp.mk (some 68) (Op.load 51 (Operand.tmp 67)) none, VOp.mk (some 69) (Op.fieldAddr 29 (Operand.tmp 6) 1) none, VOp.mk (some 70) (Op.load 3 (Operand.tmp 69)) none, VOp.mk (some
  71) (Op.load 29 (Operand.tmp 5)) none, VOp.mk (some 72) (Op.build 54 #[(0, Operand.const (Value.bool true)), (1, Operand.tmp 71)]) none, VOp.mk (some 73) (Op.indexAddr 51
  (Operand.tmp 68) (Operand.tmp 70)) none, VOp.mk none (Op.store 54 (Operand.tmp 73) (Operand.tmp 72)) none]).seq ((VCode.ops [VOp.mk (some 8) (Op.assign (Operand.const (Value.bool
  true))) none]).seq VCode.ret)) VCode.skip))))))).seq (((VCode.ops [VOp.mk (some 74) (Op.fieldAddr 29 (Operand.tmp 5) 0) none, VOp.mk (some 75) (Op.load 3 (Operand.tmp 74)) none,
  VOp.mk (some 76) (Op.fieldAddr 29 (Operand.tmp 6) 0) none, VOp.mk (some 77) (Op.load 3 (Operand.tmp 76)) none, VOp.mk (some 78) (Op.binOp BinOp.neq 3 (Operand.tmp 75) (Operand.tmp
  77) 3) none, VOp.mk (some 79) (Op.move (Operand.tmp 78)) none, VOp.mk (some 80) (Op.fieldAddr 29 (Operand.tmp 5) 1) (some (some 79, false)), VOp.mk (some 81) (Op.load 3
  (Operand.tmp 80)) (some (some 79, false)), VOp.mk (some 82) (Op.fieldAddr 29 (Operand.tmp 6) 1) (some (some 79, false)), VOp.mk (some 83) (Op.load 3 (Operand.tmp 82)) (some (some
  79, false)), VOp.mk (some 84) (Op.binOp BinOp.neq 3 (Operand.tmp 81) (Operand.tmp 83) 3) (some (some 79, false)), VOp.mk (some 85) (Op.pick (Operand.tmp 79) (Operand.const
  (Value.bool true)) (Operand.tmp 84)) none, VOp.mk (some 86) (Op.move (Operand.tmp 85)) none, VOp.mk (some 87) (Op.fieldAddr 29 (Operand.tmp 5) 2) (some (some 86, false)), VOp.mk
  (some 88) (Op.load 27 (Operand.tmp 87)) (some (some 86, false)), VOp.mk (some 89) (Op.call (Call.mk (Callee.builtin Builtin.len) #[Operand.tmp 88] #[27])) (some (some 86, false)),
  VOp.mk (some 90) (Op.fieldAddr 29 (Operand.tmp 6) 2) (some (some 86, false)), VOp.mk (some 91) (Op.load 27 (Operand.tmp 90)) (some (some 86, false)), VOp.mk (some 92) (Op.call
  (Call.mk (Callee.builtin Builtin.len) #[Operand.tmp 91] #[27])) (some (some 86, false)), VOp.mk (some 93) (Op.binOp BinOp.neq 3 (Operand.tmp 89) (Operand.tmp 92) 3) (some (some
  86, false)), VOp.mk (some 94) (Op.pick (Operand.tmp 86) (Operand.const (Value.bool true)) (Operand.tmp 93)) none]).seq (VCode.cond (Operand.tmp 94) ((VCode.ops [VOp.mk (some 8)
  (Op.assign (Operand.const (Value.bool false))) none]).seq VCode.ret) VCode.skip)).seq (((VCode.ops [VOp.mk (some 95) (Op.fieldAddr 29 (Operand.tmp 5) 2) none, VOp.mk (some 96)
  (Op.load 27 (Operand.tmp 95)) none, VOp.mk (some 97) (Op.call (Call.mk (Callee.builtin Builtin.len) #[Operand.tmp 96] #[27])) none, VOp.mk (some 98) (Op.move (Operand.const
  (Value.int IntKind.i64 0))) none]).seq (VCode.block 1 ((VCode.ops [VOp.mk (some 99) (Op.binOp BinOp.lss 3 (Operand.tmp 98) (Operand.tmp 97) 3) none]).seq ((VCode.cond (Operand.tmp
  99) VCode.skip (VCode.exit 1)).seq ((VCode.block 2 ((VCode.ops [VOp.mk (some 100) (Op.move (Operand.tmp 98)) none, VOp.mk (some 9) (Op.assign (Operand.tmp 100)) none]).seq
  ((VCode.ops [VOp.mk (some 101) (Op.move (Operand.tmp 0)) none, VOp.mk (some 102) (Op.fieldAddr 29 (Operand.tmp 5) 2) none, VOp.mk (some 103) (Op.load 27 (Operand.tmp 102)) none,
  VOp.mk (some 104) (Op.move (Operand.tmp 9)) none, VOp.mk (some 105) (Op.indexAddr 27 (Operand.tmp 103) (Operand.tmp 104)) none, VOp.mk (some 106) (Op.load 29 (Operand.tmp 105))
  none, VOp.mk (some 107) (Op.fieldAddr 29 (Operand.tmp 6) 2) none, VOp.mk (some 108) (Op.load 27 (Operand.tmp 107)) none, VOp.mk (some 109) (Op.move (Operand.tmp 9)) none, VOp.mk
  (some 110) (Op.indexAddr 27 (Operand.tmp 108) (Operand.tmp 109)) none, VOp.mk (some 111) (Op.load 29 (Operand.tmp 110)) none, VOp.mk (some 112) (Op.move (Operand.tmp 3)) none,
  VOp.mk (some 113) (Op.call (Call.mk (Callee.value (Operand.func 27)) #[Operand.tmp 101, Operand.tmp 106, Operand.tmp 111, Operand.tmp 112] #[24, 29, 29, 59])) none, VOp.mk (some
  114) (Op.unOp UnOp.not 4 (Operand.tmp 113)) none]).seq (VCode.cond (Operand.tmp 114) ((VCode.ops [VOp.mk (some 8) (Op.assign (Operand.const (Value.bool false))) none]).seq
  VCode.ret) VCode.skip)))).seq (VCode.ops [VOp.mk (some 115) (Op.binOp BinOp.add 3 (Operand.tmp 98) (Operand.const (Value.int IntKind.i64 1)) 3) none, VOp.mk (some 98) (Op.move
  (Operand.tmp 115)) none])))).loop)).seq ((VCode.ops [VOp.mk (some 8) (Op.assign (Operand.const (Value.bool true))) none]).seq VCode.ret))))))
theorem fn27 : FnOk Try.prog 27 116 vc27 [ResultVar.tmp 8] := ⟨Try.f27, _, [(1, [([0, 1, 3, 4, 2, 5, 6, 7], [(2, [4])])])], Try.func27, rfl, rfl, rfl, by kernel_rfl, by kernel_rfl,
  by kernel_rfl⟩

/-- wafer/waferref08.counted -/
def vc28 : VCode := (VCode.ops [VOp.mk (some 2) (Op.box 29 (Operand.tmp 0)) none, VOp.mk (some 4) (Op.assign (Operand.const (Value.int IntKind.i64 0))) none]).seq ((VCode.ops
  [VOp.mk (some 6) (Op.move (Operand.tmp 1)) none, VOp.mk (some 7) (Op.binOp BinOp.add 3 (Operand.tmp 6) (Operand.const (Value.int IntKind.i64 1)) 3) none, VOp.mk (some 1)
  (Op.assign (Operand.tmp 7)) none]).seq (((VCode.ops [VOp.mk (some 5) (Op.assign (Operand.const (Value.int IntKind.i64 0))) none]).seq (VCode.block 0 (((VCode.ops [VOp.mk (some 8)
  (Op.move (Operand.tmp 5)) none, VOp.mk (some 9) (Op.fieldAddr 29 (Operand.tmp 2) 2) none, VOp.mk (some 10) (Op.load 27 (Operand.tmp 9)) none, VOp.mk (some 11) (Op.call (Call.mk
  (Callee.builtin Builtin.len) #[Operand.tmp 10] #[27])) none, VOp.mk (some 12) (Op.binOp BinOp.lss 3 (Operand.tmp 8) (Operand.tmp 11) 3) none, VOp.mk (some 13) (Op.move
  (Operand.tmp 12)) none, VOp.mk (some 14) (Op.move (Operand.tmp 1)) (some (some 13, true)), VOp.mk (some 15) (Op.binOp BinOp.leq 3 (Operand.tmp 14) (Operand.const (Value.int
  IntKind.i64 1000)) 3) (some (some 13, true)), VOp.mk (some 16) (Op.pick (Operand.tmp 13) (Operand.tmp 15) (Operand.const (Value.bool false))) none]).seq (VCode.cond (Operand.tmp
  16) VCode.skip (VCode.exit 0))).seq ((VCode.block 1 (VCode.ops [VOp.mk (some 19) (Op.fieldAddr 29 (Operand.tmp 2) 2) none, VOp.mk (some 20) (Op.load 27 (Operand.tmp 19)) none,
  VOp.mk (some 21) (Op.move (Operand.tmp 5)) none, VOp.mk (some 22) (Op.indexAddr 27 (Operand.tmp 20) (Operand.tmp 21)) none, VOp.mk (some 23) (Op.load 29 (Operand.tmp 22)) none,
  VOp.mk (some 24) (Op.move (Operand.tmp 1)) none, VOp.mk (some 25) (Op.call (Call.mk (Callee.value (Operand.func 28)) #[Operand.tmp 23, Operand.tmp 24] #[29, 3])) none, VOp.mk
  (some 1) (Op.assign (Operand.tmp 25)) none])).seq (VCode.ops [VOp.mk (some 17) (Op.move (Operand.tmp 5)) none, VOp.mk (some 18) (Op.binOp BinOp.add 3 (Operand.tmp 17)
  (Operand.const (Value.int IntKind.i64 1)) 3) none, VOp.mk (some 5) (Op.assign (Operand.tmp 18)) none]))).loop)).seq (((VCode.ops [VOp.mk (some 26) (Op.move (Operand.tmp 1)) none,
  VOp.mk (some 27) (Op.binOp BinOp.gtr 3 (Operand.tmp 26) (Operand.const (Value.int IntKind.i64 1000)) 3) none]).seq (VCode.cond (Operand.tmp 27) ((VCode.ops [VOp.mk (some 4)
  (Op.assign (Operand.const (Value.int IntKind.i64 1001))) none]).seq VCode.ret) VCode.skip)).seq ((VCode.ops [VOp.mk (some 28) (Op.move (Operand.tmp 1)) none, VOp.mk (some 4)
  (Op.assign (Operand.tmp 28)) none]).seq VCode.ret))))
theorem fn28 : FnOk Try.prog 28 29 vc28 [ResultVar.tmp 4] := ⟨Try.f28, _, [], Try.func28, rfl, rfl, rfl, by kernel_rfl, by kernel_rfl, by kernel_rfl⟩

/-- wafer/waferref08.found -/
def vc29 : VCode := (VCode.ops [VOp.mk (some 3) (Op.box 29 (Operand.tmp 0)) none, VOp.mk (some 6) (Op.assign (Operand.const (Value.slice none 0 0))) none]).seq (((VCode.ops [VOp.mk
  (some 8) (Op.fieldAddr 29 (Operand.tmp 3) 0) none, VOp.mk (some 9) (Op.load 3 (Operand.tmp 8)) none, VOp.mk (some 10) (Op.move (Operand.tmp 1)) none, VOp.mk (some 11) (Op.binOp
  BinOp.eql 3 (Operand.tmp 9) (Operand.tmp 10) 3) none, VOp.mk (some 12) (Op.move (Operand.tmp 11)) none, VOp.mk (some 13) (Op.move (Operand.tmp 2)) (some (some 12, true)), VOp.mk
  (some 14) (Op.fieldAddr 29 (Operand.tmp 3) 1) (some (some 12, true)), VOp.mk (some 15) (Op.load 3 (Operand.tmp 14)) (some (some 12, true)), VOp.mk (some 16) (Op.call (Call.mk
  (Callee.value (Operand.func 39)) #[Operand.tmp 13, Operand.tmp 15] #[41, 3])) (some (some 12, true)), VOp.mk (some 17) (Op.unOp UnOp.not 4 (Operand.tmp 16)) (some (some 12,
  true)), VOp.mk (some 18) (Op.pick (Operand.tmp 12) (Operand.tmp 17) (Operand.const (Value.bool false))) none]).seq (VCode.cond (Operand.tmp 18) (VCode.ops [VOp.mk (some 19)
  (Op.move (Operand.tmp 2)) none, VOp.mk (some 20) (Op.fieldAddr 29 (Operand.tmp 3) 1) none, VOp.mk (some 21) (Op.load 3 (Operand.tmp 20)) none, VOp.mk (some 22) (Op.buildSlice 41 1
  #[(0, Operand.tmp 21)]) none, VOp.mk (some 23) (Op.call (Call.mk (Callee.builtin Builtin.append) #[Operand.tmp 19, Operand.tmp 22] #[41, 41])) none, VOp.mk (some 2) (Op.assign
  (Operand.tmp 23)) none]) VCode.skip)).seq (((VCode.ops [VOp.mk (some 7) (Op.assign (Operand.const (Value.int IntKind.i64 0))) none]).seq (VCode.block 0 (((VCode.ops [VOp.mk (some
  24) (Op.move (Operand.tmp 7)) none, VOp.mk (some 25) (Op.fieldAddr 29 (Operand.tmp 3) 2) none, VOp.mk (some 26) (Op.load 27 (Operand.tmp 25)) none, VOp.mk (some 27) (Op.call
  (Call.mk (Callee.builtin Builtin.len) #[Operand.tmp 26] #[27])) none, VOp.mk (some 28) (Op.binOp BinOp.lss 3 (Operand.tmp 24) (Operand.tmp 27) 3) none]).seq (VCode.cond
  (Operand.tmp 28) VCode.skip (VCode.exit 0))).seq ((VCode.block 1 (VCode.ops [VOp.mk (some 31) (Op.fieldAddr 29 (Operand.tmp 3) 2) none, VOp.mk (some 32) (Op.load 27 (Operand.tmp
  31)) none, VOp.mk (some 33) (Op.move (Operand.tmp 7)) none, VOp.mk (some 34) (Op.indexAddr 27 (Operand.tmp 32) (Operand.tmp 33)) none, VOp.mk (some 35) (Op.load 29 (Operand.tmp
  34)) none, VOp.mk (some 36) (Op.move (Operand.tmp 1)) none, VOp.mk (some 37) (Op.move (Operand.tmp 2)) none, VOp.mk (some 38) (Op.call (Call.mk (Callee.value (Operand.func 29))
  #[Operand.tmp 35, Operand.tmp 36, Operand.tmp 37] #[29, 3, 41])) none, VOp.mk (some 2) (Op.assign (Operand.tmp 38)) none])).seq (VCode.ops [VOp.mk (some 29) (Op.move (Operand.tmp
  7)) none, VOp.mk (some 30) (Op.binOp BinOp.add 3 (Operand.tmp 29) (Operand.const (Value.int IntKind.i64 1)) 3) none, VOp.mk (some 7) (Op.assign (Operand.tmp 30))
  none]))).loop)).seq ((VCode.ops [VOp.mk (some 39) (Op.move (Operand.tmp 2)) none, VOp.mk (some 6) (Op.assign (Operand.tmp 39)) none]).seq VCode.ret)))
theorem fn29 : FnOk Try.prog 29 40 vc29 [ResultVar.tmp 6] := ⟨Try.f29, _, [], Try.func29, rfl, rfl, rfl, by kernel_rfl, by kernel_rfl, by kernel_rfl⟩

/-- (*wafer/unify.Store).seen -/
def vc33 : VCode := (VCode.ops [VOp.mk (some 3) (Op.box 29 (Operand.tmp 1)) none, VOp.mk (some 4) (Op.alloc 29) none]).seq ((VCode.block 0 (((VCode.ops [VOp.mk (some 5) (Op.move
  (Operand.tmp 0)) none, VOp.mk (some 6) (Op.load 29 (Operand.tmp 3)) none, VOp.mk (some 7) (Op.call (Call.mk (Callee.value (Operand.func 38)) #[Operand.tmp 5, Operand.tmp 6] #[24,
  29])) none, VOp.mk (some 8) (Op.move (Operand.tmp 7)) none, VOp.mk (some 9) (Op.move (Operand.tmp 0)) (some (some 8, true)), VOp.mk (some 10) (Op.nilCheck (Operand.tmp 9)) (some
  (some 8, true)), VOp.mk (some 11) (Op.fieldAddr 56 (Operand.tmp 10) 0) (some (some 8, true)), VOp.mk (some 12) (Op.load 51 (Operand.tmp 11)) (some (some 8, true)), VOp.mk (some
  13) (Op.fieldAddr 29 (Operand.tmp 3) 1) (some (some 8, true)), VOp.mk (some 14) (Op.load 3 (Operand.tmp 13)) (some (some 8, true)), VOp.mk (some 15) (Op.indexAddr 51 (Operand.tmp
  12) (Operand.tmp 14)) (some (some 8, true)), VOp.mk (some 16) (Op.fieldAddr 54 (Operand.tmp 15) 0) (some (some 8, true)), VOp.mk (some 17) (Op.load 4 (Operand.tmp 16)) (some (some
  8, true)), VOp.mk (some 18) (Op.pick (Operand.tmp 8) (Operand.tmp 17) (Operand.const (Value.bool false))) none]).seq (VCode.cond (Operand.tmp 18) VCode.skip (VCode.exit 0))).seq
  (VCode.block 1 (VCode.ops [VOp.mk (some 19) (Op.move (Operand.tmp 0)) none, VOp.mk (some 20) (Op.nilCheck (Operand.tmp 19)) none, VOp.mk (some 21) (Op.fieldAddr 56 (Operand.tmp
  20) 0) none, VOp.mk (some 22) (Op.load 51 (Operand.tmp 21)) none, VOp.mk (some 23) (Op.fieldAddr 29 (Operand.tmp 3) 1) none, VOp.mk (some 24) (Op.load 3 (Operand.tmp 23)) none,
  VOp.mk (some 25) (Op.indexAddr 51 (Operand.tmp 22) (Operand.tmp 24)) none, VOp.mk (some 26) (Op.fieldAddr 54 (Operand.tmp 25) 1) none, VOp.mk (some 27) (Op.load 29 (Operand.tmp
  26)) none, VOp.mk none (Op.store 29 (Operand.tmp 3) (Operand.tmp 27)) none]))).loop).seq (((VCode.ops [VOp.mk (some 28) (Op.move (Operand.tmp 0)) none, VOp.mk (some 29) (Op.load
  29 (Operand.tmp 3)) none, VOp.mk (some 30) (Op.call (Call.mk (Callee.value (Operand.func 38)) #[Operand.tmp 28, Operand.tmp 29] #[24, 29])) none]).seq (VCode.cond (Operand.tmp 30)
  ((VCode.ops [VOp.mk (some 31) (Op.fieldAddr 29 (Operand.tmp 3) 1) none, VOp.mk (some 32) (Op.load 3 (Operand.tmp 31)) none, VOp.mk (some 33) (Op.build 29 #[(0, Operand.const
  (Value.int IntKind.i64 7)), (1, Operand.tmp 32)]) none, VOp.mk none (Op.store 29 (Operand.tmp 4) (Operand.tmp 33)) none]).seq VCode.ret) VCode.skip)).seq ((VCode.ops [VOp.mk (some
  34) (Op.load 29 (Operand.tmp 3)) none, VOp.mk none (Op.store 29 (Operand.tmp 4) (Operand.tmp 34)) none]).seq VCode.ret)))
theorem fn33 : FnOk Try.prog 33 35 vc33 [ResultVar.cell 4 29] := ⟨Try.f33, _, [], Try.func33, rfl, rfl, rfl, by kernel_rfl, by kernel_rfl, by kernel_rfl⟩

/-- slices.Clone[[]wafer/api.Type,wafer/api.Type] -/
def vc34 : VCode := (VCode.ops [VOp.mk (some 2) (Op.assign (Operand.const (Value.slice none 0 0))) none]).seq (((VCode.ops [VOp.mk (some 3) (Op.move (Operand.tmp 0)) none, VOp.mk
  (some 4) (Op.binOp BinOp.eql 27 (Operand.tmp 3) (Operand.const (Value.slice none 0 0)) 27) none]).seq (VCode.cond (Operand.tmp 4) ((VCode.ops [VOp.mk (some 2) (Op.assign
  (Operand.const (Value.slice none 0 0))) none]).seq VCode.ret) VCode.skip)).seq ((VCode.ops [VOp.mk (some 5) (Op.buildSlice 27 0 #[]) none, VOp.mk (some 6) (Op.move (Operand.tmp
  0)) none, VOp.mk (some 7) (Op.call (Call.mk (Callee.builtin Builtin.append) #[Operand.tmp 5, Operand.tmp 6] #[27, 27])) none, VOp.mk (some 2) (Op.assign (Operand.tmp 7))
  none]).seq VCode.ret))
theorem fn34 : FnOk Try.prog 34 8 vc34 [ResultVar.tmp 2] := ⟨Try.f34, _, [], Try.func34, rfl, rfl, rfl, by kernel_rfl, by kernel_rfl, by kernel_rfl⟩

/-- wafer/waferref08.number -/
def vc35 : VCode := (VCode.ops [VOp.mk (some 4) (Op.assign (Operand.const (Value.int IntKind.i64 0))) none]).seq (((VCode.ops [VOp.mk (some 5) (Op.move (Operand.tmp 0)) none, VOp.mk
  (some 6) (Op.move (Operand.tmp 1)) none, VOp.mk (some 7) (Op.binOp BinOp.lss 3 (Operand.tmp 5) (Operand.tmp 6) 3) none]).seq (VCode.cond (Operand.tmp 7) ((VCode.ops [VOp.mk (some
  4) (Op.assign (Operand.const (Value.int IntKind.i64 (-1)))) none]).seq VCode.ret) VCode.skip)).seq (((VCode.ops [VOp.mk (some 8) (Op.move (Operand.tmp 0)) none, VOp.mk (some 9)
  (Op.move (Operand.tmp 1)) none, VOp.mk (some 10) (Op.binOp BinOp.gtr 3 (Operand.tmp 8) (Operand.tmp 9) 3) none]).seq (VCode.cond (Operand.tmp 10) ((VCode.ops [VOp.mk (some 4)
  (Op.assign (Operand.const (Value.int IntKind.i64 1))) none]).seq VCode.ret) VCode.skip)).seq ((VCode.ops [VOp.mk (some 4) (Op.assign (Operand.const (Value.int IntKind.i64 0)))
  none]).seq VCode.ret)))
theorem fn35 : FnOk Try.prog 35 11 vc35 [ResultVar.tmp 4] := ⟨Try.f35, _, [], Try.func35, rfl, rfl, rfl, by kernel_rfl, by kernel_rfl, by kernel_rfl⟩

/-- wafer/unify.count -/
def vc36 : VCode := (VCode.ops [VOp.mk (some 1) (Op.box 29 (Operand.tmp 0)) none, VOp.mk (some 2) (Op.assign (Operand.const (Value.int IntKind.i64 0))) none]).seq ((VCode.ops
  [VOp.mk (some 3) (Op.assign (Operand.const (Value.int IntKind.i64 1))) none]).seq (((VCode.ops [VOp.mk (some 6) (Op.fieldAddr 29 (Operand.tmp 1) 2) none, VOp.mk (some 7) (Op.load
  27 (Operand.tmp 6)) none, VOp.mk (some 8) (Op.call (Call.mk (Callee.builtin Builtin.len) #[Operand.tmp 7] #[27])) none, VOp.mk (some 9) (Op.move (Operand.const (Value.int
  IntKind.i64 0))) none]).seq (VCode.block 0 ((VCode.ops [VOp.mk (some 10) (Op.binOp BinOp.lss 3 (Operand.tmp 9) (Operand.tmp 8) 3) none]).seq ((VCode.cond (Operand.tmp 10)
  VCode.skip (VCode.exit 0)).seq ((VCode.block 1 ((VCode.ops [VOp.mk (some 11) (Op.indexAddr 27 (Operand.tmp 7) (Operand.tmp 9)) none, VOp.mk (some 12) (Op.load 29 (Operand.tmp 11))
  none, VOp.mk (some 5) (Op.alloc 29) none, VOp.mk none (Op.store 29 (Operand.tmp 5) (Operand.tmp 12)) none]).seq (VCode.ops [VOp.mk (some 13) (Op.move (Operand.tmp 3)) none, VOp.mk
  (some 14) (Op.load 29 (Operand.tmp 5)) none, VOp.mk (some 15) (Op.call (Call.mk (Callee.value (Operand.func 36)) #[Operand.tmp 14] #[29])) none, VOp.mk (some 16) (Op.binOp
  BinOp.add 3 (Operand.tmp 13) (Operand.tmp 15) 3) none, VOp.mk (some 3) (Op.assign (Operand.tmp 16)) none]))).seq (VCode.ops [VOp.mk (some 17) (Op.binOp BinOp.add 3 (Operand.tmp 9)
  (Operand.const (Value.int IntKind.i64 1)) 3) none, VOp.mk (some 9) (Op.move (Operand.tmp 17)) none])))).loop)).seq ((VCode.ops [VOp.mk (some 18) (Op.move (Operand.tmp 3)) none,
  VOp.mk (some 2) (Op.assign (Operand.tmp 18)) none]).seq VCode.ret)))
theorem fn36 : FnOk Try.prog 36 19 vc36 [ResultVar.tmp 2] := ⟨Try.f36, _, [], Try.func36, rfl, rfl, rfl, by kernel_rfl, by kernel_rfl, by kernel_rfl⟩

/-- (*wafer/unify.budget).spend -/
def vc37 : VCode := (VCode.ops [VOp.mk (some 2) (Op.assign (Operand.const (Value.bool false))) none]).seq ((VCode.ops [VOp.mk (some 3) (Op.move (Operand.tmp 0)) none, VOp.mk (some
  4) (Op.nilCheck (Operand.tmp 3)) none, VOp.mk (some 5) (Op.load 57 (Operand.tmp 4)) none, VOp.mk (some 6) (Op.binOp BinOp.sub 57 (Operand.tmp 5) (Operand.const (Value.int
  IntKind.i64 1)) 57) none, VOp.mk (some 7) (Op.nilCheck (Operand.tmp 3)) none, VOp.mk none (Op.store 57 (Operand.tmp 7) (Operand.tmp 6)) none]).seq ((VCode.ops [VOp.mk (some 8)
  (Op.move (Operand.tmp 0)) none, VOp.mk (some 9) (Op.nilCheck (Operand.tmp 8)) none, VOp.mk (some 10) (Op.load 57 (Operand.tmp 9)) none, VOp.mk (some 11) (Op.binOp BinOp.geq 57
  (Operand.tmp 10) (Operand.const (Value.int IntKind.i64 0)) 57) none, VOp.mk (some 2) (Op.assign (Operand.tmp 11)) none]).seq VCode.ret))
theorem fn37 : FnOk Try.prog 37 12 vc37 [ResultVar.tmp 2] := ⟨Try.f37, _, [], Try.func37, rfl, rfl, rfl, by kernel_rfl, by kernel_rfl, by kernel_rfl⟩

/-- (*wafer/unify.Store).own -/
def vc38 : VCode := (VCode.ops [VOp.mk (some 3) (Op.box 29 (Operand.tmp 1)) none, VOp.mk (some 4) (Op.assign (Operand.const (Value.bool false))) none]).seq ((VCode.ops [VOp.mk (some
  5) (Op.fieldAddr 29 (Operand.tmp 3) 0) none, VOp.mk (some 6) (Op.load 3 (Operand.tmp 5)) none, VOp.mk (some 7) (Op.binOp BinOp.eql 3 (Operand.tmp 6) (Operand.const (Value.int
  IntKind.i64 7)) 3) none, VOp.mk (some 8) (Op.move (Operand.tmp 7)) none, VOp.mk (some 9) (Op.fieldAddr 29 (Operand.tmp 3) 1) (some (some 8, true)), VOp.mk (some 10) (Op.load 3
  (Operand.tmp 9)) (some (some 8, true)), VOp.mk (some 11) (Op.binOp BinOp.geq 3 (Operand.tmp 10) (Operand.const (Value.int IntKind.i64 0)) 3) (some (some 8, true)), VOp.mk (some
  12) (Op.pick (Operand.tmp 8) (Operand.tmp 11) (Operand.const (Value.bool false))) none, VOp.mk (some 13) (Op.move (Operand.tmp 12)) none, VOp.mk (some 14) (Op.fieldAddr 29
  (Operand.tmp 3) 1) (some (some 13, true)), VOp.mk (some 15) (Op.load 3 (Operand.tmp 14)) (some (some 13, true)), VOp.mk (some 16) (Op.move (Operand.tmp 0)) (some (some 13, true)),
  VOp.mk (some 17) (Op.nilCheck (Operand.tmp 16)) (some (some 13, true)), VOp.mk (some 18) (Op.fieldAddr 56 (Operand.tmp 17) 0) (some (some 13, true)), VOp.mk (some 19) (Op.load 51
  (Operand.tmp 18)) (some (some 13, true)), VOp.mk (some 20) (Op.call (Call.mk (Callee.builtin Builtin.len) #[Operand.tmp 19] #[51])) (some (some 13, true)), VOp.mk (some 21)
  (Op.binOp BinOp.lss 3 (Operand.tmp 15) (Operand.tmp 20) 3) (some (some 13, true)), VOp.mk (some 22) (Op.pick (Operand.tmp 13) (Operand.tmp 21) (Operand.const (Value.bool false)))
  none, VOp.mk (some 23) (Op.move (Operand.tmp 22)) none, VOp.mk (some 24) (Op.fieldAddr 29 (Operand.tmp 3) 2) (some (some 23, true)), VOp.mk (some 25) (Op.load 27 (Operand.tmp 24))
  (some (some 23, true)), VOp.mk (some 26) (Op.call (Call.mk (Callee.builtin Builtin.len) #[Operand.tmp 25] #[27])) (some (some 23, true)), VOp.mk (some 27) (Op.binOp BinOp.eql 3
  (Operand.tmp 26) (Operand.const (Value.int IntKind.i64 0)) 3) (some (some 23, true)), VOp.mk (some 28) (Op.pick (Operand.tmp 23) (Operand.tmp 27) (Operand.const (Value.bool
  false))) none, VOp.mk (some 4) (Op.assign (Operand.tmp 28)) none]).seq VCode.ret)
theorem fn38 : FnOk Try.prog 38 29 vc38 [ResultVar.tmp 4] := ⟨Try.f38, _, [], Try.func38, rfl, rfl, rfl, by kernel_rfl, by kernel_rfl, by kernel_rfl⟩

/-- wafer/waferref08.In -/
def vc39 : VCode := (VCode.ops [VOp.mk (some 4) (Op.assign (Operand.const (Value.bool false))) none]).seq (((VCode.ops [VOp.mk (some 5) (Op.assign (Operand.const (Value.int
  IntKind.i64 0))) none]).seq (VCode.block 0 (((VCode.ops [VOp.mk (some 6) (Op.move (Operand.tmp 5)) none, VOp.mk (some 7) (Op.move (Operand.tmp 0)) none, VOp.mk (some 8) (Op.call
  (Call.mk (Callee.builtin Builtin.len) #[Operand.tmp 7] #[41])) none, VOp.mk (some 9) (Op.binOp BinOp.lss 3 (Operand.tmp 6) (Operand.tmp 8) 3) none]).seq (VCode.cond (Operand.tmp
  9) VCode.skip (VCode.exit 0))).seq ((VCode.block 1 ((VCode.ops [VOp.mk (some 12) (Op.move (Operand.tmp 0)) none, VOp.mk (some 13) (Op.move (Operand.tmp 5)) none, VOp.mk (some 14)
  (Op.indexAddr 41 (Operand.tmp 12) (Operand.tmp 13)) none, VOp.mk (some 15) (Op.load 3 (Operand.tmp 14)) none, VOp.mk (some 16) (Op.move (Operand.tmp 1)) none, VOp.mk (some 17)
  (Op.binOp BinOp.eql 3 (Operand.tmp 15) (Operand.tmp 16) 3) none]).seq (VCode.cond (Operand.tmp 17) ((VCode.ops [VOp.mk (some 4) (Op.assign (Operand.const (Value.bool true)))
  none]).seq VCode.ret) VCode.skip))).seq (VCode.ops [VOp.mk (some 10) (Op.move (Operand.tmp 5)) none, VOp.mk (some 11) (Op.binOp BinOp.add 3 (Operand.tmp 10) (Operand.const
  (Value.int IntKind.i64 1)) 3) none, VOp.mk (some 5) (Op.assign (Operand.tmp 11)) none]))).loop)).seq ((VCode.ops [VOp.mk (some 4) (Op.assign (Operand.const (Value.bool false)))
  none]).seq VCode.ret))
theorem fn39 : FnOk Try.prog 39 18 vc39 [ResultVar.tmp 4] := ⟨Try.f39, _, [], Try.func39, rfl, rfl, rfl, by kernel_rfl, by kernel_rfl, by kernel_rfl⟩

end Go.Vt.Try
