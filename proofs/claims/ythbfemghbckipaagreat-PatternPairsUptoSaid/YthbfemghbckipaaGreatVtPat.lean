/- Types and functions of this seat, at the level of values (printed). -/
import Derived.Test.YthbfemghbckipaaGreatProg
import Derived.Test.YthbfemghbckipaaGreatVtSeat
set_option maxRecDepth 100000
namespace Go.Vt.Tryz
open Go.Proofs

theorem ti2 : ti Tryz.prog 2 = some (TI.mk 1 8 false (some (V.one (L.d (D.int IntKind.i64 (0))))) (TK.int IntKind.i64) [] none) := by kernel_rfl

theorem ti3 : ti Tryz.prog 3 = some (TI.mk 1 8 false (some (V.one (L.d (D.int IntKind.i64 (0))))) (TK.int IntKind.i64) [] none) := by kernel_rfl

theorem ti4 : ti Tryz.prog 4 = some (TI.mk 1 1 false (some (V.one (L.d (D.bool false)))) TK.bool [] none) := by kernel_rfl

theorem ti9 : ti Tryz.prog 9 = some (TI.mk 1 16 false (some (V.one (L.d (D.str (ByteArray.mk (Array.mk [])))))) TK.str [] none) := by kernel_rfl

theorem ti22 : ti Tryz.prog 22 = some (TI.mk 1 24 false (some (V.one L.nils)) TK.slice [] (some (EI.mk 1 16 (some (V.one (L.d (D.str (ByteArray.mk (Array.mk [])))))) false))) := by
  kernel_rfl

theorem ti23 : ti Tryz.prog 23 = some (TI.mk 1 24 false (some (V.one L.nils)) TK.slice [] (some (EI.mk 5 80 (some (V.agg [L.d (D.int IntKind.i64 (0)), L.d (D.str (ByteArray.mk
  (Array.mk []))), L.nils, L.d (D.int IntKind.i64 (0)), L.nils])) true))) := by kernel_rfl

theorem ti25 : ti Tryz.prog 25 = some (TI.mk 5 80 true (some (V.agg [L.d (D.int IntKind.i64 (0)), L.d (D.str (ByteArray.mk (Array.mk []))), L.nils, L.d (D.int IntKind.i64 (0)),
  L.nils])) TK.struct [(0, 1, false), (1, 1, false), (2, 1, false), (3, 1, false), (4, 1, false)] none) := by kernel_rfl

theorem ti26 : ti Tryz.prog 26 = some (TI.mk 1 24 false (some (V.one L.nils)) TK.slice [] (some (EI.mk 4 56 (some (V.agg [L.d (D.int IntKind.i64 (0)), L.d (D.int IntKind.i64 (0)),
  L.d (D.str (ByteArray.mk (Array.mk []))), L.nils])) true))) := by kernel_rfl

theorem ti28 : ti Tryz.prog 28 = some (TI.mk 4 56 true (some (V.agg [L.d (D.int IntKind.i64 (0)), L.d (D.int IntKind.i64 (0)), L.d (D.str (ByteArray.mk (Array.mk []))), L.nils]))
  TK.struct [(0, 1, false), (1, 1, false), (2, 1, false), (3, 1, false)] none) := by kernel_rfl

/-- wafer/waferlaw15.PatternNames -/
def vc3 : VCode := (VCode.ops [VOp.mk (some 2) (Op.box 25 (Operand.tmp 0)) none, VOp.mk (some 3) (Op.box 28 (Operand.tmp 1)) none, VOp.mk (some 4) (Op.assign (Operand.const
  (Value.bool false))) none]).seq ((VCode.ops [VOp.mk (some 15) (Op.load 25 (Operand.tmp 2)) none, VOp.mk (some 16) (Op.load 28 (Operand.tmp 3)) none, VOp.mk (some 17) (Op.call
  (Call.mk (Callee.value (Operand.func 5)) #[Operand.tmp 15, Operand.tmp 16] #[25, 28])) none, VOp.mk (some 14) (Op.move (Operand.tmp 17)) none, VOp.mk (some 18) (Op.extract
  (Operand.tmp 14) 0) none, VOp.mk (some 19) (Op.extract (Operand.tmp 14) 1) none, VOp.mk (some 20) (Op.extract (Operand.tmp 14) 2) none, VOp.mk (some 5) (Op.assign (Operand.tmp
  18)) none, VOp.mk (some 6) (Op.assign (Operand.tmp 19)) none, VOp.mk (some 7) (Op.assign (Operand.tmp 20)) none]).seq ((VCode.opsW [(0, VOp.mk (some 22) (Op.load 25 (Operand.tmp
  2)) none), (2, VOp.mk (some 24) (Op.load 28 (Operand.tmp 3)) none), (1, VOp.mk (some 23) (Op.call (Call.mk (Callee.value (Operand.func 6)) #[Operand.tmp 22] #[25])) none), (3,
  VOp.mk (some 25) (Op.call (Call.mk (Callee.value (Operand.func 5)) #[Operand.tmp 23, Operand.tmp 24] #[25, 28])) none), (4, VOp.mk (some 21) (Op.move (Operand.tmp 25)) none), (5,
  VOp.mk (some 26) (Op.extract (Operand.tmp 21) 0) none), (6, VOp.mk (some 27) (Op.extract (Operand.tmp 21) 1) none), (7, VOp.mk (some 28) (Op.extract (Operand.tmp 21) 2) none), (8,
  VOp.mk (some 8) (Op.assign (Operand.tmp 26)) none), (9, VOp.mk (some 9) (Op.assign (Operand.tmp 27)) none), (10, VOp.mk (some 10) (Op.assign (Operand.tmp 28)) none)] [(1,
  [2])]).seq ((VCode.ops [VOp.mk (some 30) (Op.build 25 #[(0, Operand.const (Value.int IntKind.i64 1))]) none, VOp.mk (some 31) (Op.load 28 (Operand.tmp 3)) none, VOp.mk (some 32)
  (Op.call (Call.mk (Callee.value (Operand.func 5)) #[Operand.tmp 30, Operand.tmp 31] #[25, 28])) none, VOp.mk (some 29) (Op.move (Operand.tmp 32)) none, VOp.mk (some 33)
  (Op.extract (Operand.tmp 29) 0) none, VOp.mk (some 34) (Op.extract (Operand.tmp 29) 1) none, VOp.mk (some 35) (Op.extract (Operand.tmp 29) 2) none, VOp.mk (some 11) (Op.assign
  (Operand.tmp 33)) none, VOp.mk (some 12) (Op.assign (Operand.tmp 34)) none, VOp.mk (some 13) (Op.assign (Operand.tmp 35)) none]).seq ((VCode.ops [VOp.mk (some 36) (Op.move
  (Operand.tmp 7)) none, VOp.mk (some 37) (Op.move (Operand.tmp 10)) none, VOp.mk (some 38) (Op.binOp BinOp.eql 4 (Operand.tmp 36) (Operand.tmp 37) 4) none, VOp.mk (some 39)
  (Op.move (Operand.tmp 38)) none, VOp.mk (some 40) (Op.move (Operand.tmp 8)) (some (some 39, true)), VOp.mk (some 41) (Op.call (Call.mk (Callee.builtin Builtin.len) #[Operand.tmp
  40] #[22])) (some (some 39, true)), VOp.mk (some 42) (Op.binOp BinOp.eql 3 (Operand.tmp 41) (Operand.const (Value.int IntKind.i64 0)) 3) (some (some 39, true)), VOp.mk (some 43)
  (Op.pick (Operand.tmp 39) (Operand.tmp 42) (Operand.const (Value.bool false))) none, VOp.mk (some 44) (Op.move (Operand.tmp 43)) none, VOp.mk (some 45) (Op.move (Operand.tmp 13))
  (some (some 44, true)), VOp.mk (some 46) (Op.pick (Operand.tmp 44) (Operand.tmp 45) (Operand.const (Value.bool false))) none, VOp.mk (some 47) (Op.move (Operand.tmp 46)) none,
  VOp.mk (some 48) (Op.move (Operand.tmp 5)) (some (some 47, true)), VOp.mk (some 49) (Op.call (Call.mk (Callee.builtin Builtin.len) #[Operand.tmp 48] #[22])) (some (some 47,
  true)), VOp.mk (some 50) (Op.move (Operand.tmp 6)) (some (some 47, true)), VOp.mk (some 51) (Op.call (Call.mk (Callee.builtin Builtin.len) #[Operand.tmp 50] #[26])) (some (some
  47, true)), VOp.mk (some 52) (Op.binOp BinOp.eql 3 (Operand.tmp 49) (Operand.tmp 51) 3) (some (some 47, true)), VOp.mk (some 53) (Op.pick (Operand.tmp 47) (Operand.tmp 52)
  (Operand.const (Value.bool false))) none, VOp.mk (some 54) (Op.move (Operand.tmp 53)) none, VOp.mk (some 55) (Op.move (Operand.tmp 7)) (some (some 54, true)), VOp.mk (some 56)
  (Op.move (Operand.tmp 55)) (some (some 54, true)), VOp.mk (some 57) (Op.move (Operand.tmp 5)) (some (some 56, false)), VOp.mk (some 58) (Op.call (Call.mk (Callee.builtin
  Builtin.len) #[Operand.tmp 57] #[22])) (some (some 56, false)), VOp.mk (some 59) (Op.binOp BinOp.eql 3 (Operand.tmp 58) (Operand.const (Value.int IntKind.i64 0)) 3) (some (some
  56, false)), VOp.mk (some 60) (Op.pick (Operand.tmp 56) (Operand.const (Value.bool true)) (Operand.tmp 59)) (some (some 54, true)), VOp.mk (some 61) (Op.pick (Operand.tmp 54)
  (Operand.tmp 60) (Operand.const (Value.bool false))) none, VOp.mk (some 62) (Op.move (Operand.tmp 61)) none, VOp.mk (some 63) (Op.call (Call.mk (Callee.value (Operand.func 7)) #[]
  #[])) (some (some 62, true)), VOp.mk (some 64) (Op.pick (Operand.tmp 62) (Operand.tmp 63) (Operand.const (Value.bool false))) none, VOp.mk (some 4) (Op.assign (Operand.tmp 64))
  none]).seq VCode.ret))))
theorem fn3 : FnOk Tryz.prog 3 65 vc3 [ResultVar.tmp 4] := ⟨Tryz.f3, _, [(2, [([0, 2, 1, 3, 4, 5, 6, 7, 8, 9, 10], [(1, [2])])])], Tryz.func3, rfl, rfl, rfl, by kernel_rfl, by
  kernel_rfl, by kernel_rfl⟩

/-- wafer/waferlaw15.PatternPairs -/
def vc4 : VCode := (VCode.ops [VOp.mk (some 4) (Op.box 25 (Operand.tmp 0)) none, VOp.mk (some 5) (Op.box 25 (Operand.tmp 1)) none, VOp.mk (some 6) (Op.box 28 (Operand.tmp 2)) none,
  VOp.mk (some 7) (Op.box 28 (Operand.tmp 3)) none, VOp.mk (some 8) (Op.assign (Operand.const (Value.bool false))) none]).seq ((VCode.ops [VOp.mk (some 22) (Op.load 25 (Operand.tmp
  4)) none, VOp.mk (some 23) (Op.load 28 (Operand.tmp 6)) none, VOp.mk (some 24) (Op.call (Call.mk (Callee.value (Operand.func 5)) #[Operand.tmp 22, Operand.tmp 23] #[25, 28]))
  none, VOp.mk (some 21) (Op.move (Operand.tmp 24)) none, VOp.mk (some 25) (Op.extract (Operand.tmp 21) 0) none, VOp.mk (some 26) (Op.extract (Operand.tmp 21) 1) none, VOp.mk (some
  27) (Op.extract (Operand.tmp 21) 2) none, VOp.mk (some 9) (Op.assign (Operand.tmp 25)) none, VOp.mk (some 10) (Op.assign (Operand.tmp 26)) none, VOp.mk (some 11) (Op.assign
  (Operand.tmp 27)) none]).seq ((VCode.ops [VOp.mk (some 29) (Op.load 25 (Operand.tmp 5)) none, VOp.mk (some 30) (Op.load 28 (Operand.tmp 7)) none, VOp.mk (some 31) (Op.call
  (Call.mk (Callee.value (Operand.func 5)) #[Operand.tmp 29, Operand.tmp 30] #[25, 28])) none, VOp.mk (some 28) (Op.move (Operand.tmp 31)) none, VOp.mk (some 32) (Op.extract
  (Operand.tmp 28) 0) none, VOp.mk (some 33) (Op.extract (Operand.tmp 28) 1) none, VOp.mk (some 34) (Op.extract (Operand.tmp 28) 2) none, VOp.mk (some 12) (Op.assign (Operand.tmp
  32)) none, VOp.mk (some 13) (Op.assign (Operand.tmp 33)) none, VOp.mk (some 14) (Op.assign (Operand.tmp 34)) none]).seq ((VCode.ops [VOp.mk (some 36) (Op.load 25 (Operand.tmp 4))
  none, VOp.mk (some 37) (Op.load 25 (Operand.tmp 5)) none, VOp.mk (some 38) (Op.buildSlice 23 2 #[(0, Operand.tmp 36), (1, Operand.tmp 37)]) none, VOp.mk (some 39) (Op.build 25
  #[(0, Operand.const (Value.int IntKind.i64 7)), (4, Operand.tmp 38)]) none, VOp.mk (some 40) (Op.load 28 (Operand.tmp 6)) none, VOp.mk (some 41) (Op.load 28 (Operand.tmp 7)) none,
  VOp.mk (some 42) (Op.buildSlice 26 2 #[(0, Operand.tmp 40), (1, Operand.tmp 41)]) none, VOp.mk (some 43) (Op.build 28 #[(0, Operand.const (Value.int IntKind.i64 4)), (3,
  Operand.tmp 42)]) none, VOp.mk (some 44) (Op.call (Call.mk (Callee.value (Operand.func 5)) #[Operand.tmp 39, Operand.tmp 43] #[25, 28])) none, VOp.mk (some 35) (Op.move
  (Operand.tmp 44)) none, VOp.mk (some 45) (Op.extract (Operand.tmp 35) 0) none, VOp.mk (some 46) (Op.extract (Operand.tmp 35) 1) none, VOp.mk (some 47) (Op.extract (Operand.tmp 35)
  2) none, VOp.mk (some 15) (Op.assign (Operand.tmp 45)) none, VOp.mk (some 16) (Op.assign (Operand.tmp 46)) none, VOp.mk (some 17) (Op.assign (Operand.tmp 47)) none]).seq
  (((VCode.ops [VOp.mk (some 48) (Op.move (Operand.tmp 17)) none, VOp.mk (some 49) (Op.move (Operand.tmp 11)) none, VOp.mk (some 50) (Op.move (Operand.tmp 49)) none, VOp.mk (some
  51) (Op.move (Operand.tmp 14)) (some (some 50, true)), VOp.mk (some 52) (Op.pick (Operand.tmp 50) (Operand.tmp 51) (Operand.const (Value.bool false))) none, VOp.mk (some 53)
  (Op.binOp BinOp.neq 4 (Operand.tmp 48) (Operand.tmp 52) 4) none, VOp.mk (some 54) (Op.move (Operand.tmp 53)) none, VOp.mk (some 55) (Op.call (Call.mk (Callee.value (Operand.func
  7)) #[] #[])) (some (some 54, false)), VOp.mk (some 56) (Op.unOp UnOp.not 4 (Operand.tmp 55)) (some (some 54, false)), VOp.mk (some 57) (Op.pick (Operand.tmp 54) (Operand.const
  (Value.bool true)) (Operand.tmp 56)) none]).seq (VCode.cond (Operand.tmp 57) ((VCode.ops [VOp.mk (some 8) (Op.assign (Operand.const (Value.bool false))) none]).seq VCode.ret)
  VCode.skip)).seq (((VCode.ops [VOp.mk (some 58) (Op.move (Operand.tmp 17)) none, VOp.mk (some 59) (Op.unOp UnOp.not 4 (Operand.tmp 58)) none]).seq (VCode.cond (Operand.tmp 59)
  ((VCode.ops [VOp.mk (some 60) (Op.move (Operand.tmp 15)) none, VOp.mk (some 61) (Op.call (Call.mk (Callee.builtin Builtin.len) #[Operand.tmp 60] #[22])) none, VOp.mk (some 62)
  (Op.binOp BinOp.eql 3 (Operand.tmp 61) (Operand.const (Value.int IntKind.i64 0)) 3) none, VOp.mk (some 63) (Op.move (Operand.tmp 62)) none, VOp.mk (some 64) (Op.move (Operand.tmp
  16)) (some (some 63, true)), VOp.mk (some 65) (Op.call (Call.mk (Callee.builtin Builtin.len) #[Operand.tmp 64] #[26])) (some (some 63, true)), VOp.mk (some 66) (Op.binOp BinOp.eql
  3 (Operand.tmp 65) (Operand.const (Value.int IntKind.i64 0)) 3) (some (some 63, true)), VOp.mk (some 67) (Op.pick (Operand.tmp 63) (Operand.tmp 66) (Operand.const (Value.bool
  false))) none, VOp.mk (some 8) (Op.assign (Operand.tmp 67)) none]).seq VCode.ret) VCode.skip)).seq ((VCode.ops [VOp.mk (some 68) (Op.buildSlice 22 0 #[]) none, VOp.mk (some 69)
  (Op.move (Operand.tmp 9)) none, VOp.mk (some 70) (Op.call (Call.mk (Callee.builtin Builtin.append) #[Operand.tmp 68, Operand.tmp 69] #[22, 22])) none, VOp.mk (some 71) (Op.move
  (Operand.tmp 12)) none, VOp.mk (some 72) (Op.call (Call.mk (Callee.builtin Builtin.append) #[Operand.tmp 70, Operand.tmp 71] #[22, 22])) none, VOp.mk (some 18) (Op.assign
  (Operand.tmp 72)) none]).seq ((VCode.ops [VOp.mk (some 73) (Op.buildSlice 26 0 #[]) none, VOp.mk (some 74) (Op.move (Operand.tmp 10)) none, VOp.mk (some 75) (Op.call (Call.mk
  (Callee.builtin Builtin.append) #[Operand.tmp 73, Operand.tmp 74] #[26, 26])) none, VOp.mk (some 76) (Op.move (Operand.tmp 13)) none, VOp.mk (some 77) (Op.call (Call.mk
  (Callee.builtin Builtin.append) #[Operand.tmp 75, Operand.tmp 76] #[26, 26])) none, VOp.mk (some 19) (Op.assign (Operand.tmp 77)) none]).seq (((VCode.ops [VOp.mk (some 78)
  (Op.move (Operand.tmp 15)) none, VOp.mk (some 79) (Op.call (Call.mk (Callee.builtin Builtin.len) #[Operand.tmp 78] #[22])) none, VOp.mk (some 80) (Op.move (Operand.tmp 18)) none,
  VOp.mk (some 81) (Op.call (Call.mk (Callee.builtin Builtin.len) #[Operand.tmp 80] #[22])) none, VOp.mk (some 82) (Op.binOp BinOp.neq 3 (Operand.tmp 79) (Operand.tmp 81) 3) none,
  VOp.mk (some 83) (Op.move (Operand.tmp 82)) none, VOp.mk (some 84) (Op.move (Operand.tmp 16)) (some (some 83, false)), VOp.mk (some 85) (Op.call (Call.mk (Callee.builtin
  Builtin.len) #[Operand.tmp 84] #[26])) (some (some 83, false)), VOp.mk (some 86) (Op.move (Operand.tmp 19)) (some (some 83, false)), VOp.mk (some 87) (Op.call (Call.mk
  (Callee.builtin Builtin.len) #[Operand.tmp 86] #[26])) (some (some 83, false)), VOp.mk (some 88) (Op.binOp BinOp.neq 3 (Operand.tmp 85) (Operand.tmp 87) 3) (some (some 83,
  false)), VOp.mk (some 89) (Op.pick (Operand.tmp 83) (Operand.const (Value.bool true)) (Operand.tmp 88)) none]).seq (VCode.cond (Operand.tmp 89) ((VCode.ops [VOp.mk (some 8)
  (Op.assign (Operand.const (Value.bool false))) none]).seq VCode.ret) VCode.skip)).seq (((VCode.ops [VOp.mk (some 20) (Op.assign (Operand.const (Value.int IntKind.i64 0)))
  none]).seq (VCode.block 0 (((VCode.ops [VOp.mk (some 90) (Op.move (Operand.tmp 20)) none, VOp.mk (some 91) (Op.move (Operand.tmp 15)) none, VOp.mk (some 92) (Op.call (Call.mk
  (Callee.builtin Builtin.len) #[Operand.tmp 91] #[22])) none, VOp.mk (some 93) (Op.binOp BinOp.lss 3 (Operand.tmp 90) (Operand.tmp 92) 3) none]).seq (VCode.cond (Operand.tmp 93)
  VCode.skip (VCode.exit 0))).seq ((VCode.block 1 ((VCode.ops [VOp.mk (some 96) (Op.move (Operand.tmp 15)) none, VOp.mk (some 97) (Op.move (Operand.tmp 20)) none, VOp.mk (some 98)
  (Op.indexAddr 22 (Operand.tmp 96) (Operand.tmp 97)) none, VOp.mk (some 99) (Op.load 9 (Operand.tmp 98)) none, VOp.mk (some 100) (Op.move (Operand.tmp 18)) none, VOp.mk (some 101)
  (Op.move (Operand.tmp 20)) none, VOp.mk (some 102) (Op.indexAddr 22 (Operand.tmp 100) (Operand.tmp 101)) none, VOp.mk (some 103) (Op.load 9 (Operand.tmp 102)) none, VOp.mk (some
  104) (Op.binOp BinOp.neq 9 (Operand.tmp 99) (Operand.tmp 103) 9) none, VOp.mk (some 105) (Op.move (Operand.tmp 104)) none, VOp.mk (some 106) (Op.move (Operand.tmp 16)) (some (some
  105, false)), VOp.mk (some 107) (Op.move (Operand.tmp 20)) (some (some 105, false)), VOp.mk (some 108) (Op.indexAddr 26 (Operand.tmp 106) (Operand.tmp 107)) (some (some 105,
  false)), VOp.mk (some 109) (Op.load 28 (Operand.tmp 108)) (some (some 105, false)), VOp.mk (some 110) (Op.move (Operand.tmp 19)) (some (some 105, false)), VOp.mk (some 111)
  (Op.move (Operand.tmp 20)) (some (some 105, false)), VOp.mk (some 112) (Op.indexAddr 26 (Operand.tmp 110) (Operand.tmp 111)) (some (some 105, false)), VOp.mk (some 113) (Op.load
  28 (Operand.tmp 112)) (some (some 105, false)), VOp.mk (some 114) (Op.call (Call.mk (Callee.value (Operand.func 8)) #[Operand.tmp 109, Operand.tmp 113] #[28, 28])) (some (some
  105, false)), VOp.mk (some 115) (Op.unOp UnOp.not 4 (Operand.tmp 114)) (some (some 105, false)), VOp.mk (some 116) (Op.pick (Operand.tmp 105) (Operand.const (Value.bool true))
  (Operand.tmp 115)) none]).seq (VCode.cond (Operand.tmp 116) ((VCode.ops [VOp.mk (some 8) (Op.assign (Operand.const (Value.bool false))) none]).seq VCode.ret) VCode.skip))).seq
  (VCode.ops [VOp.mk (some 94) (Op.move (Operand.tmp 20)) none, VOp.mk (some 95) (Op.binOp BinOp.add 3 (Operand.tmp 94) (Operand.const (Value.int IntKind.i64 1)) 3) none, VOp.mk
  (some 20) (Op.assign (Operand.tmp 95)) none]))).loop)).seq ((VCode.ops [VOp.mk (some 8) (Op.assign (Operand.const (Value.bool true))) none]).seq VCode.ret))))))))))
theorem fn4 : FnOk Tryz.prog 4 117 vc4 [ResultVar.tmp 8] := ⟨Tryz.f4, _, [], Tryz.func4, rfl, rfl, rfl, by kernel_rfl, by kernel_rfl, by kernel_rfl⟩

/-- wafer/pattern.Fits -/
def vc5 : VCode := (VCode.ops [VOp.mk (some 2) (Op.box 25 (Operand.tmp 0)) none, VOp.mk (some 3) (Op.box 28 (Operand.tmp 1)) none, VOp.mk (some 4) (Op.assign (Operand.const
  (Value.slice none 0 0))) none, VOp.mk (some 5) (Op.assign (Operand.const (Value.slice none 0 0))) none, VOp.mk (some 6) (Op.assign (Operand.const (Value.bool false))) none]).seq
  ((VCode.ops [VOp.mk (some 7) (Op.alloc 22) none]).seq ((VCode.ops [VOp.mk (some 8) (Op.alloc 26) none]).seq (((VCode.ops [VOp.mk (some 9) (Op.load 25 (Operand.tmp 2)) none, VOp.mk
  (some 10) (Op.load 28 (Operand.tmp 3)) none, VOp.mk (some 11) (Op.makeFunc (Fn.func 10) #[] #[Operand.tmp 7, Operand.tmp 8]) none, VOp.mk (some 12) (Op.call (Call.mk (Callee.value
  (Operand.func 9)) #[Operand.tmp 9, Operand.tmp 10, Operand.tmp 11] #[25, 28, 37])) none, VOp.mk (some 13) (Op.unOp UnOp.not 4 (Operand.tmp 12)) none]).seq (VCode.cond (Operand.tmp
  13) ((VCode.ops [VOp.mk (some 4) (Op.assign (Operand.const (Value.slice none 0 0))) none, VOp.mk (some 5) (Op.assign (Operand.const (Value.slice none 0 0))) none, VOp.mk (some 6)
  (Op.assign (Operand.const (Value.bool false))) none]).seq VCode.ret) VCode.skip)).seq ((VCode.ops [VOp.mk (some 14) (Op.load 22 (Operand.tmp 7)) none, VOp.mk (some 15) (Op.load 26
  (Operand.tmp 8)) none, VOp.mk (some 4) (Op.assign (Operand.tmp 14)) none, VOp.mk (some 5) (Op.assign (Operand.tmp 15)) none, VOp.mk (some 6) (Op.assign (Operand.const (Value.bool
  true))) none]).seq VCode.ret))))
theorem fn5 : FnOk Tryz.prog 5 16 vc5 [ResultVar.tmp 4, ResultVar.tmp 5, ResultVar.tmp 6] := ⟨Tryz.f5, _, [], Tryz.func5, rfl, rfl, rfl, by kernel_rfl, by kernel_rfl, by kernel_rfl⟩

/-- wafer/waferlaw15.bare -/
def vc6 : VCode := (VCode.ops [VOp.mk (some 1) (Op.box 25 (Operand.tmp 0)) none, VOp.mk (some 2) (Op.alloc 25) none]).seq (((VCode.ops [VOp.mk (some 5) (Op.fieldAddr 25 (Operand.tmp
  1) 0) none, VOp.mk (some 6) (Op.load 3 (Operand.tmp 5)) none, VOp.mk (some 7) (Op.binOp BinOp.eql 3 (Operand.tmp 6) (Operand.const (Value.int IntKind.i64 2)) 3) none]).seq
  (VCode.cond (Operand.tmp 7) ((VCode.ops [VOp.mk (some 8) (Op.fieldAddr 25 (Operand.tmp 1) 4) none, VOp.mk (some 9) (Op.load 23 (Operand.tmp 8)) none, VOp.mk (some 10) (Op.build 25
  #[(0, Operand.const (Value.int IntKind.i64 1)), (4, Operand.tmp 9)]) none, VOp.mk none (Op.store 25 (Operand.tmp 2) (Operand.tmp 10)) none]).seq VCode.ret) VCode.skip)).seq
  ((VCode.ops [VOp.mk (some 11) (Op.load 25 (Operand.tmp 1)) none, VOp.mk (some 3) (Op.alloc 25) none, VOp.mk none (Op.store 25 (Operand.tmp 3) (Operand.tmp 11)) none]).seq
  ((VCode.ops [VOp.mk (some 12) (Op.fieldAddr 25 (Operand.tmp 3) 4) none, VOp.mk none (Op.store 23 (Operand.tmp 12) (Operand.const (Value.slice none 0 0))) none]).seq (((VCode.ops
  [VOp.mk (some 4) (Op.assign (Operand.const (Value.int IntKind.i64 0))) none]).seq (VCode.block 0 (((VCode.ops [VOp.mk (some 13) (Op.move (Operand.tmp 4)) none, VOp.mk (some 14)
  (Op.fieldAddr 25 (Operand.tmp 1) 4) none, VOp.mk (some 15) (Op.load 23 (Operand.tmp 14)) none, VOp.mk (some 16) (Op.call (Call.mk (Callee.builtin Builtin.len) #[Operand.tmp 15]
  #[23])) none, VOp.mk (some 17) (Op.binOp BinOp.lss 3 (Operand.tmp 13) (Operand.tmp 16) 3) none]).seq (VCode.cond (Operand.tmp 17) VCode.skip (VCode.exit 0))).seq ((VCode.block 1
  (VCode.opsW [(0, VOp.mk (some 20) (Op.fieldAddr 25 (Operand.tmp 3) 4) none), (1, VOp.mk (some 21) (Op.load 23 (Operand.tmp 20)) none), (2, VOp.mk (some 22) (Op.fieldAddr 25
  (Operand.tmp 1) 4) none), (3, VOp.mk (some 23) (Op.load 23 (Operand.tmp 22)) none), (4, VOp.mk (some 24) (Op.move (Operand.tmp 4)) none), (5, VOp.mk (some 25) (Op.indexAddr 23
  (Operand.tmp 23) (Operand.tmp 24)) none), (6, VOp.mk (some 26) (Op.load 25 (Operand.tmp 25)) none), (7, VOp.mk (some 27) (Op.call (Call.mk (Callee.value (Operand.func 6))
  #[Operand.tmp 26] #[25])) none), (8, VOp.mk (some 28) (Op.buildSlice 23 1 #[(0, Operand.tmp 27)]) none), (9, VOp.mk (some 29) (Op.call (Call.mk (Callee.builtin Builtin.append)
  #[Operand.tmp 21, Operand.tmp 28] #[23, 23])) none), (10, VOp.mk (some 30) (Op.fieldAddr 25 (Operand.tmp 3) 4) none), (11, VOp.mk none (Op.store 23 (Operand.tmp 30) (Operand.tmp
  29)) none)] [(7, [0, 1]), (8, [0, 1])])).seq (VCode.ops [VOp.mk (some 18) (Op.move (Operand.tmp 4)) none, VOp.mk (some 19) (Op.binOp BinOp.add 3 (Operand.tmp 18) (Operand.const
  (Value.int IntKind.i64 1)) 3) none, VOp.mk (some 4) (Op.assign (Operand.tmp 19)) none]))).loop)).seq ((VCode.ops [VOp.mk (some 31) (Op.load 25 (Operand.tmp 3)) none, VOp.mk none
  (Op.store 25 (Operand.tmp 2) (Operand.tmp 31)) none]).seq VCode.ret)))))
theorem fn6 : FnOk Tryz.prog 6 32 vc6 [ResultVar.cell 2 25] := ⟨Tryz.f6, _, [(8, [([0, 1, 2, 3, 4, 5, 6, 7, 8, 9, 10, 11], [(7, [0, 1]), (8, [0, 1])])])], Tryz.func6, rfl, rfl, rfl,
  by kernel_rfl, by kernel_rfl, by kernel_rfl⟩

/-- wafer/waferlaw15.alive -/
def vc7 : VCode := (VCode.ops [VOp.mk (some 0) (Op.assign (Operand.const (Value.bool false))) none]).seq ((VCode.ops [VOp.mk (some 12) (Op.call (Call.mk (Callee.value (Operand.func
  11)) #[] #[])) none, VOp.mk (some 1) (Op.assign (Operand.tmp 12)) none]).seq ((VCode.ops [VOp.mk (some 13) (Op.build 25 #[(0, Operand.const (Value.int IntKind.i64 2)), (1,
  Operand.const (Value.string (ByteArray.mk #[120])))]) none, VOp.mk (some 2) (Op.alloc 25) none, VOp.mk none (Op.store 25 (Operand.tmp 2) (Operand.tmp 13)) none]).seq ((VCode.opsB
  (VBT.ro 0 (VOp.mk (some 15) (Op.load 25 (Operand.tmp 2)) none) (VBT.ro 1 (VOp.mk (some 16) (Op.build 25 #[(0, Operand.const (Value.int IntKind.i64 3)), (3, Operand.const
  (Value.int IntKind.i64 1))]) none) (VBT.ro 4 (VOp.mk (some 19) (Op.build 63 #[]) none) (VBT.ro 6 (VOp.mk (some 21) (Op.move (Operand.tmp 1)) none) (VBT.alt 2 (VOp.mk (some 17)
  (Op.buildSlice 23 2 #[(0, Operand.tmp 15), (1, Operand.tmp 16)]) none) (VBT.ro 3 (VOp.mk (some 18) (Op.build 25 #[(0, Operand.const (Value.int IntKind.i64 7)), (4, Operand.tmp
  17)]) none) (VBT.alt 5 (VOp.mk (some 20) (Op.call (Call.mk (Callee.value (Operand.func 13)) #[Operand.tmp 19] #[63])) none) (VBT.alt 7 (VOp.mk (some 22) (Op.call (Call.mk
  (Callee.value (Operand.func 12)) #[Operand.tmp 18, Operand.tmp 20, Operand.tmp 21] #[25, 54, 38])) none) (VBT.ro 8 (VOp.mk (some 14) (Op.move (Operand.tmp 22)) none) (VBT.ro 9
  (VOp.mk (some 23) (Op.extract (Operand.tmp 14) 0) none) (VBT.ro 10 (VOp.mk (some 24) (Op.extract (Operand.tmp 14) 1) none) (VBT.ro 11 (VOp.mk (some 25) (Op.extract (Operand.tmp
  14) 2) none) (VBT.alt 12 (VOp.mk (some 3) (Op.alloc 42) none) (VBT.alt 13 (VOp.mk none (Op.store 42 (Operand.tmp 3) (Operand.tmp 23)) none) (VBT.ro 14 (VOp.mk (some 4) (Op.assign
  (Operand.tmp 24)) none) (VBT.ro 15 (VOp.mk (some 5) (Op.assign (Operand.tmp 25)) none) VBT.leaf)) VBT.no) VBT.no))))) (VBT.alt 12 (VOp.mk (some 3) (Op.alloc 42) none) (VBT.alt 7
  (VOp.mk (some 22) (Op.call (Call.mk (Callee.value (Operand.func 12)) #[Operand.tmp 18, Operand.tmp 20, Operand.tmp 21] #[25, 54, 38])) none) (VBT.ro 8 (VOp.mk (some 14) (Op.move
  (Operand.tmp 22)) none) (VBT.ro 9 (VOp.mk (some 23) (Op.extract (Operand.tmp 14) 0) none) (VBT.ro 10 (VOp.mk (some 24) (Op.extract (Operand.tmp 14) 1) none) (VBT.ro 11 (VOp.mk
  (some 25) (Op.extract (Operand.tmp 14) 2) none) (VBT.alt 13 (VOp.mk none (Op.store 42 (Operand.tmp 3) (Operand.tmp 23)) none) (VBT.ro 14 (VOp.mk (some 4) (Op.assign (Operand.tmp
  24)) none) (VBT.ro 15 (VOp.mk (some 5) (Op.assign (Operand.tmp 25)) none) VBT.leaf)) VBT.no))))) VBT.no) VBT.no)) (VBT.alt 12 (VOp.mk (some 3) (Op.alloc 42) none) (VBT.alt 5
  (VOp.mk (some 20) (Op.call (Call.mk (Callee.value (Operand.func 13)) #[Operand.tmp 19] #[63])) none) (VBT.alt 7 (VOp.mk (some 22) (Op.call (Call.mk (Callee.value (Operand.func
  12)) #[Operand.tmp 18, Operand.tmp 20, Operand.tmp 21] #[25, 54, 38])) none) (VBT.ro 8 (VOp.mk (some 14) (Op.move (Operand.tmp 22)) none) (VBT.ro 9 (VOp.mk (some 23) (Op.extract
  (Operand.tmp 14) 0) none) (VBT.ro 10 (VOp.mk (some 24) (Op.extract (Operand.tmp 14) 1) none) (VBT.ro 11 (VOp.mk (some 25) (Op.extract (Operand.tmp 14) 2) none) (VBT.alt 13 (VOp.mk
  none (Op.store 42 (Operand.tmp 3) (Operand.tmp 23)) none) (VBT.ro 14 (VOp.mk (some 4) (Op.assign (Operand.tmp 24)) none) (VBT.ro 15 (VOp.mk (some 5) (Op.assign (Operand.tmp 25))
  none) VBT.leaf)) VBT.no))))) VBT.no) VBT.no) VBT.no))) (VBT.alt 5 (VOp.mk (some 20) (Op.call (Call.mk (Callee.value (Operand.func 13)) #[Operand.tmp 19] #[63])) none) (VBT.alt 2
  (VOp.mk (some 17) (Op.buildSlice 23 2 #[(0, Operand.tmp 15), (1, Operand.tmp 16)]) none) (VBT.ro 3 (VOp.mk (some 18) (Op.build 25 #[(0, Operand.const (Value.int IntKind.i64 7)),
  (4, Operand.tmp 17)]) none) (VBT.alt 7 (VOp.mk (some 22) (Op.call (Call.mk (Callee.value (Operand.func 12)) #[Operand.tmp 18, Operand.tmp 20, Operand.tmp 21] #[25, 54, 38])) none)
  (VBT.ro 8 (VOp.mk (some 14) (Op.move (Operand.tmp 22)) none) (VBT.ro 9 (VOp.mk (some 23) (Op.extract (Operand.tmp 14) 0) none) (VBT.ro 10 (VOp.mk (some 24) (Op.extract
  (Operand.tmp 14) 1) none) (VBT.ro 11 (VOp.mk (some 25) (Op.extract (Operand.tmp 14) 2) none) (VBT.alt 12 (VOp.mk (some 3) (Op.alloc 42) none) (VBT.alt 13 (VOp.mk none (Op.store 42
  (Operand.tmp 3) (Operand.tmp 23)) none) (VBT.ro 14 (VOp.mk (some 4) (Op.assign (Operand.tmp 24)) none) (VBT.ro 15 (VOp.mk (some 5) (Op.assign (Operand.tmp 25)) none) VBT.leaf))
  VBT.no) VBT.no))))) (VBT.alt 12 (VOp.mk (some 3) (Op.alloc 42) none) (VBT.alt 7 (VOp.mk (some 22) (Op.call (Call.mk (Callee.value (Operand.func 12)) #[Operand.tmp 18, Operand.tmp
  20, Operand.tmp 21] #[25, 54, 38])) none) (VBT.ro 8 (VOp.mk (some 14) (Op.move (Operand.tmp 22)) none) (VBT.ro 9 (VOp.mk (some 23) (Op.extract (Operand.tmp 14) 0) none) (VBT.ro 10
  (VOp.mk (some 24) (Op.extract (Operand.tmp 14) 1) none) (VBT.ro 11 (VOp.mk (some 25) (Op.extract (Operand.tmp 14) 2) none) (VBT.alt 13 (VOp.mk none (Op.store 42 (Operand.tmp 3)
  (Operand.tmp 23)) none) (VBT.ro 14 (VOp.mk (some 4) (Op.assign (Operand.tmp 24)) none) (VBT.ro 15 (VOp.mk (some 5) (Op.assign (Operand.tmp 25)) none) VBT.leaf)) VBT.no)))))
  VBT.no) VBT.no))) (VBT.alt 12 (VOp.mk (some 3) (Op.alloc 42) none) (VBT.alt 2 (VOp.mk (some 17) (Op.buildSlice 23 2 #[(0, Operand.tmp 15), (1, Operand.tmp 16)]) none) (VBT.ro 3
  (VOp.mk (some 18) (Op.build 25 #[(0, Operand.const (Value.int IntKind.i64 7)), (4, Operand.tmp 17)]) none) (VBT.alt 7 (VOp.mk (some 22) (Op.call (Call.mk (Callee.value
  (Operand.func 12)) #[Operand.tmp 18, Operand.tmp 20, Operand.tmp 21] #[25, 54, 38])) none) (VBT.ro 8 (VOp.mk (some 14) (Op.move (Operand.tmp 22)) none) (VBT.ro 9 (VOp.mk (some 23)
  (Op.extract (Operand.tmp 14) 0) none) (VBT.ro 10 (VOp.mk (some 24) (Op.extract (Operand.tmp 14) 1) none) (VBT.ro 11 (VOp.mk (some 25) (Op.extract (Operand.tmp 14) 2) none)
  (VBT.alt 13 (VOp.mk none (Op.store 42 (Operand.tmp 3) (Operand.tmp 23)) none) (VBT.ro 14 (VOp.mk (some 4) (Op.assign (Operand.tmp 24)) none) (VBT.ro 15 (VOp.mk (some 5) (Op.assign
  (Operand.tmp 25)) none) VBT.leaf)) VBT.no))))) VBT.no)) VBT.no) VBT.no)) (VBT.alt 12 (VOp.mk (some 3) (Op.alloc 42) none) (VBT.alt 2 (VOp.mk (some 17) (Op.buildSlice 23 2 #[(0,
  Operand.tmp 15), (1, Operand.tmp 16)]) none) (VBT.ro 3 (VOp.mk (some 18) (Op.build 25 #[(0, Operand.const (Value.int IntKind.i64 7)), (4, Operand.tmp 17)]) none) (VBT.alt 5
  (VOp.mk (some 20) (Op.call (Call.mk (Callee.value (Operand.func 13)) #[Operand.tmp 19] #[63])) none) (VBT.alt 7 (VOp.mk (some 22) (Op.call (Call.mk (Callee.value (Operand.func
  12)) #[Operand.tmp 18, Operand.tmp 20, Operand.tmp 21] #[25, 54, 38])) none) (VBT.ro 8 (VOp.mk (some 14) (Op.move (Operand.tmp 22)) none) (VBT.ro 9 (VOp.mk (some 23) (Op.extract
  (Operand.tmp 14) 0) none) (VBT.ro 10 (VOp.mk (some 24) (Op.extract (Operand.tmp 14) 1) none) (VBT.ro 11 (VOp.mk (some 25) (Op.extract (Operand.tmp 14) 2) none) (VBT.alt 13 (VOp.mk
  none (Op.store 42 (Operand.tmp 3) (Operand.tmp 23)) none) (VBT.ro 14 (VOp.mk (some 4) (Op.assign (Operand.tmp 24)) none) (VBT.ro 15 (VOp.mk (some 5) (Op.assign (Operand.tmp 25))
  none) VBT.leaf)) VBT.no))))) VBT.no) VBT.no)) (VBT.alt 5 (VOp.mk (some 20) (Op.call (Call.mk (Callee.value (Operand.func 13)) #[Operand.tmp 19] #[63])) none) (VBT.alt 2 (VOp.mk
  (some 17) (Op.buildSlice 23 2 #[(0, Operand.tmp 15), (1, Operand.tmp 16)]) none) (VBT.ro 3 (VOp.mk (some 18) (Op.build 25 #[(0, Operand.const (Value.int IntKind.i64 7)), (4,
  Operand.tmp 17)]) none) (VBT.alt 7 (VOp.mk (some 22) (Op.call (Call.mk (Callee.value (Operand.func 12)) #[Operand.tmp 18, Operand.tmp 20, Operand.tmp 21] #[25, 54, 38])) none)
  (VBT.ro 8 (VOp.mk (some 14) (Op.move (Operand.tmp 22)) none) (VBT.ro 9 (VOp.mk (some 23) (Op.extract (Operand.tmp 14) 0) none) (VBT.ro 10 (VOp.mk (some 24) (Op.extract
  (Operand.tmp 14) 1) none) (VBT.ro 11 (VOp.mk (some 25) (Op.extract (Operand.tmp 14) 2) none) (VBT.alt 13 (VOp.mk none (Op.store 42 (Operand.tmp 3) (Operand.tmp 23)) none) (VBT.ro
  14 (VOp.mk (some 4) (Op.assign (Operand.tmp 24)) none) (VBT.ro 15 (VOp.mk (some 5) (Op.assign (Operand.tmp 25)) none) VBT.leaf)) VBT.no))))) VBT.no)) VBT.no) VBT.no))
  VBT.no))))))) [(5, [0]), (12, [0])]).seq ((VCode.opsB (VBT.ro 0 (VOp.mk (some 27) (Op.load 25 (Operand.tmp 2)) none) (VBT.ro 1 (VOp.mk (some 28) (Op.load 25 (Operand.tmp 2)) none)
  (VBT.ro 4 (VOp.mk (some 31) (Op.build 63 #[]) none) (VBT.ro 6 (VOp.mk (some 33) (Op.move (Operand.tmp 1)) none) (VBT.alt 2 (VOp.mk (some 29) (Op.buildSlice 23 2 #[(0, Operand.tmp
  27), (1, Operand.tmp 28)]) none) (VBT.ro 3 (VOp.mk (some 30) (Op.build 25 #[(0, Operand.const (Value.int IntKind.i64 7)), (4, Operand.tmp 29)]) none) (VBT.alt 5 (VOp.mk (some 32)
  (Op.call (Call.mk (Callee.value (Operand.func 13)) #[Operand.tmp 31] #[63])) none) (VBT.alt 7 (VOp.mk (some 34) (Op.call (Call.mk (Callee.value (Operand.func 12)) #[Operand.tmp
  30, Operand.tmp 32, Operand.tmp 33] #[25, 54, 38])) none) (VBT.ro 8 (VOp.mk (some 26) (Op.move (Operand.tmp 34)) none) (VBT.ro 9 (VOp.mk (some 35) (Op.extract (Operand.tmp 26) 0)
  none) (VBT.ro 10 (VOp.mk (some 36) (Op.extract (Operand.tmp 26) 1) none) (VBT.ro 11 (VOp.mk (some 37) (Op.extract (Operand.tmp 26) 2) none) (VBT.alt 12 (VOp.mk (some 6) (Op.alloc
  42) none) (VBT.alt 13 (VOp.mk none (Op.store 42 (Operand.tmp 6) (Operand.tmp 35)) none) (VBT.ro 14 (VOp.mk (some 7) (Op.assign (Operand.tmp 36)) none) (VBT.ro 15 (VOp.mk (some 8)
  (Op.assign (Operand.tmp 37)) none) VBT.leaf)) VBT.no) VBT.no))))) (VBT.alt 12 (VOp.mk (some 6) (Op.alloc 42) none) (VBT.alt 7 (VOp.mk (some 34) (Op.call (Call.mk (Callee.value
  (Operand.func 12)) #[Operand.tmp 30, Operand.tmp 32, Operand.tmp 33] #[25, 54, 38])) none) (VBT.ro 8 (VOp.mk (some 26) (Op.move (Operand.tmp 34)) none) (VBT.ro 9 (VOp.mk (some 35)
  (Op.extract (Operand.tmp 26) 0) none) (VBT.ro 10 (VOp.mk (some 36) (Op.extract (Operand.tmp 26) 1) none) (VBT.ro 11 (VOp.mk (some 37) (Op.extract (Operand.tmp 26) 2) none)
  (VBT.alt 13 (VOp.mk none (Op.store 42 (Operand.tmp 6) (Operand.tmp 35)) none) (VBT.ro 14 (VOp.mk (some 7) (Op.assign (Operand.tmp 36)) none) (VBT.ro 15 (VOp.mk (some 8) (Op.assign
  (Operand.tmp 37)) none) VBT.leaf)) VBT.no))))) VBT.no) VBT.no)) (VBT.alt 12 (VOp.mk (some 6) (Op.alloc 42) none) (VBT.alt 5 (VOp.mk (some 32) (Op.call (Call.mk (Callee.value
  (Operand.func 13)) #[Operand.tmp 31] #[63])) none) (VBT.alt 7 (VOp.mk (some 34) (Op.call (Call.mk (Callee.value (Operand.func 12)) #[Operand.tmp 30, Operand.tmp 32, Operand.tmp
  33] #[25, 54, 38])) none) (VBT.ro 8 (VOp.mk (some 26) (Op.move (Operand.tmp 34)) none) (VBT.ro 9 (VOp.mk (some 35) (Op.extract (Operand.tmp 26) 0) none) (VBT.ro 10 (VOp.mk (some
  36) (Op.extract (Operand.tmp 26) 1) none) (VBT.ro 11 (VOp.mk (some 37) (Op.extract (Operand.tmp 26) 2) none) (VBT.alt 13 (VOp.mk none (Op.store 42 (Operand.tmp 6) (Operand.tmp
  35)) none) (VBT.ro 14 (VOp.mk (some 7) (Op.assign (Operand.tmp 36)) none) (VBT.ro 15 (VOp.mk (some 8) (Op.assign (Operand.tmp 37)) none) VBT.leaf)) VBT.no))))) VBT.no) VBT.no)
  VBT.no))) (VBT.alt 5 (VOp.mk (some 32) (Op.call (Call.mk (Callee.value (Operand.func 13)) #[Operand.tmp 31] #[63])) none) (VBT.alt 2 (VOp.mk (some 29) (Op.buildSlice 23 2 #[(0,
  Operand.tmp 27), (1, Operand.tmp 28)]) none) (VBT.ro 3 (VOp.mk (some 30) (Op.build 25 #[(0, Operand.const (Value.int IntKind.i64 7)), (4, Operand.tmp 29)]) none) (VBT.alt 7
  (VOp.mk (some 34) (Op.call (Call.mk (Callee.value (Operand.func 12)) #[Operand.tmp 30, Operand.tmp 32, Operand.tmp 33] #[25, 54, 38])) none) (VBT.ro 8 (VOp.mk (some 26) (Op.move
  (Operand.tmp 34)) none) (VBT.ro 9 (VOp.mk (some 35) (Op.extract (Operand.tmp 26) 0) none) (VBT.ro 10 (VOp.mk (some 36) (Op.extract (Operand.tmp 26) 1) none) (VBT.ro 11 (VOp.mk
  (some 37) (Op.extract (Operand.tmp 26) 2) none) (VBT.alt 12 (VOp.mk (some 6) (Op.alloc 42) none) (VBT.alt 13 (VOp.mk none (Op.store 42 (Operand.tmp 6) (Operand.tmp 35)) none)
  (VBT.ro 14 (VOp.mk (some 7) (Op.assign (Operand.tmp 36)) none) (VBT.ro 15 (VOp.mk (some 8) (Op.assign (Operand.tmp 37)) none) VBT.leaf)) VBT.no) VBT.no))))) (VBT.alt 12 (VOp.mk
  (some 6) (Op.alloc 42) none) (VBT.alt 7 (VOp.mk (some 34) (Op.call (Call.mk (Callee.value (Operand.func 12)) #[Operand.tmp 30, Operand.tmp 32, Operand.tmp 33] #[25, 54, 38]))
  none) (VBT.ro 8 (VOp.mk (some 26) (Op.move (Operand.tmp 34)) none) (VBT.ro 9 (VOp.mk (some 35) (Op.extract (Operand.tmp 26) 0) none) (VBT.ro 10 (VOp.mk (some 36) (Op.extract
  (Operand.tmp 26) 1) none) (VBT.ro 11 (VOp.mk (some 37) (Op.extract (Operand.tmp 26) 2) none) (VBT.alt 13 (VOp.mk none (Op.store 42 (Operand.tmp 6) (Operand.tmp 35)) none) (VBT.ro
  14 (VOp.mk (some 7) (Op.assign (Operand.tmp 36)) none) (VBT.ro 15 (VOp.mk (some 8) (Op.assign (Operand.tmp 37)) none) VBT.leaf)) VBT.no))))) VBT.no) VBT.no))) (VBT.alt 12 (VOp.mk
  (some 6) (Op.alloc 42) none) (VBT.alt 2 (VOp.mk (some 29) (Op.buildSlice 23 2 #[(0, Operand.tmp 27), (1, Operand.tmp 28)]) none) (VBT.ro 3 (VOp.mk (some 30) (Op.build 25 #[(0,
  Operand.const (Value.int IntKind.i64 7)), (4, Operand.tmp 29)]) none) (VBT.alt 7 (VOp.mk (some 34) (Op.call (Call.mk (Callee.value (Operand.func 12)) #[Operand.tmp 30, Operand.tmp
  32, Operand.tmp 33] #[25, 54, 38])) none) (VBT.ro 8 (VOp.mk (some 26) (Op.move (Operand.tmp 34)) none) (VBT.ro 9 (VOp.mk (some 35) (Op.extract (Operand.tmp 26) 0) none) (VBT.ro 10
  (VOp.mk (some 36) (Op.extract (Operand.tmp 26) 1) none) (VBT.ro 11 (VOp.mk (some 37) (Op.extract (Operand.tmp 26) 2) none) (VBT.alt 13 (VOp.mk none (Op.store 42 (Operand.tmp 6)
  (Operand.tmp 35)) none) (VBT.ro 14 (VOp.mk (some 7) (Op.assign (Operand.tmp 36)) none) (VBT.ro 15 (VOp.mk (some 8) (Op.assign (Operand.tmp 37)) none) VBT.leaf)) VBT.no)))))
  VBT.no)) VBT.no) VBT.no)) (VBT.alt 12 (VOp.mk (some 6) (Op.alloc 42) none) (VBT.alt 2 (VOp.mk (some 29) (Op.buildSlice 23 2 #[(0, Operand.tmp 27), (1, Operand.tmp 28)]) none)
  (VBT.ro 3 (VOp.mk (some 30) (Op.build 25 #[(0, Operand.const (Value.int IntKind.i64 7)), (4, Operand.tmp 29)]) none) (VBT.alt 5 (VOp.mk (some 32) (Op.call (Call.mk (Callee.value
  (Operand.func 13)) #[Operand.tmp 31] #[63])) none) (VBT.alt 7 (VOp.mk (some 34) (Op.call (Call.mk (Callee.value (Operand.func 12)) #[Operand.tmp 30, Operand.tmp 32, Operand.tmp
  33] #[25, 54, 38])) none) (VBT.ro 8 (VOp.mk (some 26) (Op.move (Operand.tmp 34)) none) (VBT.ro 9 (VOp.mk (some 35) (Op.extract (Operand.tmp 26) 0) none) (VBT.ro 10 (VOp.mk (some
  36) (Op.extract (Operand.tmp 26) 1) none) (VBT.ro 11 (VOp.mk (some 37) (Op.extract (Operand.tmp 26) 2) none) (VBT.alt 13 (VOp.mk none (Op.store 42 (Operand.tmp 6) (Operand.tmp
  35)) none) (VBT.ro 14 (VOp.mk (some 7) (Op.assign (Operand.tmp 36)) none) (VBT.ro 15 (VOp.mk (some 8) (Op.assign (Operand.tmp 37)) none) VBT.leaf)) VBT.no))))) VBT.no) VBT.no))
  (VBT.alt 5 (VOp.mk (some 32) (Op.call (Call.mk (Callee.value (Operand.func 13)) #[Operand.tmp 31] #[63])) none) (VBT.alt 2 (VOp.mk (some 29) (Op.buildSlice 23 2 #[(0, Operand.tmp
  27), (1, Operand.tmp 28)]) none) (VBT.ro 3 (VOp.mk (some 30) (Op.build 25 #[(0, Operand.const (Value.int IntKind.i64 7)), (4, Operand.tmp 29)]) none) (VBT.alt 7 (VOp.mk (some 34)
  (Op.call (Call.mk (Callee.value (Operand.func 12)) #[Operand.tmp 30, Operand.tmp 32, Operand.tmp 33] #[25, 54, 38])) none) (VBT.ro 8 (VOp.mk (some 26) (Op.move (Operand.tmp 34))
  none) (VBT.ro 9 (VOp.mk (some 35) (Op.extract (Operand.tmp 26) 0) none) (VBT.ro 10 (VOp.mk (some 36) (Op.extract (Operand.tmp 26) 1) none) (VBT.ro 11 (VOp.mk (some 37) (Op.extract
  (Operand.tmp 26) 2) none) (VBT.alt 13 (VOp.mk none (Op.store 42 (Operand.tmp 6) (Operand.tmp 35)) none) (VBT.ro 14 (VOp.mk (some 7) (Op.assign (Operand.tmp 36)) none) (VBT.ro 15
  (VOp.mk (some 8) (Op.assign (Operand.tmp 37)) none) VBT.leaf)) VBT.no))))) VBT.no)) VBT.no) VBT.no)) VBT.no))))))) [(5, [0, 1]), (12, [0, 1])]).seq ((VCode.ops [VOp.mk (some 39)
  (Op.load 25 (Operand.tmp 2)) none, VOp.mk (some 40) (Op.build 28 #[(0, Operand.const (Value.int IntKind.i64 1)), (1, Operand.const (Value.int IntKind.i64 5))]) none, VOp.mk (some
  41) (Op.call (Call.mk (Callee.value (Operand.func 5)) #[Operand.tmp 39, Operand.tmp 40] #[25, 28])) none, VOp.mk (some 38) (Op.move (Operand.tmp 41)) none, VOp.mk (some 42)
  (Op.extract (Operand.tmp 38) 0) none, VOp.mk (some 43) (Op.extract (Operand.tmp 38) 1) none, VOp.mk (some 44) (Op.extract (Operand.tmp 38) 2) none, VOp.mk (some 9) (Op.assign
  (Operand.tmp 42)) none, VOp.mk (some 10) (Op.assign (Operand.tmp 43)) none, VOp.mk (some 11) (Op.assign (Operand.tmp 44)) none]).seq ((VCode.ops [VOp.mk (some 46) (Op.move
  (Operand.tmp 1)) none, VOp.mk (some 47) (Op.load 42 (Operand.tmp 3)) none, VOp.mk (some 48) (Op.call (Call.mk (Callee.value (Operand.func 14)) #[Operand.tmp 46, Operand.tmp 47]
  #[38, 42])) none, VOp.mk (some 45) (Op.move (Operand.tmp 48)) none, VOp.mk (some 49) (Op.extract (Operand.tmp 45) 0) none, VOp.mk (some 50) (Op.extract (Operand.tmp 45) 1) none,
  VOp.mk none (Op.store 42 (Operand.tmp 3) (Operand.tmp 49)) none]).seq ((VCode.ops [VOp.mk (some 51) (Op.move (Operand.tmp 5)) none, VOp.mk (some 52) (Op.binOp BinOp.eql 44
  (Operand.tmp 51) (Operand.const (Value.int IntKind.i64 0)) 44) none, VOp.mk (some 53) (Op.move (Operand.tmp 52)) none, VOp.mk (some 54) (Op.fieldAddr 42 (Operand.tmp 3) 0) (some
  (some 53, true)), VOp.mk (some 55) (Op.load 3 (Operand.tmp 54)) (some (some 53, true)), VOp.mk (some 56) (Op.binOp BinOp.eql 3 (Operand.tmp 55) (Operand.const (Value.int
  IntKind.i64 5)) 3) (some (some 53, true)), VOp.mk (some 57) (Op.pick (Operand.tmp 53) (Operand.tmp 56) (Operand.const (Value.bool false))) none, VOp.mk (some 58) (Op.move
  (Operand.tmp 57)) none, VOp.mk (some 59) (Op.move (Operand.tmp 4)) (some (some 58, true)), VOp.mk (some 60) (Op.call (Call.mk (Callee.builtin Builtin.len) #[Operand.tmp 59]
  #[43])) (some (some 58, true)), VOp.mk (some 61) (Op.binOp BinOp.eql 3 (Operand.tmp 60) (Operand.const (Value.int IntKind.i64 1)) 3) (some (some 58, true)), VOp.mk (some 62)
  (Op.pick (Operand.tmp 58) (Operand.tmp 61) (Operand.const (Value.bool false))) none, VOp.mk (some 63) (Op.move (Operand.tmp 62)) none, VOp.mk (some 64) (Op.move (Operand.tmp 4))
  (some (some 63, true)), VOp.mk (some 65) (Op.indexAddr 43 (Operand.tmp 64) (Operand.const (Value.int IntKind.i64 0))) (some (some 63, true)), VOp.mk (some 66) (Op.fieldAddr 67
  (Operand.tmp 65) 0) (some (some 63, true)), VOp.mk (some 67) (Op.load 9 (Operand.tmp 66)) (some (some 63, true)), VOp.mk (some 68) (Op.binOp BinOp.eql 9 (Operand.tmp 67)
  (Operand.const (Value.string (ByteArray.mk #[120]))) 9) (some (some 63, true)), VOp.mk (some 69) (Op.pick (Operand.tmp 63) (Operand.tmp 68) (Operand.const (Value.bool false)))
  none, VOp.mk (some 70) (Op.move (Operand.tmp 69)) none, VOp.mk (some 71) (Op.move (Operand.tmp 8)) (some (some 70, true)), VOp.mk (some 72) (Op.binOp BinOp.eql 44 (Operand.tmp 71)
  (Operand.const (Value.int IntKind.i64 20)) 44) (some (some 70, true)), VOp.mk (some 73) (Op.pick (Operand.tmp 70) (Operand.tmp 72) (Operand.const (Value.bool false))) none, VOp.mk
  (some 74) (Op.move (Operand.tmp 73)) none, VOp.mk (some 75) (Op.move (Operand.tmp 11)) (some (some 74, true)), VOp.mk (some 76) (Op.pick (Operand.tmp 74) (Operand.tmp 75)
  (Operand.const (Value.bool false))) none, VOp.mk (some 77) (Op.move (Operand.tmp 76)) none, VOp.mk (some 78) (Op.move (Operand.tmp 9)) (some (some 77, true)), VOp.mk (some 79)
  (Op.call (Call.mk (Callee.builtin Builtin.len) #[Operand.tmp 78] #[22])) (some (some 77, true)), VOp.mk (some 80) (Op.binOp BinOp.eql 3 (Operand.tmp 79) (Operand.const (Value.int
  IntKind.i64 1)) 3) (some (some 77, true)), VOp.mk (some 81) (Op.pick (Operand.tmp 77) (Operand.tmp 80) (Operand.const (Value.bool false))) none, VOp.mk (some 82) (Op.move
  (Operand.tmp 81)) none, VOp.mk (some 83) (Op.move (Operand.tmp 10)) (some (some 82, true)), VOp.mk (some 84) (Op.call (Call.mk (Callee.builtin Builtin.len) #[Operand.tmp 83]
  #[26])) (some (some 82, true)), VOp.mk (some 85) (Op.binOp BinOp.eql 3 (Operand.tmp 84) (Operand.const (Value.int IntKind.i64 1)) 3) (some (some 82, true)), VOp.mk (some 86)
  (Op.pick (Operand.tmp 82) (Operand.tmp 85) (Operand.const (Value.bool false))) none, VOp.mk (some 87) (Op.move (Operand.tmp 86)) none, VOp.mk (some 88) (Op.move (Operand.tmp 10))
  (some (some 87, true)), VOp.mk (some 89) (Op.indexAddr 26 (Operand.tmp 88) (Operand.const (Value.int IntKind.i64 0))) (some (some 87, true)), VOp.mk (some 90) (Op.fieldAddr 28
  (Operand.tmp 89) 1) (some (some 87, true)), VOp.mk (some 91) (Op.load 2 (Operand.tmp 90)) (some (some 87, true)), VOp.mk (some 92) (Op.binOp BinOp.eql 2 (Operand.tmp 91)
  (Operand.const (Value.int IntKind.i64 5)) 2) (some (some 87, true)), VOp.mk (some 93) (Op.pick (Operand.tmp 87) (Operand.tmp 92) (Operand.const (Value.bool false))) none, VOp.mk
  (some 0) (Op.assign (Operand.tmp 93)) none]).seq VCode.ret)))))))
theorem fn7 : FnOk Tryz.prog 7 94 vc7 [ResultVar.tmp 0] := ⟨Tryz.f7, _, [(3, [([0, 1, 4, 6, 2, 3, 5, 7, 8, 9, 10, 11, 12, 13, 14, 15], [(5, [0]), (12, [0])]), ([0, 1, 4, 6, 2, 3, 5,
  12, 7, 8, 9, 10, 11, 13, 14, 15], []), ([0, 1, 4, 6, 2, 3, 12, 5, 7, 8, 9, 10, 11, 13, 14, 15], []), ([0, 1, 4, 6, 5, 2, 3, 7, 8, 9, 10, 11, 12, 13, 14, 15], []), ([0, 1, 4, 6, 5,
  2, 3, 12, 7, 8, 9, 10, 11, 13, 14, 15], []), ([0, 1, 4, 6, 5, 12, 2, 3, 7, 8, 9, 10, 11, 13, 14, 15], []), ([0, 1, 4, 6, 12, 2, 3, 5, 7, 8, 9, 10, 11, 13, 14, 15], []), ([0, 1, 4,
  6, 12, 5, 2, 3, 7, 8, 9, 10, 11, 13, 14, 15], [])]), (4, [([0, 1, 4, 6, 2, 3, 5, 7, 8, 9, 10, 11, 12, 13, 14, 15], [(5, [0, 1]), (12, [0, 1])]), ([0, 1, 4, 6, 2, 3, 5, 12, 7, 8,
  9, 10, 11, 13, 14, 15], []), ([0, 1, 4, 6, 2, 3, 12, 5, 7, 8, 9, 10, 11, 13, 14, 15], []), ([0, 1, 4, 6, 5, 2, 3, 7, 8, 9, 10, 11, 12, 13, 14, 15], []), ([0, 1, 4, 6, 5, 2, 3, 12,
  7, 8, 9, 10, 11, 13, 14, 15], []), ([0, 1, 4, 6, 5, 12, 2, 3, 7, 8, 9, 10, 11, 13, 14, 15], []), ([0, 1, 4, 6, 12, 2, 3, 5, 7, 8, 9, 10, 11, 13, 14, 15], []), ([0, 1, 4, 6, 12, 5,
  2, 3, 7, 8, 9, 10, 11, 13, 14, 15], [])])], Tryz.func7, rfl, rfl, rfl, by kernel_rfl, by kernel_rfl, by kernel_rfl⟩

/-- wafer/waferlaw15.SameValue -/
def vc8 : VCode := (VCode.ops [VOp.mk (some 2) (Op.box 28 (Operand.tmp 0)) none, VOp.mk (some 3) (Op.box 28 (Operand.tmp 1)) none, VOp.mk (some 4) (Op.assign (Operand.const
  (Value.bool false))) none]).seq (((VCode.ops [VOp.mk (some 6) (Op.fieldAddr 28 (Operand.tmp 2) 0) none, VOp.mk (some 7) (Op.load 3 (Operand.tmp 6)) none, VOp.mk (some 8)
  (Op.fieldAddr 28 (Operand.tmp 3) 0) none, VOp.mk (some 9) (Op.load 3 (Operand.tmp 8)) none, VOp.mk (some 10) (Op.binOp BinOp.neq 3 (Operand.tmp 7) (Operand.tmp 9) 3) none, VOp.mk
  (some 11) (Op.move (Operand.tmp 10)) none, VOp.mk (some 12) (Op.fieldAddr 28 (Operand.tmp 2) 1) (some (some 11, false)), VOp.mk (some 13) (Op.load 2 (Operand.tmp 12)) (some (some
  11, false)), VOp.mk (some 14) (Op.fieldAddr 28 (Operand.tmp 3) 1) (some (some 11, false)), VOp.mk (some 15) (Op.load 2 (Operand.tmp 14)) (some (some 11, false)), VOp.mk (some 16)
  (Op.binOp BinOp.neq 2 (Operand.tmp 13) (Operand.tmp 15) 2) (some (some 11, false)), VOp.mk (some 17) (Op.pick (Operand.tmp 11) (Operand.const (Value.bool true)) (Operand.tmp 16))
  none, VOp.mk (some 18) (Op.move (Operand.tmp 17)) none, VOp.mk (some 19) (Op.fieldAddr 28 (Operand.tmp 2) 2) (some (some 18, false)), VOp.mk (some 20) (Op.load 9 (Operand.tmp 19))
  (some (some 18, false)), VOp.mk (some 21) (Op.fieldAddr 28 (Operand.tmp 3) 2) (some (some 18, false)), VOp.mk (some 22) (Op.load 9 (Operand.tmp 21)) (some (some 18, false)),
  VOp.mk (some 23) (Op.binOp BinOp.neq 9 (Operand.tmp 20) (Operand.tmp 22) 9) (some (some 18, false)), VOp.mk (some 24) (Op.pick (Operand.tmp 18) (Operand.const (Value.bool true))
  (Operand.tmp 23)) none, VOp.mk (some 25) (Op.move (Operand.tmp 24)) none, VOp.mk (some 26) (Op.fieldAddr 28 (Operand.tmp 2) 3) (some (some 25, false)), VOp.mk (some 27) (Op.load
  26 (Operand.tmp 26)) (some (some 25, false)), VOp.mk (some 28) (Op.call (Call.mk (Callee.builtin Builtin.len) #[Operand.tmp 27] #[26])) (some (some 25, false)), VOp.mk (some 29)
  (Op.fieldAddr 28 (Operand.tmp 3) 3) (some (some 25, false)), VOp.mk (some 30) (Op.load 26 (Operand.tmp 29)) (some (some 25, false)), VOp.mk (some 31) (Op.call (Call.mk
  (Callee.builtin Builtin.len) #[Operand.tmp 30] #[26])) (some (some 25, false)), VOp.mk (some 32) (Op.binOp BinOp.neq 3 (Operand.tmp 28) (Operand.tmp 31) 3) (some (some 25,
  false)), VOp.mk (some 33) (Op.pick (Operand.tmp 25) (Operand.const (Value.bool true)) (Operand.tmp 32)) none]).seq (VCode.cond (Operand.tmp 33) ((VCode.ops [VOp.mk (some 4)
  (Op.assign (Operand.const (Value.bool false))) none]).seq VCode.ret) VCode.skip)).seq (((VCode.ops [VOp.mk (some 5) (Op.assign (Operand.const (Value.int IntKind.i64 0)))
  none]).seq (VCode.block 0 (((VCode.ops [VOp.mk (some 34) (Op.move (Operand.tmp 5)) none, VOp.mk (some 35) (Op.fieldAddr 28 (Operand.tmp 2) 3) none, VOp.mk (some 36) (Op.load 26
  (Operand.tmp 35)) none, VOp.mk (some 37) (Op.call (Call.mk (Callee.builtin Builtin.len) #[Operand.tmp 36] #[26])) none, VOp.mk (some 38) (Op.binOp BinOp.lss 3 (Operand.tmp 34)
  (Operand.tmp 37) 3) none]).seq (VCode.cond (Operand.tmp 38) VCode.skip (VCode.exit 0))).seq ((VCode.block 1 ((VCode.ops [VOp.mk (some 41) (Op.fieldAddr 28 (Operand.tmp 2) 3) none,
  VOp.mk (some 42) (Op.load 26 (Operand.tmp 41)) none, VOp.mk (some 43) (Op.move (Operand.tmp 5)) none, VOp.mk (some 44) (Op.indexAddr 26 (Operand.tmp 42) (Operand.tmp 43)) none,
  VOp.mk (some 45) (Op.load 28 (Operand.tmp 44)) none, VOp.mk (some 46) (Op.fieldAddr 28 (Operand.tmp 3) 3) none, VOp.mk (some 47) (Op.load 26 (Operand.tmp 46)) none, VOp.mk (some
  48) (Op.move (Operand.tmp 5)) none, VOp.mk (some 49) (Op.indexAddr 26 (Operand.tmp 47) (Operand.tmp 48)) none, VOp.mk (some 50) (Op.load 28 (Operand.tmp 49)) none, VOp.mk (some
  51) (Op.call (Call.mk (Callee.value (Operand.func 8)) #[Operand.tmp 45, Operand.tmp 50] #[28, 28])) none, VOp.mk (some 52) (Op.unOp UnOp.not 4 (Operand.tmp 51)) none]).seq
  (VCode.cond (Operand.tmp 52) ((VCode.ops [VOp.mk (some 4) (Op.assign (Operand.const (Value.bool false))) none]).seq VCode.ret) VCode.skip))).seq (VCode.ops [VOp.mk (some 39)
  (Op.move (Operand.tmp 5)) none, VOp.mk (some 40) (Op.binOp BinOp.add 3 (Operand.tmp 39) (Operand.const (Value.int IntKind.i64 1)) 3) none, VOp.mk (some 5) (Op.assign (Operand.tmp
  40)) none]))).loop)).seq ((VCode.ops [VOp.mk (some 4) (Op.assign (Operand.const (Value.bool true))) none]).seq VCode.ret)))
theorem fn8 : FnOk Tryz.prog 8 53 vc8 [ResultVar.tmp 4] := ⟨Tryz.f8, _, [], Tryz.func8, rfl, rfl, rfl, by kernel_rfl, by kernel_rfl, by kernel_rfl⟩

/-- wafer/pattern.fits -/
def vc9 : VCode := (VCode.ops [VOp.mk (some 3) (Op.box 25 (Operand.tmp 0)) none, VOp.mk (some 4) (Op.box 28 (Operand.tmp 1)) none, VOp.mk (some 6) (Op.assign (Operand.const
  (Value.bool false))) none]).seq ((VCode.ops [VOp.mk (some 8) (Op.fieldAddr 25 (Operand.tmp 3) 4) none, VOp.mk (some 9) (Op.load 23 (Operand.tmp 8)) none, VOp.mk (some 10) (Op.call
  (Call.mk (Callee.builtin Builtin.len) #[Operand.tmp 9] #[23])) none, VOp.mk (some 7) (Op.assign (Operand.tmp 10)) none]).seq (((VCode.ops [VOp.mk (some 11) (Op.fieldAddr 25
  (Operand.tmp 3) 0) none, VOp.mk (some 12) (Op.load 3 (Operand.tmp 11)) none]).seq (VCode.block 0 ((VCode.ops [VOp.mk (some 14) (Op.binOp BinOp.eql 3 (Operand.tmp 12)
  (Operand.const (Value.int IntKind.i64 1)) 3) none, VOp.mk (some 13) (Op.assign (Operand.tmp 14)) none]).seq (VCode.cond (Operand.tmp 13) ((VCode.ops [VOp.mk (some 15) (Op.move
  (Operand.tmp 7)) none, VOp.mk (some 16) (Op.binOp BinOp.eql 3 (Operand.tmp 15) (Operand.const (Value.int IntKind.i64 0)) 3) none, VOp.mk (some 6) (Op.assign (Operand.tmp 16))
  none]).seq VCode.ret) ((VCode.ops [VOp.mk (some 18) (Op.binOp BinOp.eql 3 (Operand.tmp 12) (Operand.const (Value.int IntKind.i64 2)) 3) none, VOp.mk (some 17) (Op.assign
  (Operand.tmp 18)) none]).seq (VCode.cond (Operand.tmp 17) (((VCode.ops [VOp.mk (some 19) (Op.move (Operand.tmp 7)) none, VOp.mk (some 20) (Op.binOp BinOp.gtr 3 (Operand.tmp 19)
  (Operand.const (Value.int IntKind.i64 0)) 3) none]).seq (VCode.cond (Operand.tmp 20) ((VCode.ops [VOp.mk (some 6) (Op.assign (Operand.const (Value.bool false))) none]).seq
  VCode.ret) VCode.skip)).seq ((VCode.ops [VOp.mk (some 21) (Op.move (Operand.tmp 2)) none, VOp.mk (some 22) (Op.fieldAddr 25 (Operand.tmp 3) 1) none, VOp.mk (some 23) (Op.load 9
  (Operand.tmp 22)) none, VOp.mk (some 24) (Op.load 28 (Operand.tmp 4)) none, VOp.mk (some 25) (Op.call (Call.mk (Callee.value (Operand.tmp 21)) #[Operand.tmp 23, Operand.tmp 24]
  #[9, 28])) none]).seq ((VCode.ops [VOp.mk (some 6) (Op.assign (Operand.const (Value.bool true))) none]).seq VCode.ret))) ((VCode.ops [VOp.mk (some 27) (Op.binOp BinOp.eql 3
  (Operand.tmp 12) (Operand.const (Value.int IntKind.i64 3)) 3) none, VOp.mk (some 26) (Op.assign (Operand.tmp 27)) none]).seq (VCode.cond (Operand.tmp 26) ((VCode.ops [VOp.mk (some
  28) (Op.move (Operand.tmp 7)) none, VOp.mk (some 29) (Op.binOp BinOp.eql 3 (Operand.tmp 28) (Operand.const (Value.int IntKind.i64 0)) 3) none, VOp.mk (some 30) (Op.move
  (Operand.tmp 29)) none, VOp.mk (some 31) (Op.fieldAddr 28 (Operand.tmp 4) 0) (some (some 30, true)), VOp.mk (some 32) (Op.load 3 (Operand.tmp 31)) (some (some 30, true)), VOp.mk
  (some 33) (Op.binOp BinOp.eql 3 (Operand.tmp 32) (Operand.const (Value.int IntKind.i64 1)) 3) (some (some 30, true)), VOp.mk (some 34) (Op.pick (Operand.tmp 30) (Operand.tmp 33)
  (Operand.const (Value.bool false))) none, VOp.mk (some 35) (Op.move (Operand.tmp 34)) none, VOp.mk (some 36) (Op.fieldAddr 28 (Operand.tmp 4) 1) (some (some 35, true)), VOp.mk
  (some 37) (Op.load 2 (Operand.tmp 36)) (some (some 35, true)), VOp.mk (some 38) (Op.fieldAddr 25 (Operand.tmp 3) 3) (some (some 35, true)), VOp.mk (some 39) (Op.load 2
  (Operand.tmp 38)) (some (some 35, true)), VOp.mk (some 40) (Op.binOp BinOp.eql 2 (Operand.tmp 37) (Operand.tmp 39) 2) (some (some 35, true)), VOp.mk (some 41) (Op.pick
  (Operand.tmp 35) (Operand.tmp 40) (Operand.const (Value.bool false))) none, VOp.mk (some 6) (Op.assign (Operand.tmp 41)) none]).seq VCode.ret) ((VCode.ops [VOp.mk (some 43)
  (Op.binOp BinOp.eql 3 (Operand.tmp 12) (Operand.const (Value.int IntKind.i64 4)) 3) none, VOp.mk (some 42) (Op.assign (Operand.tmp 43)) none]).seq (VCode.cond (Operand.tmp 42)
  ((VCode.ops [VOp.mk (some 44) (Op.move (Operand.tmp 7)) none, VOp.mk (some 45) (Op.binOp BinOp.eql 3 (Operand.tmp 44) (Operand.const (Value.int IntKind.i64 0)) 3) none, VOp.mk
  (some 46) (Op.move (Operand.tmp 45)) none, VOp.mk (some 47) (Op.fieldAddr 28 (Operand.tmp 4) 0) (some (some 46, true)), VOp.mk (some 48) (Op.load 3 (Operand.tmp 47)) (some (some
  46, true)), VOp.mk (some 49) (Op.binOp BinOp.eql 3 (Operand.tmp 48) (Operand.const (Value.int IntKind.i64 2)) 3) (some (some 46, true)), VOp.mk (some 50) (Op.pick (Operand.tmp 46)
  (Operand.tmp 49) (Operand.const (Value.bool false))) none, VOp.mk (some 51) (Op.move (Operand.tmp 50)) none, VOp.mk (some 52) (Op.fieldAddr 28 (Operand.tmp 4) 1) (some (some 51,
  true)), VOp.mk (some 53) (Op.load 2 (Operand.tmp 52)) (some (some 51, true)), VOp.mk (some 54) (Op.binOp BinOp.eql 2 (Operand.tmp 53) (Operand.const (Value.int IntKind.i64 1)) 2)
  (some (some 51, true)), VOp.mk (some 55) (Op.pick (Operand.tmp 51) (Operand.tmp 54) (Operand.const (Value.bool false))) none, VOp.mk (some 6) (Op.assign (Operand.tmp 55))
  none]).seq VCode.ret) ((VCode.ops [VOp.mk (some 57) (Op.binOp BinOp.eql 3 (Operand.tmp 12) (Operand.const (Value.int IntKind.i64 5)) 3) none, VOp.mk (some 56) (Op.assign
  (Operand.tmp 57)) none]).seq (VCode.cond (Operand.tmp 56) ((VCode.ops [VOp.mk (some 58) (Op.move (Operand.tmp 7)) none, VOp.mk (some 59) (Op.binOp BinOp.eql 3 (Operand.tmp 58)
  (Operand.const (Value.int IntKind.i64 0)) 3) none, VOp.mk (some 60) (Op.move (Operand.tmp 59)) none, VOp.mk (some 61) (Op.fieldAddr 28 (Operand.tmp 4) 0) (some (some 60, true)),
  VOp.mk (some 62) (Op.load 3 (Operand.tmp 61)) (some (some 60, true)), VOp.mk (some 63) (Op.binOp BinOp.eql 3 (Operand.tmp 62) (Operand.const (Value.int IntKind.i64 2)) 3) (some
  (some 60, true)), VOp.mk (some 64) (Op.pick (Operand.tmp 60) (Operand.tmp 63) (Operand.const (Value.bool false))) none, VOp.mk (some 65) (Op.move (Operand.tmp 64)) none, VOp.mk
  (some 66) (Op.fieldAddr 28 (Operand.tmp 4) 1) (some (some 65, true)), VOp.mk (some 67) (Op.load 2 (Operand.tmp 66)) (some (some 65, true)), VOp.mk (some 68) (Op.binOp BinOp.eql 2
  (Operand.tmp 67) (Operand.const (Value.int IntKind.i64 0)) 2) (some (some 65, true)), VOp.mk (some 69) (Op.pick (Operand.tmp 65) (Operand.tmp 68) (Operand.const (Value.bool
  false))) none, VOp.mk (some 6) (Op.assign (Operand.tmp 69)) none]).seq VCode.ret) ((VCode.ops [VOp.mk (some 71) (Op.binOp BinOp.eql 3 (Operand.tmp 12) (Operand.const (Value.int
  IntKind.i64 6)) 3) none, VOp.mk (some 70) (Op.assign (Operand.tmp 71)) none]).seq (VCode.cond (Operand.tmp 70) ((VCode.ops [VOp.mk (some 72) (Op.move (Operand.tmp 7)) none, VOp.mk
  (some 73) (Op.binOp BinOp.eql 3 (Operand.tmp 72) (Operand.const (Value.int IntKind.i64 0)) 3) none, VOp.mk (some 74) (Op.move (Operand.tmp 73)) none, VOp.mk (some 75)
  (Op.fieldAddr 28 (Operand.tmp 4) 0) (some (some 74, true)), VOp.mk (some 76) (Op.load 3 (Operand.tmp 75)) (some (some 74, true)), VOp.mk (some 77) (Op.binOp BinOp.eql 3
  (Operand.tmp 76) (Operand.const (Value.int IntKind.i64 3)) 3) (some (some 74, true)), VOp.mk (some 78) (Op.pick (Operand.tmp 74) (Operand.tmp 77) (Operand.const (Value.bool
  false))) none, VOp.mk (some 6) (Op.assign (Operand.tmp 78)) none]).seq VCode.ret) ((VCode.ops [VOp.mk (some 80) (Op.binOp BinOp.eql 3 (Operand.tmp 12) (Operand.const (Value.int
  IntKind.i64 7)) 3) none, VOp.mk (some 79) (Op.assign (Operand.tmp 80)) none]).seq (VCode.cond (Operand.tmp 79) ((VCode.ops [VOp.mk (some 81) (Op.move (Operand.tmp 7)) none, VOp.mk
  (some 82) (Op.binOp BinOp.eql 3 (Operand.tmp 81) (Operand.const (Value.int IntKind.i64 2)) 3) none, VOp.mk (some 83) (Op.move (Operand.tmp 82)) none, VOp.mk (some 84)
  (Op.fieldAddr 28 (Operand.tmp 4) 0) (some (some 83, true)), VOp.mk (some 85) (Op.load 3 (Operand.tmp 84)) (some (some 83, true)), VOp.mk (some 86) (Op.binOp BinOp.eql 3
  (Operand.tmp 85) (Operand.const (Value.int IntKind.i64 4)) 3) (some (some 83, true)), VOp.mk (some 87) (Op.pick (Operand.tmp 83) (Operand.tmp 86) (Operand.const (Value.bool
  false))) none, VOp.mk (some 88) (Op.move (Operand.tmp 87)) none, VOp.mk (some 89) (Op.fieldAddr 28 (Operand.tmp 4) 3) (some (some 88, true)), VOp.mk (some 90) (Op.load 26
  (Operand.tmp 89)) (some (some 88, true)), VOp.mk (some 91) (Op.call (Call.mk (Callee.builtin Builtin.len) #[Operand.tmp 90] #[26])) (some (some 88, true)), VOp.mk (some 92)
  (Op.binOp BinOp.eql 3 (Operand.tmp 91) (Operand.const (Value.int IntKind.i64 2)) 3) (some (some 88, true)), VOp.mk (some 93) (Op.pick (Operand.tmp 88) (Operand.tmp 92)
  (Operand.const (Value.bool false))) none, VOp.mk (some 94) (Op.move (Operand.tmp 93)) none, VOp.mk (some 95) (Op.fieldAddr 25 (Operand.tmp 3) 4) (some (some 94, true)), VOp.mk
  (some 96) (Op.load 23 (Operand.tmp 95)) (some (some 94, true)), VOp.mk (some 97) (Op.indexAddr 23 (Operand.tmp 96) (Operand.const (Value.int IntKind.i64 0))) (some (some 94,
  true)), VOp.mk (some 98) (Op.load 25 (Operand.tmp 97)) (some (some 94, true)), VOp.mk (some 99) (Op.fieldAddr 28 (Operand.tmp 4) 3) (some (some 94, true)), VOp.mk (some 100)
  (Op.load 26 (Operand.tmp 99)) (some (some 94, true)), VOp.mk (some 101) (Op.indexAddr 26 (Operand.tmp 100) (Operand.const (Value.int IntKind.i64 0))) (some (some 94, true)),
  VOp.mk (some 102) (Op.load 28 (Operand.tmp 101)) (some (some 94, true)), VOp.mk (some 103) (Op.move (Operand.tmp 2)) (some (some 94, true)), VOp.mk (some 104) (Op.call (Call.mk
  (Callee.value (Operand.func 9)) #[Operand.tmp 98, Operand.tmp 102, Operand.tmp 103] #[25, 28, 37])) (some (some 94, true)), VOp.mk (some 105) (Op.pick (Operand.tmp 94)
  (Operand.tmp 104) (Operand.const (Value.bool false))) none, VOp.mk (some 106) (Op.move (Operand.tmp 105)) none, VOp.mk (some 107) (Op.fieldAddr 25 (Operand.tmp 3) 4) (some (some
  106, true)), VOp.mk (some 108) (Op.load 23 (Operand.tmp 107)) (some (some 106, true)), VOp.mk (some 109) (Op.indexAddr 23 (Operand.tmp 108) (Operand.const (Value.int IntKind.i64
  1))) (some (some 106, true)), VOp.mk (some 110) (Op.load 25 (Operand.tmp 109)) (some (some 106, true)), VOp.mk (some 111) (Op.fieldAddr 28 (Operand.tmp 4) 3) (some (some 106,
  true)), VOp.mk (some 112) (Op.load 26 (Operand.tmp 111)) (some (some 106, true)), VOp.mk (some 113) (Op.indexAddr 26 (Operand.tmp 112) (Operand.const (Value.int IntKind.i64 1)))
  (some (some 106, true)), VOp.mk (some 114) (Op.load 28 (Operand.tmp 113)) (some (some 106, true)), VOp.mk (some 115) (Op.move (Operand.tmp 2)) (some (some 106, true)), VOp.mk
  (some 116) (Op.call (Call.mk (Callee.value (Operand.func 9)) #[Operand.tmp 110, Operand.tmp 114, Operand.tmp 115] #[25, 28, 37])) (some (some 106, true)), VOp.mk (some 117)
  (Op.pick (Operand.tmp 106) (Operand.tmp 116) (Operand.const (Value.bool false))) none, VOp.mk (some 6) (Op.assign (Operand.tmp 117)) none]).seq VCode.ret) ((VCode.ops [VOp.mk
  (some 119) (Op.binOp BinOp.eql 3 (Operand.tmp 12) (Operand.const (Value.int IntKind.i64 8)) 3) none, VOp.mk (some 118) (Op.assign (Operand.tmp 119)) none]).seq (VCode.cond
  (Operand.tmp 118) (((VCode.ops [VOp.mk (some 120) (Op.fieldAddr 28 (Operand.tmp 4) 0) none, VOp.mk (some 121) (Op.load 3 (Operand.tmp 120)) none, VOp.mk (some 122) (Op.binOp
  BinOp.neq 3 (Operand.tmp 121) (Operand.const (Value.int IntKind.i64 5)) 3) none, VOp.mk (some 123) (Op.move (Operand.tmp 122)) none, VOp.mk (some 124) (Op.fieldAddr 25
  (Operand.tmp 3) 2) (some (some 123, false)), VOp.mk (some 125) (Op.load 22 (Operand.tmp 124)) (some (some 123, false)), VOp.mk (some 126) (Op.call (Call.mk (Callee.builtin
  Builtin.len) #[Operand.tmp 125] #[22])) (some (some 123, false)), VOp.mk (some 127) (Op.binOp BinOp.eql 3 (Operand.tmp 126) (Operand.const (Value.int IntKind.i64 0)) 3) (some
  (some 123, false)), VOp.mk (some 128) (Op.pick (Operand.tmp 123) (Operand.const (Value.bool true)) (Operand.tmp 127)) none, VOp.mk (some 129) (Op.move (Operand.tmp 128)) none,
  VOp.mk (some 130) (Op.fieldAddr 28 (Operand.tmp 4) 2) (some (some 129, false)), VOp.mk (some 131) (Op.load 9 (Operand.tmp 130)) (some (some 129, false)), VOp.mk (some 132)
  (Op.fieldAddr 25 (Operand.tmp 3) 2) (some (some 129, false)), VOp.mk (some 133) (Op.load 22 (Operand.tmp 132)) (some (some 129, false)), VOp.mk (some 134) (Op.fieldAddr 25
  (Operand.tmp 3) 2) (some (some 129, false)), VOp.mk (some 135) (Op.load 22 (Operand.tmp 134)) (some (some 129, false)), VOp.mk (some 136) (Op.call (Call.mk (Callee.builtin
  Builtin.len) #[Operand.tmp 135] #[22])) (some (some 129, false)), VOp.mk (some 137) (Op.binOp BinOp.sub 3 (Operand.tmp 136) (Operand.const (Value.int IntKind.i64 1)) 3) (some
  (some 129, false)), VOp.mk (some 138) (Op.indexAddr 22 (Operand.tmp 133) (Operand.tmp 137)) (some (some 129, false)), VOp.mk (some 139) (Op.load 9 (Operand.tmp 138)) (some (some
  129, false)), VOp.mk (some 140) (Op.binOp BinOp.neq 9 (Operand.tmp 131) (Operand.tmp 139) 9) (some (some 129, false)), VOp.mk (some 141) (Op.pick (Operand.tmp 129) (Operand.const
  (Value.bool true)) (Operand.tmp 140)) none, VOp.mk (some 142) (Op.move (Operand.tmp 141)) none, VOp.mk (some 143) (Op.move (Operand.tmp 7)) (some (some 142, false)), VOp.mk (some
  144) (Op.binOp BinOp.gtr 3 (Operand.tmp 143) (Operand.const (Value.int IntKind.i64 1)) 3) (some (some 142, false)), VOp.mk (some 145) (Op.pick (Operand.tmp 142) (Operand.const
  (Value.bool true)) (Operand.tmp 144)) none, VOp.mk (some 146) (Op.move (Operand.tmp 145)) none, VOp.mk (some 147) (Op.move (Operand.tmp 7)) (some (some 146, false)), VOp.mk (some
  148) (Op.fieldAddr 28 (Operand.tmp 4) 3) (some (some 146, false)), VOp.mk (some 149) (Op.load 26 (Operand.tmp 148)) (some (some 146, false)), VOp.mk (some 150) (Op.call (Call.mk
  (Callee.builtin Builtin.len) #[Operand.tmp 149] #[26])) (some (some 146, false)), VOp.mk (some 151) (Op.binOp BinOp.neq 3 (Operand.tmp 147) (Operand.tmp 150) 3) (some (some 146,
  false)), VOp.mk (some 152) (Op.pick (Operand.tmp 146) (Operand.const (Value.bool true)) (Operand.tmp 151)) none]).seq (VCode.cond (Operand.tmp 152) ((VCode.ops [VOp.mk (some 6)
  (Op.assign (Operand.const (Value.bool false))) none]).seq VCode.ret) VCode.skip)).seq ((VCode.ops [VOp.mk (some 153) (Op.move (Operand.tmp 7)) none, VOp.mk (some 154) (Op.binOp
  BinOp.eql 3 (Operand.tmp 153) (Operand.const (Value.int IntKind.i64 0)) 3) none, VOp.mk (some 155) (Op.move (Operand.tmp 154)) none, VOp.mk (some 156) (Op.fieldAddr 25
  (Operand.tmp 3) 4) (some (some 155, false)), VOp.mk (some 157) (Op.load 23 (Operand.tmp 156)) (some (some 155, false)), VOp.mk (some 158) (Op.indexAddr 23 (Operand.tmp 157)
  (Operand.const (Value.int IntKind.i64 0))) (some (some 155, false)), VOp.mk (some 159) (Op.load 25 (Operand.tmp 158)) (some (some 155, false)), VOp.mk (some 160) (Op.fieldAddr 28
  (Operand.tmp 4) 3) (some (some 155, false)), VOp.mk (some 161) (Op.load 26 (Operand.tmp 160)) (some (some 155, false)), VOp.mk (some 162) (Op.indexAddr 26 (Operand.tmp 161)
  (Operand.const (Value.int IntKind.i64 0))) (some (some 155, false)), VOp.mk (some 163) (Op.load 28 (Operand.tmp 162)) (some (some 155, false)), VOp.mk (some 164) (Op.move
  (Operand.tmp 2)) (some (some 155, false)), VOp.mk (some 165) (Op.call (Call.mk (Callee.value (Operand.func 9)) #[Operand.tmp 159, Operand.tmp 163, Operand.tmp 164] #[25, 28, 37]))
  (some (some 155, false)), VOp.mk (some 166) (Op.pick (Operand.tmp 155) (Operand.const (Value.bool true)) (Operand.tmp 165)) none, VOp.mk (some 6) (Op.assign (Operand.tmp 166))
  none]).seq VCode.ret)) VCode.skip)))))))))))))))))).seq ((VCode.ops [VOp.mk (some 6) (Op.assign (Operand.const (Value.bool false))) none]).seq VCode.ret)))
theorem fn9 : FnOk Tryz.prog 9 167 vc9 [ResultVar.tmp 6] := ⟨Tryz.f9, _, [], Tryz.func9, rfl, rfl, rfl, by kernel_rfl, by kernel_rfl, by kernel_rfl⟩

/-- wafer/pattern.Fits$1 -/
def vc10 : VCode := (VCode.ops [VOp.mk (some 5) (Op.box 28 (Operand.tmp 1)) none]).seq (VCode.opsB (VBT.ro 0 (VOp.mk (some 6) (Op.load 22 (Operand.tmp 2)) none) (VBT.ro 1 (VOp.mk
  (some 7) (Op.move (Operand.tmp 0)) none) (VBT.ro 4 (VOp.mk (some 10) (Op.load 26 (Operand.tmp 3)) none) (VBT.ro 5 (VOp.mk (some 11) (Op.load 28 (Operand.tmp 5)) none) (VBT.alt 2
  (VOp.mk (some 8) (Op.buildSlice 22 1 #[(0, Operand.tmp 7)]) none) (VBT.alt 3 (VOp.mk (some 9) (Op.call (Call.mk (Callee.builtin Builtin.append) #[Operand.tmp 6, Operand.tmp 8]
  #[22, 22])) none) (VBT.alt 6 (VOp.mk (some 12) (Op.buildSlice 26 1 #[(0, Operand.tmp 11)]) none) (VBT.alt 7 (VOp.mk (some 13) (Op.call (Call.mk (Callee.builtin Builtin.append)
  #[Operand.tmp 10, Operand.tmp 12] #[26, 26])) none) (VBT.alt 8 (VOp.mk none (Op.store 22 (Operand.tmp 2) (Operand.tmp 9)) none) (VBT.alt 9 (VOp.mk none (Op.store 26 (Operand.tmp
  3) (Operand.tmp 13)) none) VBT.leaf VBT.no) VBT.no) VBT.no) VBT.no) (VBT.alt 6 (VOp.mk (some 12) (Op.buildSlice 26 1 #[(0, Operand.tmp 11)]) none) (VBT.alt 3 (VOp.mk (some 9)
  (Op.call (Call.mk (Callee.builtin Builtin.append) #[Operand.tmp 6, Operand.tmp 8] #[22, 22])) none) (VBT.alt 7 (VOp.mk (some 13) (Op.call (Call.mk (Callee.builtin Builtin.append)
  #[Operand.tmp 10, Operand.tmp 12] #[26, 26])) none) (VBT.alt 8 (VOp.mk none (Op.store 22 (Operand.tmp 2) (Operand.tmp 9)) none) (VBT.alt 9 (VOp.mk none (Op.store 26 (Operand.tmp
  3) (Operand.tmp 13)) none) VBT.leaf VBT.no) VBT.no) VBT.no) VBT.no) VBT.no)) (VBT.alt 6 (VOp.mk (some 12) (Op.buildSlice 26 1 #[(0, Operand.tmp 11)]) none) (VBT.alt 2 (VOp.mk
  (some 8) (Op.buildSlice 22 1 #[(0, Operand.tmp 7)]) none) (VBT.alt 3 (VOp.mk (some 9) (Op.call (Call.mk (Callee.builtin Builtin.append) #[Operand.tmp 6, Operand.tmp 8] #[22, 22]))
  none) (VBT.alt 7 (VOp.mk (some 13) (Op.call (Call.mk (Callee.builtin Builtin.append) #[Operand.tmp 10, Operand.tmp 12] #[26, 26])) none) (VBT.alt 8 (VOp.mk none (Op.store 22
  (Operand.tmp 2) (Operand.tmp 9)) none) (VBT.alt 9 (VOp.mk none (Op.store 26 (Operand.tmp 3) (Operand.tmp 13)) none) VBT.leaf VBT.no) VBT.no) VBT.no) VBT.no) VBT.no) VBT.no))))))
  [(2, [0, 4, 5]), (3, [4, 5]), (6, [0, 4])])
theorem fn10 : FnOk Tryz.prog 10 14 vc10 [] := ⟨Tryz.f10, _, [(1, [([0, 1, 4, 5, 2, 3, 6, 7, 8, 9], [(2, [0, 4, 5]), (3, [4, 5]), (6, [0, 4])]), ([0, 1, 4, 5, 2, 6, 3, 7, 8, 9],
  []), ([0, 1, 4, 5, 6, 2, 3, 7, 8, 9], [])])], Tryz.func10, rfl, rfl, rfl, by kernel_rfl, by kernel_rfl, by kernel_rfl⟩

/-- wafer/unify.New -/
def vc11 : VCode := (VCode.ops [VOp.mk (some 0) (Op.assign (Operand.const (Value.pointer none))) none]).seq ((VCode.ops [VOp.mk (some 1) (Op.build 70 #[]) none, VOp.mk (some 2)
  (Op.box 70 (Operand.tmp 1)) none, VOp.mk (some 0) (Op.assign (Operand.tmp 2)) none]).seq VCode.ret)
theorem fn11 : FnOk Tryz.prog 11 3 vc11 [ResultVar.tmp 0] := ⟨Tryz.f11, _, [], Tryz.func11, rfl, rfl, rfl, by kernel_rfl, by kernel_rfl, by kernel_rfl⟩

/-- wafer/pattern.Check -/
def vc12 : VCode := (VCode.ops [VOp.mk (some 3) (Op.box 25 (Operand.tmp 0)) none, VOp.mk (some 4) (Op.box 54 (Operand.tmp 1)) none, VOp.mk (some 6) (Op.alloc 42) none, VOp.mk (some
  7) (Op.assign (Operand.const (Value.slice none 0 0))) none, VOp.mk (some 8) (Op.assign (Operand.const (Value.int IntKind.i64 0))) none]).seq (((VCode.ops [VOp.mk (some 17)
  (Op.move (Operand.tmp 2)) none, VOp.mk (some 18) (Op.binOp BinOp.eql 38 (Operand.tmp 17) (Operand.const (Value.pointer none)) 38) none]).seq (VCode.cond (Operand.tmp 18)
  ((VCode.ops [VOp.mk (some 19) (Op.build 42 #[]) none, VOp.mk none (Op.store 42 (Operand.tmp 6) (Operand.tmp 19)) none, VOp.mk (some 7) (Op.assign (Operand.const (Value.slice none
  0 0))) none, VOp.mk (some 8) (Op.assign (Operand.const (Value.int IntKind.i64 2))) none]).seq VCode.ret) VCode.skip)).seq (((VCode.ops [VOp.mk (some 20) (Op.load 25 (Operand.tmp
  3)) none, VOp.mk (some 21) (Op.call (Call.mk (Callee.value (Operand.func 15)) #[Operand.tmp 20] #[25])) none, VOp.mk (some 9) (Op.assign (Operand.tmp 21)) none]).seq ((VCode.ops
  [VOp.mk (some 22) (Op.move (Operand.tmp 9)) none, VOp.mk (some 23) (Op.binOp BinOp.neq 44 (Operand.tmp 22) (Operand.const (Value.int IntKind.i64 0)) 44) none]).seq (VCode.cond
  (Operand.tmp 23) ((VCode.ops [VOp.mk (some 24) (Op.build 42 #[]) none, VOp.mk (some 25) (Op.move (Operand.tmp 9)) none, VOp.mk none (Op.store 42 (Operand.tmp 6) (Operand.tmp 24))
  none, VOp.mk (some 7) (Op.assign (Operand.const (Value.slice none 0 0))) none, VOp.mk (some 8) (Op.assign (Operand.tmp 25)) none]).seq VCode.ret) VCode.skip))).seq ((VCode.ops
  [VOp.mk (some 26) (Op.load 25 (Operand.tmp 3)) none, VOp.mk (some 27) (Op.call (Call.mk (Callee.value (Operand.func 16)) #[Operand.tmp 26] #[25])) none, VOp.mk (some 10)
  (Op.assign (Operand.tmp 27)) none]).seq ((VCode.ops [VOp.mk (some 28) (Op.move (Operand.tmp 10)) none, VOp.mk (some 29) (Op.call (Call.mk (Callee.value (Operand.func 17))
  #[Operand.tmp 28] #[22])) none]).seq (((VCode.opsW [(0, VOp.mk (some 30) (Op.move (Operand.tmp 10)) none), (3, VOp.mk (some 33) (Op.load 25 (Operand.tmp 3)) none), (1, VOp.mk
  (some 31) (Op.call (Call.mk (Callee.value (Operand.func 18)) #[Operand.tmp 30] #[22])) none), (2, VOp.mk (some 32) (Op.call (Call.mk (Callee.builtin Builtin.len) #[Operand.tmp 31]
  #[22])) none), (4, VOp.mk (some 34) (Op.call (Call.mk (Callee.value (Operand.func 16)) #[Operand.tmp 33] #[25])) none), (5, VOp.mk (some 35) (Op.call (Call.mk (Callee.builtin
  Builtin.len) #[Operand.tmp 34] #[22])) none), (6, VOp.mk (some 36) (Op.binOp BinOp.lss 3 (Operand.tmp 32) (Operand.tmp 35) 3) none)] [(1, [3]), (4, [2])]).seq (VCode.cond
  (Operand.tmp 36) ((VCode.ops [VOp.mk (some 37) (Op.build 42 #[]) none, VOp.mk none (Op.store 42 (Operand.tmp 6) (Operand.tmp 37)) none, VOp.mk (some 7) (Op.assign (Operand.const
  (Value.slice none 0 0))) none, VOp.mk (some 8) (Op.assign (Operand.const (Value.int IntKind.i64 20))) none]).seq VCode.ret) VCode.skip)).seq (((VCode.ops [VOp.mk (some 38)
  (Op.load 25 (Operand.tmp 3)) none, VOp.mk (some 39) (Op.load 54 (Operand.tmp 4)) none, VOp.mk (some 40) (Op.call (Call.mk (Callee.value (Operand.func 19)) #[Operand.tmp 38,
  Operand.tmp 39] #[25, 54])) none, VOp.mk (some 41) (Op.unOp UnOp.not 4 (Operand.tmp 40)) none]).seq (VCode.cond (Operand.tmp 41) ((VCode.ops [VOp.mk (some 42) (Op.build 42 #[])
  none, VOp.mk none (Op.store 42 (Operand.tmp 6) (Operand.tmp 42)) none, VOp.mk (some 7) (Op.assign (Operand.const (Value.slice none 0 0))) none, VOp.mk (some 8) (Op.assign
  (Operand.const (Value.int IntKind.i64 21))) none]).seq VCode.ret) VCode.skip)).seq ((VCode.ops [VOp.mk (some 43) (Op.move (Operand.tmp 2)) none, VOp.mk (some 44) (Op.call (Call.mk
  (Callee.value (Operand.func 20)) #[Operand.tmp 43] #[38])) none, VOp.mk (some 11) (Op.assign (Operand.tmp 44)) none]).seq ((VCode.ops [VOp.mk (some 45) (Op.load 54 (Operand.tmp
  4)) none, VOp.mk (some 46) (Op.move (Operand.tmp 2)) none, VOp.mk (some 47) (Op.build 78 #[(0, Operand.tmp 45), (1, Operand.tmp 46)]) none, VOp.mk (some 48) (Op.box 78
  (Operand.tmp 47)) none, VOp.mk (some 12) (Op.assign (Operand.tmp 48)) none]).seq ((VCode.ops [VOp.mk (some 50) (Op.move (Operand.tmp 12)) none, VOp.mk (some 51) (Op.load 25
  (Operand.tmp 3)) none, VOp.mk (some 52) (Op.call (Call.mk (Callee.value (Operand.func 21)) #[Operand.tmp 50, Operand.tmp 51] #[76, 25])) none, VOp.mk (some 49) (Op.move
  (Operand.tmp 52)) none, VOp.mk (some 53) (Op.extract (Operand.tmp 49) 0) none, VOp.mk (some 54) (Op.extract (Operand.tmp 49) 1) none, VOp.mk (some 13) (Op.alloc 42) none, VOp.mk
  none (Op.store 42 (Operand.tmp 13) (Operand.tmp 53)) none, VOp.mk (some 14) (Op.assign (Operand.tmp 54)) none]).seq (((VCode.ops [VOp.mk (some 55) (Op.move (Operand.tmp 14))
  none]).seq (VCode.cond (Operand.tmp 55) ((VCode.ops [VOp.mk (some 57) (Op.move (Operand.tmp 2)) none, VOp.mk (some 58) (Op.load 42 (Operand.tmp 13)) none, VOp.mk (some 59)
  (Op.call (Call.mk (Callee.value (Operand.func 14)) #[Operand.tmp 57, Operand.tmp 58] #[38, 42])) none, VOp.mk (some 56) (Op.move (Operand.tmp 59)) none, VOp.mk (some 60)
  (Op.extract (Operand.tmp 56) 0) none, VOp.mk (some 61) (Op.extract (Operand.tmp 56) 1) none, VOp.mk (some 15) (Op.alloc 42) none, VOp.mk none (Op.store 42 (Operand.tmp 15)
  (Operand.tmp 60)) none, VOp.mk (some 16) (Op.assign (Operand.tmp 61)) none]).seq (VCode.ops [VOp.mk (some 62) (Op.move (Operand.tmp 16)) none, VOp.mk (some 63) (Op.binOp BinOp.eql
  44 (Operand.tmp 62) (Operand.const (Value.int IntKind.i64 0)) 44) none, VOp.mk (some 14) (Op.assign (Operand.tmp 63)) none])) VCode.skip)).seq (((VCode.ops [VOp.mk (some 64)
  (Op.move (Operand.tmp 14)) none, VOp.mk (some 65) (Op.unOp UnOp.not 4 (Operand.tmp 64)) none]).seq (VCode.cond (Operand.tmp 65) ((VCode.ops [VOp.mk (some 66) (Op.move (Operand.tmp
  2)) none, VOp.mk (some 67) (Op.move (Operand.tmp 11)) none, VOp.mk (some 68) (Op.nilCheck (Operand.tmp 67)) none, VOp.mk (some 69) (Op.load 70 (Operand.tmp 68)) none, VOp.mk (some
  70) (Op.nilCheck (Operand.tmp 66)) none, VOp.mk none (Op.store 70 (Operand.tmp 70) (Operand.tmp 69)) none]).seq ((VCode.ops [VOp.mk (some 71) (Op.build 42 #[]) none, VOp.mk none
  (Op.store 42 (Operand.tmp 6) (Operand.tmp 71)) none, VOp.mk (some 7) (Op.assign (Operand.const (Value.slice none 0 0))) none, VOp.mk (some 8) (Op.assign (Operand.const (Value.int
  IntKind.i64 22))) none]).seq VCode.ret)) VCode.skip)).seq ((VCode.opsW [(0, VOp.mk (some 72) (Op.load 42 (Operand.tmp 13)) none), (1, VOp.mk (some 73) (Op.move (Operand.tmp 12))
  none), (2, VOp.mk (some 74) (Op.nilCheck (Operand.tmp 73)) none), (3, VOp.mk (some 75) (Op.fieldAddr 78 (Operand.tmp 74) 2) none), (4, VOp.mk (some 76) (Op.load 43 (Operand.tmp
  75)) none), (5, VOp.mk none (Op.store 42 (Operand.tmp 6) (Operand.tmp 72)) none), (6, VOp.mk (some 7) (Op.assign (Operand.tmp 76)) none), (7, VOp.mk (some 8) (Op.assign
  (Operand.const (Value.int IntKind.i64 0))) none)] [(5, [2, 3, 4])]).seq VCode.ret))))))))))))
theorem fn12 : FnOk Tryz.prog 12 77 vc12 [ResultVar.cell 6 42, ResultVar.tmp 7, ResultVar.tmp 8] := ⟨Tryz.f12, _, [(8, [([0, 3, 1, 2, 4, 5, 6], [(1, [3]), (4, [2])])]), (21, [([0,
  1, 2, 3, 4, 5, 6, 7], [(5, [2, 3, 4])])])], Tryz.func12, rfl, rfl, rfl, by kernel_rfl, by kernel_rfl, by kernel_rfl⟩

/-- wafer/waferlaw13.Own -/
def vc13 : VCode := (VCode.ops [VOp.mk (some 1) (Op.box 63 (Operand.tmp 0)) none, VOp.mk (some 2) (Op.alloc 54) none]).seq ((VCode.ops [VOp.mk (some 3) (Op.alloc 54) none]).seq
  (((VCode.ops [VOp.mk (some 4) (Op.assign (Operand.const (Value.int IntKind.i64 0))) none]).seq (VCode.block 0 (((VCode.ops [VOp.mk (some 11) (Op.move (Operand.tmp 4)) none, VOp.mk
  (some 12) (Op.fieldAddr 63 (Operand.tmp 1) 0) none, VOp.mk (some 13) (Op.load 56 (Operand.tmp 12)) none, VOp.mk (some 14) (Op.call (Call.mk (Callee.builtin Builtin.len)
  #[Operand.tmp 13] #[56])) none, VOp.mk (some 15) (Op.binOp BinOp.lss 3 (Operand.tmp 11) (Operand.tmp 14) 3) none]).seq (VCode.cond (Operand.tmp 15) VCode.skip (VCode.exit 0))).seq
  ((VCode.block 1 (VCode.opsW [(0, VOp.mk (some 18) (Op.fieldAddr 54 (Operand.tmp 3) 0) none), (1, VOp.mk (some 19) (Op.load 47 (Operand.tmp 18)) none), (2, VOp.mk (some 20)
  (Op.fieldAddr 63 (Operand.tmp 1) 0) none), (3, VOp.mk (some 21) (Op.load 56 (Operand.tmp 20)) none), (4, VOp.mk (some 22) (Op.move (Operand.tmp 4)) none), (5, VOp.mk (some 23)
  (Op.indexAddr 56 (Operand.tmp 21) (Operand.tmp 22)) none), (6, VOp.mk (some 24) (Op.fieldAddr 88 (Operand.tmp 23) 0) none), (7, VOp.mk (some 25) (Op.load 9 (Operand.tmp 24))
  none), (8, VOp.mk (some 26) (Op.fieldAddr 63 (Operand.tmp 1) 0) none), (9, VOp.mk (some 27) (Op.load 56 (Operand.tmp 26)) none), (10, VOp.mk (some 28) (Op.move (Operand.tmp 4))
  none), (11, VOp.mk (some 29) (Op.indexAddr 56 (Operand.tmp 27) (Operand.tmp 28)) none), (12, VOp.mk (some 30) (Op.fieldAddr 88 (Operand.tmp 29) 1) none), (13, VOp.mk (some 31)
  (Op.load 82 (Operand.tmp 30)) none), (14, VOp.mk (some 32) (Op.fieldAddr 63 (Operand.tmp 1) 0) none), (15, VOp.mk (some 33) (Op.load 56 (Operand.tmp 32)) none), (16, VOp.mk (some
  34) (Op.move (Operand.tmp 4)) none), (17, VOp.mk (some 35) (Op.indexAddr 56 (Operand.tmp 33) (Operand.tmp 34)) none), (18, VOp.mk (some 36) (Op.fieldAddr 88 (Operand.tmp 35) 2)
  none), (19, VOp.mk (some 37) (Op.load 86 (Operand.tmp 36)) none), (20, VOp.mk (some 38) (Op.build 89 #[(0, Operand.tmp 25), (1, Operand.tmp 31), (2, Operand.tmp 37)]) none), (21,
  VOp.mk (some 39) (Op.buildSlice 47 1 #[(0, Operand.tmp 38)]) none), (22, VOp.mk (some 40) (Op.call (Call.mk (Callee.builtin Builtin.append) #[Operand.tmp 19, Operand.tmp 39] #[47,
  47])) none), (23, VOp.mk (some 41) (Op.fieldAddr 54 (Operand.tmp 3) 0) none), (24, VOp.mk none (Op.store 47 (Operand.tmp 41) (Operand.tmp 40)) none)] [(21, [0, 1])])).seq
  (VCode.ops [VOp.mk (some 16) (Op.move (Operand.tmp 4)) none, VOp.mk (some 17) (Op.binOp BinOp.add 3 (Operand.tmp 16) (Operand.const (Value.int IntKind.i64 1)) 3) none, VOp.mk
  (some 4) (Op.assign (Operand.tmp 17)) none]))).loop)).seq (((VCode.ops [VOp.mk (some 5) (Op.assign (Operand.const (Value.int IntKind.i64 0))) none]).seq (VCode.block 2
  (((VCode.ops [VOp.mk (some 42) (Op.move (Operand.tmp 5)) none, VOp.mk (some 43) (Op.fieldAddr 63 (Operand.tmp 1) 1) none, VOp.mk (some 44) (Op.load 57 (Operand.tmp 43)) none,
  VOp.mk (some 45) (Op.call (Call.mk (Callee.builtin Builtin.len) #[Operand.tmp 44] #[57])) none, VOp.mk (some 46) (Op.binOp BinOp.lss 3 (Operand.tmp 42) (Operand.tmp 45) 3)
  none]).seq (VCode.cond (Operand.tmp 46) VCode.skip (VCode.exit 2))).seq ((VCode.block 3 ((VCode.ops [VOp.mk (some 49) (Op.fieldAddr 63 (Operand.tmp 1) 1) none, VOp.mk (some 50)
  (Op.load 57 (Operand.tmp 49)) none, VOp.mk (some 51) (Op.move (Operand.tmp 5)) none, VOp.mk (some 52) (Op.indexAddr 57 (Operand.tmp 50) (Operand.tmp 51)) none, VOp.mk (some 53)
  (Op.load 92 (Operand.tmp 52)) none, VOp.mk (some 6) (Op.alloc 92) none, VOp.mk none (Op.store 92 (Operand.tmp 6) (Operand.tmp 53)) none]).seq (VCode.ops [VOp.mk (some 54)
  (Op.fieldAddr 54 (Operand.tmp 3) 1) none, VOp.mk (some 55) (Op.load 48 (Operand.tmp 54)) none, VOp.mk (some 56) (Op.fieldAddr 92 (Operand.tmp 6) 0) none, VOp.mk (some 57) (Op.load
  9 (Operand.tmp 56)) none, VOp.mk (some 58) (Op.fieldAddr 92 (Operand.tmp 6) 1) none, VOp.mk (some 59) (Op.load 42 (Operand.tmp 58)) none, VOp.mk (some 60) (Op.fieldAddr 92
  (Operand.tmp 6) 2) none, VOp.mk (some 61) (Op.load 40 (Operand.tmp 60)) none, VOp.mk (some 62) (Op.fieldAddr 92 (Operand.tmp 6) 3) none, VOp.mk (some 63) (Op.load 3 (Operand.tmp
  62)) none, VOp.mk (some 64) (Op.fieldAddr 92 (Operand.tmp 6) 4) none, VOp.mk (some 65) (Op.load 90 (Operand.tmp 64)) none, VOp.mk (some 66) (Op.fieldAddr 92 (Operand.tmp 6) 5)
  none, VOp.mk (some 67) (Op.load 86 (Operand.tmp 66)) none, VOp.mk (some 68) (Op.fieldAddr 92 (Operand.tmp 6) 6) none, VOp.mk (some 69) (Op.load 86 (Operand.tmp 68)) none, VOp.mk
  (some 70) (Op.build 93 #[(0, Operand.tmp 57), (1, Operand.tmp 59), (2, Operand.tmp 61), (3, Operand.tmp 63), (4, Operand.tmp 65), (5, Operand.tmp 67), (6, Operand.tmp 69)]) none,
  VOp.mk (some 71) (Op.buildSlice 48 1 #[(0, Operand.tmp 70)]) none, VOp.mk (some 72) (Op.call (Call.mk (Callee.builtin Builtin.append) #[Operand.tmp 55, Operand.tmp 71] #[48, 48]))
  none, VOp.mk (some 73) (Op.fieldAddr 54 (Operand.tmp 3) 1) none, VOp.mk none (Op.store 48 (Operand.tmp 73) (Operand.tmp 72)) none]))).seq (VCode.ops [VOp.mk (some 47) (Op.move
  (Operand.tmp 5)) none, VOp.mk (some 48) (Op.binOp BinOp.add 3 (Operand.tmp 47) (Operand.const (Value.int IntKind.i64 1)) 3) none, VOp.mk (some 5) (Op.assign (Operand.tmp 48))
  none]))).loop)).seq (((VCode.ops [VOp.mk (some 7) (Op.assign (Operand.const (Value.int IntKind.i64 0))) none]).seq (VCode.block 4 (((VCode.ops [VOp.mk (some 74) (Op.move
  (Operand.tmp 7)) none, VOp.mk (some 75) (Op.fieldAddr 63 (Operand.tmp 1) 2) none, VOp.mk (some 76) (Op.load 58 (Operand.tmp 75)) none, VOp.mk (some 77) (Op.call (Call.mk
  (Callee.builtin Builtin.len) #[Operand.tmp 76] #[58])) none, VOp.mk (some 78) (Op.binOp BinOp.lss 3 (Operand.tmp 74) (Operand.tmp 77) 3) none]).seq (VCode.cond (Operand.tmp 78)
  VCode.skip (VCode.exit 4))).seq ((VCode.block 5 (VCode.opsW [(0, VOp.mk (some 81) (Op.fieldAddr 54 (Operand.tmp 3) 2) none), (1, VOp.mk (some 82) (Op.load 49 (Operand.tmp 81))
  none), (2, VOp.mk (some 83) (Op.fieldAddr 63 (Operand.tmp 1) 2) none), (3, VOp.mk (some 84) (Op.load 58 (Operand.tmp 83)) none), (4, VOp.mk (some 85) (Op.move (Operand.tmp 7))
  none), (5, VOp.mk (some 86) (Op.indexAddr 58 (Operand.tmp 84) (Operand.tmp 85)) none), (6, VOp.mk (some 87) (Op.fieldAddr 95 (Operand.tmp 86) 0) none), (7, VOp.mk (some 88)
  (Op.load 9 (Operand.tmp 87)) none), (8, VOp.mk (some 89) (Op.fieldAddr 63 (Operand.tmp 1) 2) none), (9, VOp.mk (some 90) (Op.load 58 (Operand.tmp 89)) none), (10, VOp.mk (some 91)
  (Op.move (Operand.tmp 7)) none), (11, VOp.mk (some 92) (Op.indexAddr 58 (Operand.tmp 90) (Operand.tmp 91)) none), (12, VOp.mk (some 93) (Op.fieldAddr 95 (Operand.tmp 92) 1) none),
  (13, VOp.mk (some 94) (Op.load 42 (Operand.tmp 93)) none), (14, VOp.mk (some 95) (Op.fieldAddr 63 (Operand.tmp 1) 2) none), (15, VOp.mk (some 96) (Op.load 58 (Operand.tmp 95))
  none), (16, VOp.mk (some 97) (Op.move (Operand.tmp 7)) none), (17, VOp.mk (some 98) (Op.indexAddr 58 (Operand.tmp 96) (Operand.tmp 97)) none), (18, VOp.mk (some 99) (Op.fieldAddr
  95 (Operand.tmp 98) 2) none), (19, VOp.mk (some 100) (Op.load 90 (Operand.tmp 99)) none), (20, VOp.mk (some 101) (Op.build 96 #[(0, Operand.tmp 88), (1, Operand.tmp 94), (2,
  Operand.tmp 100)]) none), (21, VOp.mk (some 102) (Op.buildSlice 49 1 #[(0, Operand.tmp 101)]) none), (22, VOp.mk (some 103) (Op.call (Call.mk (Callee.builtin Builtin.append)
  #[Operand.tmp 82, Operand.tmp 102] #[49, 49])) none), (23, VOp.mk (some 104) (Op.fieldAddr 54 (Operand.tmp 3) 2) none), (24, VOp.mk none (Op.store 49 (Operand.tmp 104)
  (Operand.tmp 103)) none)] [(21, [0, 1])])).seq (VCode.ops [VOp.mk (some 79) (Op.move (Operand.tmp 7)) none, VOp.mk (some 80) (Op.binOp BinOp.add 3 (Operand.tmp 79) (Operand.const
  (Value.int IntKind.i64 1)) 3) none, VOp.mk (some 7) (Op.assign (Operand.tmp 80)) none]))).loop)).seq (((VCode.ops [VOp.mk (some 8) (Op.assign (Operand.const (Value.int IntKind.i64
  0))) none]).seq (VCode.block 6 (((VCode.ops [VOp.mk (some 105) (Op.move (Operand.tmp 8)) none, VOp.mk (some 106) (Op.fieldAddr 63 (Operand.tmp 1) 3) none, VOp.mk (some 107)
  (Op.load 59 (Operand.tmp 106)) none, VOp.mk (some 108) (Op.call (Call.mk (Callee.builtin Builtin.len) #[Operand.tmp 107] #[59])) none, VOp.mk (some 109) (Op.binOp BinOp.lss 3
  (Operand.tmp 105) (Operand.tmp 108) 3) none]).seq (VCode.cond (Operand.tmp 109) VCode.skip (VCode.exit 6))).seq ((VCode.block 7 (VCode.opsW [(0, VOp.mk (some 112) (Op.fieldAddr 54
  (Operand.tmp 3) 3) none), (1, VOp.mk (some 113) (Op.load 50 (Operand.tmp 112)) none), (2, VOp.mk (some 114) (Op.fieldAddr 63 (Operand.tmp 1) 3) none), (3, VOp.mk (some 115)
  (Op.load 59 (Operand.tmp 114)) none), (4, VOp.mk (some 116) (Op.move (Operand.tmp 8)) none), (5, VOp.mk (some 117) (Op.indexAddr 59 (Operand.tmp 115) (Operand.tmp 116)) none), (6,
  VOp.mk (some 118) (Op.fieldAddr 105 (Operand.tmp 117) 0) none), (7, VOp.mk (some 119) (Op.load 9 (Operand.tmp 118)) none), (8, VOp.mk (some 120) (Op.fieldAddr 63 (Operand.tmp 1)
  3) none), (9, VOp.mk (some 121) (Op.load 59 (Operand.tmp 120)) none), (10, VOp.mk (some 122) (Op.move (Operand.tmp 8)) none), (11, VOp.mk (some 123) (Op.indexAddr 59 (Operand.tmp
  121) (Operand.tmp 122)) none), (12, VOp.mk (some 124) (Op.fieldAddr 105 (Operand.tmp 123) 1) none), (13, VOp.mk (some 125) (Op.load 103 (Operand.tmp 124)) none), (14, VOp.mk (some
  126) (Op.fieldAddr 63 (Operand.tmp 1) 3) none), (15, VOp.mk (some 127) (Op.load 59 (Operand.tmp 126)) none), (16, VOp.mk (some 128) (Op.move (Operand.tmp 8)) none), (17, VOp.mk
  (some 129) (Op.indexAddr 59 (Operand.tmp 127) (Operand.tmp 128)) none), (18, VOp.mk (some 130) (Op.fieldAddr 105 (Operand.tmp 129) 2) none), (19, VOp.mk (some 131) (Op.load 86
  (Operand.tmp 130)) none), (20, VOp.mk (some 132) (Op.build 106 #[(0, Operand.tmp 119), (1, Operand.tmp 125), (2, Operand.tmp 131)]) none), (21, VOp.mk (some 133) (Op.buildSlice 50
  1 #[(0, Operand.tmp 132)]) none), (22, VOp.mk (some 134) (Op.call (Call.mk (Callee.builtin Builtin.append) #[Operand.tmp 113, Operand.tmp 133] #[50, 50])) none), (23, VOp.mk (some
  135) (Op.fieldAddr 54 (Operand.tmp 3) 3) none), (24, VOp.mk none (Op.store 50 (Operand.tmp 135) (Operand.tmp 134)) none)] [(21, [0, 1])])).seq (VCode.ops [VOp.mk (some 110)
  (Op.move (Operand.tmp 8)) none, VOp.mk (some 111) (Op.binOp BinOp.add 3 (Operand.tmp 110) (Operand.const (Value.int IntKind.i64 1)) 3) none, VOp.mk (some 8) (Op.assign
  (Operand.tmp 111)) none]))).loop)).seq (((VCode.ops [VOp.mk (some 9) (Op.assign (Operand.const (Value.int IntKind.i64 0))) none]).seq (VCode.block 8 (((VCode.ops [VOp.mk (some
  136) (Op.move (Operand.tmp 9)) none, VOp.mk (some 137) (Op.fieldAddr 63 (Operand.tmp 1) 4) none, VOp.mk (some 138) (Op.load 60 (Operand.tmp 137)) none, VOp.mk (some 139) (Op.call
  (Call.mk (Callee.builtin Builtin.len) #[Operand.tmp 138] #[60])) none, VOp.mk (some 140) (Op.binOp BinOp.lss 3 (Operand.tmp 136) (Operand.tmp 139) 3) none]).seq (VCode.cond
  (Operand.tmp 140) VCode.skip (VCode.exit 8))).seq ((VCode.block 9 (VCode.opsW [(0, VOp.mk (some 143) (Op.fieldAddr 54 (Operand.tmp 3) 4) none), (1, VOp.mk (some 144) (Op.load 51
  (Operand.tmp 143)) none), (2, VOp.mk (some 145) (Op.fieldAddr 63 (Operand.tmp 1) 4) none), (3, VOp.mk (some 146) (Op.load 60 (Operand.tmp 145)) none), (4, VOp.mk (some 147)
  (Op.move (Operand.tmp 9)) none), (5, VOp.mk (some 148) (Op.indexAddr 60 (Operand.tmp 146) (Operand.tmp 147)) none), (6, VOp.mk (some 149) (Op.fieldAddr 113 (Operand.tmp 148) 0)
  none), (7, VOp.mk (some 150) (Op.load 9 (Operand.tmp 149)) none), (8, VOp.mk (some 151) (Op.fieldAddr 63 (Operand.tmp 1) 4) none), (9, VOp.mk (some 152) (Op.load 60 (Operand.tmp
  151)) none), (10, VOp.mk (some 153) (Op.move (Operand.tmp 9)) none), (11, VOp.mk (some 154) (Op.indexAddr 60 (Operand.tmp 152) (Operand.tmp 153)) none), (12, VOp.mk (some 155)
  (Op.fieldAddr 113 (Operand.tmp 154) 1) none), (13, VOp.mk (some 156) (Op.load 111 (Operand.tmp 155)) none), (14, VOp.mk (some 157) (Op.fieldAddr 63 (Operand.tmp 1) 4) none), (15,
  VOp.mk (some 158) (Op.load 60 (Operand.tmp 157)) none), (16, VOp.mk (some 159) (Op.move (Operand.tmp 9)) none), (17, VOp.mk (some 160) (Op.indexAddr 60 (Operand.tmp 158)
  (Operand.tmp 159)) none), (18, VOp.mk (some 161) (Op.fieldAddr 113 (Operand.tmp 160) 2) none), (19, VOp.mk (some 162) (Op.load 86 (Operand.tmp 161)) none), (20, VOp.mk (some 163)
  (Op.build 114 #[(0, Operand.tmp 150), (1, Operand.tmp 156), (2, Operand.tmp 162)]) none), (21, VOp.mk (some 164) (Op.buildSlice 51 1 #[(0, Operand.tmp 163)]) none), (22, VOp.mk
  (some 165) (Op.call (Call.mk (Callee.builtin Builtin.append) #[Operand.tmp 144, Operand.tmp 164] #[51, 51])) none), (23, VOp.mk (some 166) (Op.fieldAddr 54 (Operand.tmp 3) 4)
  none), (24, VOp.mk none (Op.store 51 (Operand.tmp 166) (Operand.tmp 165)) none)] [(21, [0, 1])])).seq (VCode.ops [VOp.mk (some 141) (Op.move (Operand.tmp 9)) none, VOp.mk (some
  142) (Op.binOp BinOp.add 3 (Operand.tmp 141) (Operand.const (Value.int IntKind.i64 1)) 3) none, VOp.mk (some 9) (Op.assign (Operand.tmp 142)) none]))).loop)).seq (((VCode.ops
  [VOp.mk (some 10) (Op.assign (Operand.const (Value.int IntKind.i64 0))) none]).seq (VCode.block 10 (((VCode.ops [VOp.mk (some 167) (Op.move (Operand.tmp 10)) none, VOp.mk (some
  168) (Op.fieldAddr 63 (Operand.tmp 1) 5) none, VOp.mk (some 169) (Op.load 61 (Operand.tmp 168)) none, VOp.mk (some 170) (Op.call (Call.mk (Callee.builtin Builtin.len)
  #[Operand.tmp 169] #[61])) none, VOp.mk (some 171) (Op.binOp BinOp.lss 3 (Operand.tmp 167) (Operand.tmp 170) 3) none]).seq (VCode.cond (Operand.tmp 171) VCode.skip (VCode.exit
  10))).seq ((VCode.block 11 (VCode.opsW [(0, VOp.mk (some 174) (Op.fieldAddr 54 (Operand.tmp 3) 5) none), (1, VOp.mk (some 175) (Op.load 52 (Operand.tmp 174)) none), (2, VOp.mk
  (some 176) (Op.fieldAddr 63 (Operand.tmp 1) 5) none), (3, VOp.mk (some 177) (Op.load 61 (Operand.tmp 176)) none), (4, VOp.mk (some 178) (Op.move (Operand.tmp 10)) none), (5,
  VOp.mk (some 179) (Op.indexAddr 61 (Operand.tmp 177) (Operand.tmp 178)) none), (6, VOp.mk (some 180) (Op.fieldAddr 116 (Operand.tmp 179) 0) none), (7, VOp.mk (some 181) (Op.load 9
  (Operand.tmp 180)) none), (8, VOp.mk (some 182) (Op.fieldAddr 63 (Operand.tmp 1) 5) none), (9, VOp.mk (some 183) (Op.load 61 (Operand.tmp 182)) none), (10, VOp.mk (some 184)
  (Op.move (Operand.tmp 10)) none), (11, VOp.mk (some 185) (Op.indexAddr 61 (Operand.tmp 183) (Operand.tmp 184)) none), (12, VOp.mk (some 186) (Op.fieldAddr 116 (Operand.tmp 185) 1)
  none), (13, VOp.mk (some 187) (Op.load 109 (Operand.tmp 186)) none), (14, VOp.mk (some 188) (Op.build 117 #[(0, Operand.tmp 181), (1, Operand.tmp 187)]) none), (15, VOp.mk (some
  189) (Op.buildSlice 52 1 #[(0, Operand.tmp 188)]) none), (16, VOp.mk (some 190) (Op.call (Call.mk (Callee.builtin Builtin.append) #[Operand.tmp 175, Operand.tmp 189] #[52, 52]))
  none), (17, VOp.mk (some 191) (Op.fieldAddr 54 (Operand.tmp 3) 5) none), (18, VOp.mk none (Op.store 52 (Operand.tmp 191) (Operand.tmp 190)) none)] [(15, [0, 1])])).seq (VCode.ops
  [VOp.mk (some 172) (Op.move (Operand.tmp 10)) none, VOp.mk (some 173) (Op.binOp BinOp.add 3 (Operand.tmp 172) (Operand.const (Value.int IntKind.i64 1)) 3) none, VOp.mk (some 10)
  (Op.assign (Operand.tmp 173)) none]))).loop)).seq ((VCode.ops [VOp.mk (some 192) (Op.load 54 (Operand.tmp 3)) none, VOp.mk none (Op.store 54 (Operand.tmp 2) (Operand.tmp 192))
  none]).seq VCode.ret))))))))
theorem fn13 : FnOk Tryz.prog 13 193 vc13 [ResultVar.cell 2 54] := ⟨Tryz.f13, _, [(5, [([0, 1, 2, 3, 4, 5, 6, 7, 8, 9, 10, 11, 12, 13, 14, 15, 16, 17, 18, 19, 20, 21, 22, 23, 24],
  [(21, [0, 1])])]), (14, [([0, 1, 2, 3, 4, 5, 6, 7, 8, 9, 10, 11, 12, 13, 14, 15, 16, 17, 18, 19, 20, 21, 22, 23, 24], [(21, [0, 1])])]), (18, [([0, 1, 2, 3, 4, 5, 6, 7, 8, 9, 10,
  11, 12, 13, 14, 15, 16, 17, 18, 19, 20, 21, 22, 23, 24], [(21, [0, 1])])]), (22, [([0, 1, 2, 3, 4, 5, 6, 7, 8, 9, 10, 11, 12, 13, 14, 15, 16, 17, 18, 19, 20, 21, 22, 23, 24],
  [(21, [0, 1])])]), (26, [([0, 1, 2, 3, 4, 5, 6, 7, 8, 9, 10, 11, 12, 13, 14, 15, 16, 17, 18], [(15, [0, 1])])])], Tryz.func13, rfl, rfl, rfl, by kernel_rfl, by kernel_rfl, by
  kernel_rfl⟩

/-- (*wafer/unify.Store).Resolve -/
def vc14 : VCode := (VCode.ops [VOp.mk (some 3) (Op.box 42 (Operand.tmp 1)) none, VOp.mk (some 4) (Op.alloc 42) none, VOp.mk (some 5) (Op.assign (Operand.const (Value.int
  IntKind.i64 0))) none]).seq (((VCode.ops [VOp.mk (some 6) (Op.move (Operand.tmp 0)) none, VOp.mk (some 7) (Op.binOp BinOp.eql 38 (Operand.tmp 6) (Operand.const (Value.pointer
  none)) 38) none]).seq (VCode.cond (Operand.tmp 7) ((VCode.ops [VOp.mk (some 8) (Op.build 42 #[]) none, VOp.mk none (Op.store 42 (Operand.tmp 4) (Operand.tmp 8)) none, VOp.mk (some
  5) (Op.assign (Operand.const (Value.int IntKind.i64 2))) none]).seq VCode.ret) VCode.skip)).seq (((VCode.ops [VOp.mk (some 9) (Op.move (Operand.tmp 0)) none, VOp.mk (some 10)
  (Op.load 42 (Operand.tmp 3)) none, VOp.mk (some 11) (Op.call (Call.mk (Callee.value (Operand.func 22)) #[Operand.tmp 9, Operand.tmp 10, Operand.const (Value.int IntKind.i64 0)]
  #[38, 42, 3])) none, VOp.mk (some 12) (Op.binOp BinOp.gtr 3 (Operand.tmp 11) (Operand.const (Value.int IntKind.i64 1000)) 3) none]).seq (VCode.cond (Operand.tmp 12) ((VCode.ops
  [VOp.mk (some 13) (Op.build 42 #[]) none, VOp.mk none (Op.store 42 (Operand.tmp 4) (Operand.tmp 13)) none, VOp.mk (some 5) (Op.assign (Operand.const (Value.int IntKind.i64 3)))
  none]).seq VCode.ret) VCode.skip)).seq ((VCode.ops [VOp.mk (some 14) (Op.move (Operand.tmp 0)) none, VOp.mk (some 15) (Op.load 42 (Operand.tmp 3)) none, VOp.mk (some 16) (Op.call
  (Call.mk (Callee.value (Operand.func 23)) #[Operand.tmp 14, Operand.tmp 15] #[38, 42])) none, VOp.mk none (Op.store 42 (Operand.tmp 4) (Operand.tmp 16)) none, VOp.mk (some 5)
  (Op.assign (Operand.const (Value.int IntKind.i64 0))) none]).seq VCode.ret)))
theorem fn14 : FnOk Tryz.prog 14 17 vc14 [ResultVar.cell 4 42, ResultVar.tmp 5] := ⟨Tryz.f14, _, [], Tryz.func14, rfl, rfl, rfl, by kernel_rfl, by kernel_rfl, by kernel_rfl⟩

/-- wafer/tree.RightPat -/
def vc15 : VCode := (VCode.ops [VOp.mk (some 1) (Op.box 25 (Operand.tmp 0)) none, VOp.mk (some 2) (Op.assign (Operand.const (Value.int IntKind.i64 0))) none]).seq ((VCode.ops
  [VOp.mk (some 3) (Op.build 123 #[]) none, VOp.mk (some 4) (Op.box 123 (Operand.tmp 3)) none, VOp.mk (some 5) (Op.load 25 (Operand.tmp 1)) none, VOp.mk (some 6) (Op.buildSlice 23 1
  #[(0, Operand.tmp 5)]) none, VOp.mk (some 7) (Op.call (Call.mk (Callee.value (Operand.func 25)) #[Operand.tmp 4, Operand.tmp 6] #[121, 23])) none, VOp.mk (some 8) (Op.makeFunc
  (Fn.func 26) #[] #[Operand.tmp 1]) none, VOp.mk (some 9) (Op.call (Call.mk (Callee.value (Operand.func 24)) #[Operand.tmp 7, Operand.tmp 8] #[121, 1])) none, VOp.mk (some 2)
  (Op.assign (Operand.tmp 9)) none]).seq VCode.ret)
theorem fn15 : FnOk Tryz.prog 15 10 vc15 [ResultVar.tmp 2] := ⟨Tryz.f15, _, [], Tryz.func15, rfl, rfl, rfl, by kernel_rfl, by kernel_rfl, by kernel_rfl⟩

/-- wafer/pattern.vars -/
def vc16 : VCode := (VCode.ops [VOp.mk (some 1) (Op.box 25 (Operand.tmp 0)) none, VOp.mk (some 2) (Op.assign (Operand.const (Value.slice none 0 0))) none]).seq (((VCode.ops [VOp.mk
  (some 6) (Op.fieldAddr 25 (Operand.tmp 1) 0) none, VOp.mk (some 7) (Op.load 3 (Operand.tmp 6)) none, VOp.mk (some 8) (Op.binOp BinOp.eql 3 (Operand.tmp 7) (Operand.const
  (Value.int IntKind.i64 2)) 3) none]).seq (VCode.cond (Operand.tmp 8) ((VCode.ops [VOp.mk (some 9) (Op.fieldAddr 25 (Operand.tmp 1) 1) none, VOp.mk (some 10) (Op.load 9
  (Operand.tmp 9)) none, VOp.mk (some 11) (Op.buildSlice 22 1 #[(0, Operand.tmp 10)]) none, VOp.mk (some 2) (Op.assign (Operand.tmp 11)) none]).seq VCode.ret) VCode.skip)).seq
  ((VCode.ops [VOp.mk (some 3) (Op.assign (Operand.const (Value.slice none 0 0))) none]).seq (((VCode.ops [VOp.mk (some 12) (Op.fieldAddr 25 (Operand.tmp 1) 4) none, VOp.mk (some
  13) (Op.load 23 (Operand.tmp 12)) none, VOp.mk (some 14) (Op.call (Call.mk (Callee.builtin Builtin.len) #[Operand.tmp 13] #[23])) none, VOp.mk (some 15) (Op.move (Operand.const
  (Value.int IntKind.i64 0))) none]).seq (VCode.block 0 ((VCode.ops [VOp.mk (some 16) (Op.binOp BinOp.lss 3 (Operand.tmp 15) (Operand.tmp 14) 3) none]).seq ((VCode.cond (Operand.tmp
  16) VCode.skip (VCode.exit 0)).seq ((VCode.block 1 ((VCode.ops [VOp.mk (some 17) (Op.indexAddr 23 (Operand.tmp 13) (Operand.tmp 15)) none, VOp.mk (some 18) (Op.load 25
  (Operand.tmp 17)) none, VOp.mk (some 5) (Op.alloc 25) none, VOp.mk none (Op.store 25 (Operand.tmp 5) (Operand.tmp 18)) none]).seq (VCode.ops [VOp.mk (some 19) (Op.move
  (Operand.tmp 3)) none, VOp.mk (some 20) (Op.load 25 (Operand.tmp 5)) none, VOp.mk (some 21) (Op.call (Call.mk (Callee.value (Operand.func 16)) #[Operand.tmp 20] #[25])) none,
  VOp.mk (some 22) (Op.call (Call.mk (Callee.builtin Builtin.append) #[Operand.tmp 19, Operand.tmp 21] #[22, 22])) none, VOp.mk (some 3) (Op.assign (Operand.tmp 22)) none]))).seq
  (VCode.ops [VOp.mk (some 23) (Op.binOp BinOp.add 3 (Operand.tmp 15) (Operand.const (Value.int IntKind.i64 1)) 3) none, VOp.mk (some 15) (Op.move (Operand.tmp 23))
  none])))).loop)).seq ((VCode.ops [VOp.mk (some 24) (Op.move (Operand.tmp 3)) none, VOp.mk (some 2) (Op.assign (Operand.tmp 24)) none]).seq VCode.ret))))
theorem fn16 : FnOk Tryz.prog 16 25 vc16 [ResultVar.tmp 2] := ⟨Tryz.f16, _, [], Tryz.func16, rfl, rfl, rfl, by kernel_rfl, by kernel_rfl, by kernel_rfl⟩

/-- slices.Sort[[]string,string] -/
def vc17 : VCode := (VCode.ops [VOp.mk (some 3) (Op.move (Operand.tmp 0)) none, VOp.mk (some 4) (Op.call (Call.mk (Callee.builtin Builtin.len) #[Operand.tmp 3] #[22])) none, VOp.mk
  (some 2) (Op.assign (Operand.tmp 4)) none]).seq (VCode.ops [VOp.mk (some 5) (Op.move (Operand.tmp 0)) none, VOp.mk (some 6) (Op.move (Operand.tmp 2)) none, VOp.mk (some 7)
  (Op.move (Operand.tmp 2)) none, VOp.mk (some 8) (Op.convert 3 128 (Operand.tmp 7)) none, VOp.mk (some 9) (Op.call (Call.mk (Callee.value (Operand.func 29)) #[Operand.tmp 8]
  #[128])) none, VOp.mk (some 10) (Op.call (Call.mk (Callee.value (Operand.func 28)) #[Operand.tmp 5, Operand.const (Value.int IntKind.i64 0), Operand.tmp 6, Operand.tmp 9] #[22, 3,
  3, 3])) none])
theorem fn17 : FnOk Tryz.prog 17 11 vc17 [] := ⟨Tryz.f17, _, [], Tryz.func17, rfl, rfl, rfl, by kernel_rfl, by kernel_rfl, by kernel_rfl⟩

/-- slices.Compact[[]string,string] -/
def vc18 : VCode := (VCode.ops [VOp.mk (some 2) (Op.assign (Operand.const (Value.slice none 0 0))) none]).seq (((VCode.ops [VOp.mk (some 6) (Op.move (Operand.tmp 0)) none, VOp.mk
  (some 7) (Op.call (Call.mk (Callee.builtin Builtin.len) #[Operand.tmp 6] #[22])) none, VOp.mk (some 8) (Op.binOp BinOp.lss 3 (Operand.tmp 7) (Operand.const (Value.int IntKind.i64
  2)) 3) none]).seq (VCode.cond (Operand.tmp 8) ((VCode.ops [VOp.mk (some 9) (Op.move (Operand.tmp 0)) none, VOp.mk (some 2) (Op.assign (Operand.tmp 9)) none]).seq VCode.ret)
  VCode.skip)).seq (((VCode.ops [VOp.mk (some 3) (Op.assign (Operand.const (Value.int IntKind.i64 1))) none]).seq (VCode.block 0 (((VCode.ops [VOp.mk (some 10) (Op.move (Operand.tmp
  3)) none, VOp.mk (some 11) (Op.move (Operand.tmp 0)) none, VOp.mk (some 12) (Op.call (Call.mk (Callee.builtin Builtin.len) #[Operand.tmp 11] #[22])) none, VOp.mk (some 13)
  (Op.binOp BinOp.lss 3 (Operand.tmp 10) (Operand.tmp 12) 3) none]).seq (VCode.cond (Operand.tmp 13) VCode.skip (VCode.exit 0))).seq ((VCode.block 1 ((VCode.ops [VOp.mk (some 16)
  (Op.move (Operand.tmp 0)) none, VOp.mk (some 17) (Op.move (Operand.tmp 3)) none, VOp.mk (some 18) (Op.indexAddr 22 (Operand.tmp 16) (Operand.tmp 17)) none, VOp.mk (some 19)
  (Op.load 9 (Operand.tmp 18)) none, VOp.mk (some 20) (Op.move (Operand.tmp 0)) none, VOp.mk (some 21) (Op.move (Operand.tmp 3)) none, VOp.mk (some 22) (Op.binOp BinOp.sub 3
  (Operand.tmp 21) (Operand.const (Value.int IntKind.i64 1)) 3) none, VOp.mk (some 23) (Op.indexAddr 22 (Operand.tmp 20) (Operand.tmp 22)) none, VOp.mk (some 24) (Op.load 9
  (Operand.tmp 23)) none, VOp.mk (some 25) (Op.binOp BinOp.eql 9 (Operand.tmp 19) (Operand.tmp 24) 9) none]).seq (VCode.cond (Operand.tmp 25) ((VCode.ops [VOp.mk (some 26) (Op.move
  (Operand.tmp 0)) none, VOp.mk (some 27) (Op.move (Operand.tmp 3)) none, VOp.mk (some 28) (Op.slice 22 (Operand.tmp 26) (some (Operand.tmp 27)) none none) none, VOp.mk (some 4)
  (Op.assign (Operand.tmp 28)) none]).seq (((VCode.ops [VOp.mk (some 5) (Op.assign (Operand.const (Value.int IntKind.i64 1))) none]).seq (VCode.block 2 (((VCode.ops [VOp.mk (some
  29) (Op.move (Operand.tmp 5)) none, VOp.mk (some 30) (Op.move (Operand.tmp 4)) none, VOp.mk (some 31) (Op.call (Call.mk (Callee.builtin Builtin.len) #[Operand.tmp 30] #[22]))
  none, VOp.mk (some 32) (Op.binOp BinOp.lss 3 (Operand.tmp 29) (Operand.tmp 31) 3) none]).seq (VCode.cond (Operand.tmp 32) VCode.skip (VCode.exit 2))).seq ((VCode.block 3
  ((VCode.ops [VOp.mk (some 35) (Op.move (Operand.tmp 4)) none, VOp.mk (some 36) (Op.move (Operand.tmp 5)) none, VOp.mk (some 37) (Op.indexAddr 22 (Operand.tmp 35) (Operand.tmp 36))
  none, VOp.mk (some 38) (Op.load 9 (Operand.tmp 37)) none, VOp.mk (some 39) (Op.move (Operand.tmp 4)) none, VOp.mk (some 40) (Op.move (Operand.tmp 5)) none, VOp.mk (some 41)
  (Op.binOp BinOp.sub 3 (Operand.tmp 40) (Operand.const (Value.int IntKind.i64 1)) 3) none, VOp.mk (some 42) (Op.indexAddr 22 (Operand.tmp 39) (Operand.tmp 41)) none, VOp.mk (some
  43) (Op.load 9 (Operand.tmp 42)) none, VOp.mk (some 44) (Op.binOp BinOp.neq 9 (Operand.tmp 38) (Operand.tmp 43) 9) none]).seq (VCode.cond (Operand.tmp 44) ((VCode.ops [VOp.mk
  (some 45) (Op.move (Operand.tmp 0)) none, VOp.mk (some 46) (Op.move (Operand.tmp 3)) none, VOp.mk (some 47) (Op.move (Operand.tmp 4)) none, VOp.mk (some 48) (Op.move (Operand.tmp
  5)) none, VOp.mk (some 49) (Op.indexAddr 22 (Operand.tmp 47) (Operand.tmp 48)) none, VOp.mk (some 50) (Op.load 9 (Operand.tmp 49)) none, VOp.mk (some 51) (Op.indexAddr 22
  (Operand.tmp 45) (Operand.tmp 46)) none, VOp.mk none (Op.store 9 (Operand.tmp 51) (Operand.tmp 50)) none]).seq (VCode.ops [VOp.mk (some 52) (Op.move (Operand.tmp 3)) none, VOp.mk
  (some 53) (Op.binOp BinOp.add 3 (Operand.tmp 52) (Operand.const (Value.int IntKind.i64 1)) 3) none, VOp.mk (some 3) (Op.assign (Operand.tmp 53)) none])) VCode.skip))).seq
  (VCode.ops [VOp.mk (some 33) (Op.move (Operand.tmp 5)) none, VOp.mk (some 34) (Op.binOp BinOp.add 3 (Operand.tmp 33) (Operand.const (Value.int IntKind.i64 1)) 3) none, VOp.mk
  (some 5) (Op.assign (Operand.tmp 34)) none]))).loop)).seq ((VCode.ops [VOp.mk (some 54) (Op.move (Operand.tmp 0)) none, VOp.mk (some 55) (Op.move (Operand.tmp 3)) none, VOp.mk
  (some 56) (Op.slice 22 (Operand.tmp 54) (some (Operand.tmp 55)) none none) none, VOp.mk none (Op.call (Call.mk (Callee.builtin Builtin.clear) #[Operand.tmp 56] #[22])) none]).seq
  ((VCode.ops [VOp.mk (some 57) (Op.move (Operand.tmp 0)) none, VOp.mk (some 58) (Op.move (Operand.tmp 3)) none, VOp.mk (some 59) (Op.slice 22 (Operand.tmp 57) none (some
  (Operand.tmp 58)) none) none, VOp.mk (some 2) (Op.assign (Operand.tmp 59)) none]).seq VCode.ret)))) VCode.skip))).seq (VCode.ops [VOp.mk (some 14) (Op.move (Operand.tmp 3)) none,
  VOp.mk (some 15) (Op.binOp BinOp.add 3 (Operand.tmp 14) (Operand.const (Value.int IntKind.i64 1)) 3) none, VOp.mk (some 3) (Op.assign (Operand.tmp 15)) none]))).loop)).seq
  ((VCode.ops [VOp.mk (some 60) (Op.move (Operand.tmp 0)) none, VOp.mk (some 2) (Op.assign (Operand.tmp 60)) none]).seq VCode.ret)))
theorem fn18 : FnOk Tryz.prog 18 61 vc18 [ResultVar.tmp 2] := ⟨Tryz.f18, _, [], Tryz.func18, rfl, rfl, rfl, by kernel_rfl, by kernel_rfl, by kernel_rfl⟩

/-- wafer/pattern.known -/
def vc19 : VCode := (VCode.ops [VOp.mk (some 2) (Op.box 25 (Operand.tmp 0)) none, VOp.mk (some 3) (Op.box 54 (Operand.tmp 1)) none, VOp.mk (some 4) (Op.assign (Operand.const
  (Value.bool false))) none]).seq (((VCode.ops [VOp.mk (some 7) (Op.fieldAddr 25 (Operand.tmp 2) 0) none, VOp.mk (some 8) (Op.load 3 (Operand.tmp 7)) none, VOp.mk (some 9) (Op.binOp
  BinOp.eql 3 (Operand.tmp 8) (Operand.const (Value.int IntKind.i64 8)) 3) none]).seq (VCode.cond (Operand.tmp 9) ((VCode.ops [VOp.mk (some 11) (Op.load 54 (Operand.tmp 3)) none,
  VOp.mk (some 12) (Op.fieldAddr 25 (Operand.tmp 2) 2) none, VOp.mk (some 13) (Op.load 22 (Operand.tmp 12)) none, VOp.mk (some 14) (Op.call (Call.mk (Callee.value (Operand.func 30))
  #[Operand.tmp 11, Operand.tmp 13] #[54, 22])) none, VOp.mk (some 10) (Op.move (Operand.tmp 14)) none, VOp.mk (some 15) (Op.extract (Operand.tmp 10) 0) none, VOp.mk (some 16)
  (Op.extract (Operand.tmp 10) 1) none, VOp.mk (some 5) (Op.alloc 93) none, VOp.mk none (Op.store 93 (Operand.tmp 5) (Operand.tmp 15)) none, VOp.mk (some 6) (Op.assign (Operand.tmp
  16)) none]).seq ((VCode.ops [VOp.mk (some 17) (Op.move (Operand.tmp 6)) none, VOp.mk (some 18) (Op.binOp BinOp.neq 44 (Operand.tmp 17) (Operand.const (Value.int IntKind.i64 0))
  44) none]).seq (VCode.cond (Operand.tmp 18) ((VCode.ops [VOp.mk (some 4) (Op.assign (Operand.const (Value.bool false))) none]).seq VCode.ret) VCode.skip))) VCode.skip)).seq
  ((VCode.ops [VOp.mk (some 19) (Op.fieldAddr 25 (Operand.tmp 2) 4) none, VOp.mk (some 20) (Op.load 23 (Operand.tmp 19)) none, VOp.mk (some 21) (Op.makeFunc (Fn.func 32) #[]
  #[Operand.tmp 3]) none, VOp.mk (some 22) (Op.call (Call.mk (Callee.value (Operand.func 31)) #[Operand.tmp 20, Operand.tmp 21] #[23, 132])) none, VOp.mk (some 23) (Op.unOp UnOp.not
  4 (Operand.tmp 22)) none, VOp.mk (some 4) (Op.assign (Operand.tmp 23)) none]).seq VCode.ret))
theorem fn19 : FnOk Tryz.prog 19 24 vc19 [ResultVar.tmp 4] := ⟨Tryz.f19, _, [], Tryz.func19, rfl, rfl, rfl, by kernel_rfl, by kernel_rfl, by kernel_rfl⟩

/-- (*wafer/unify.Store).Clone -/
def vc20 : VCode := (VCode.ops [VOp.mk (some 2) (Op.assign (Operand.const (Value.pointer none))) none]).seq (((VCode.ops [VOp.mk (some 4) (Op.move (Operand.tmp 0)) none, VOp.mk
  (some 5) (Op.binOp BinOp.eql 38 (Operand.tmp 4) (Operand.const (Value.pointer none)) 38) none]).seq (VCode.cond (Operand.tmp 5) ((VCode.ops [VOp.mk (some 2) (Op.assign
  (Operand.const (Value.pointer none))) none]).seq VCode.ret) VCode.skip)).seq ((VCode.ops [VOp.mk (some 6) (Op.move (Operand.tmp 0)) none, VOp.mk (some 7) (Op.nilCheck (Operand.tmp
  6)) none, VOp.mk (some 8) (Op.fieldAddr 70 (Operand.tmp 7) 0) none, VOp.mk (some 9) (Op.load 68 (Operand.tmp 8)) none, VOp.mk (some 10) (Op.call (Call.mk (Callee.builtin
  Builtin.len) #[Operand.tmp 9] #[68])) none, VOp.mk (some 11) (Op.makeSlice 68 (Operand.tmp 10) (Operand.tmp 10)) none, VOp.mk (some 3) (Op.assign (Operand.tmp 11)) none]).seq
  ((VCode.ops [VOp.mk (some 12) (Op.move (Operand.tmp 3)) none, VOp.mk (some 13) (Op.move (Operand.tmp 0)) none, VOp.mk (some 14) (Op.nilCheck (Operand.tmp 13)) none, VOp.mk (some
  15) (Op.fieldAddr 70 (Operand.tmp 14) 0) none, VOp.mk (some 16) (Op.load 68 (Operand.tmp 15)) none, VOp.mk (some 17) (Op.call (Call.mk (Callee.builtin Builtin.copy) #[Operand.tmp
  12, Operand.tmp 16] #[68, 68])) none]).seq ((VCode.ops [VOp.mk (some 18) (Op.move (Operand.tmp 3)) none, VOp.mk (some 19) (Op.build 70 #[(0, Operand.tmp 18)]) none, VOp.mk (some
  20) (Op.box 70 (Operand.tmp 19)) none, VOp.mk (some 2) (Op.assign (Operand.tmp 20)) none]).seq VCode.ret))))
theorem fn20 : FnOk Tryz.prog 20 21 vc20 [ResultVar.tmp 2] := ⟨Tryz.f20, _, [], Tryz.func20, rfl, rfl, rfl, by kernel_rfl, by kernel_rfl, by kernel_rfl⟩

/-- (*wafer/pattern.checker).typ -/
def vc21 : VCode := (VCode.ops [VOp.mk (some 3) (Op.box 25 (Operand.tmp 1)) none, VOp.mk (some 4) (Op.alloc 42) none, VOp.mk (some 5) (Op.assign (Operand.const (Value.bool false)))
  none]).seq (((VCode.ops [VOp.mk (some 17) (Op.fieldAddr 25 (Operand.tmp 3) 0) none, VOp.mk (some 18) (Op.load 3 (Operand.tmp 17)) none]).seq (VCode.block 0 ((VCode.ops [VOp.mk
  (some 20) (Op.binOp BinOp.eql 3 (Operand.tmp 18) (Operand.const (Value.int IntKind.i64 1)) 3) none, VOp.mk (some 19) (Op.assign (Operand.tmp 20)) none]).seq (VCode.cond
  (Operand.tmp 19) ((VCode.ops [VOp.mk (some 21) (Op.move (Operand.tmp 0)) none, VOp.mk (some 22) (Op.nilCheck (Operand.tmp 21)) none, VOp.mk (some 23) (Op.fieldAddr 78 (Operand.tmp
  22) 1) none, VOp.mk (some 24) (Op.load 38 (Operand.tmp 23)) none, VOp.mk (some 25) (Op.call (Call.mk (Callee.value (Operand.func 33)) #[Operand.tmp 24] #[38])) none, VOp.mk none
  (Op.store 42 (Operand.tmp 4) (Operand.tmp 25)) none, VOp.mk (some 5) (Op.assign (Operand.const (Value.bool true))) none]).seq VCode.ret) ((VCode.ops [VOp.mk (some 27) (Op.binOp
  BinOp.eql 3 (Operand.tmp 18) (Operand.const (Value.int IntKind.i64 2)) 3) none, VOp.mk (some 26) (Op.assign (Operand.tmp 27)) none]).seq (VCode.cond (Operand.tmp 26) ((VCode.ops
  [VOp.mk (some 28) (Op.move (Operand.tmp 0)) none, VOp.mk (some 29) (Op.nilCheck (Operand.tmp 28)) none, VOp.mk (some 30) (Op.fieldAddr 78 (Operand.tmp 29) 1) none, VOp.mk (some
  31) (Op.load 38 (Operand.tmp 30)) none, VOp.mk (some 32) (Op.call (Call.mk (Callee.value (Operand.func 33)) #[Operand.tmp 31] #[38])) none, VOp.mk (some 6) (Op.alloc 42) none,
  VOp.mk none (Op.store 42 (Operand.tmp 6) (Operand.tmp 32)) none]).seq ((VCode.opsW [(0, VOp.mk (some 33) (Op.move (Operand.tmp 0)) none), (1, VOp.mk (some 34) (Op.move
  (Operand.tmp 0)) none), (2, VOp.mk (some 35) (Op.nilCheck (Operand.tmp 34)) none), (3, VOp.mk (some 36) (Op.fieldAddr 78 (Operand.tmp 35) 2) none), (4, VOp.mk (some 37) (Op.load
  43 (Operand.tmp 36)) none), (5, VOp.mk (some 38) (Op.fieldAddr 25 (Operand.tmp 3) 1) none), (6, VOp.mk (some 39) (Op.load 9 (Operand.tmp 38)) none), (7, VOp.mk (some 40) (Op.load
  42 (Operand.tmp 6)) none), (8, VOp.mk (some 41) (Op.build 67 #[(0, Operand.tmp 39), (1, Operand.tmp 40)]) none), (9, VOp.mk (some 42) (Op.buildSlice 43 1 #[(0, Operand.tmp 41)])
  none), (10, VOp.mk (some 43) (Op.call (Call.mk (Callee.builtin Builtin.append) #[Operand.tmp 37, Operand.tmp 42] #[43, 43])) none), (11, VOp.mk (some 44) (Op.nilCheck (Operand.tmp
  33)) none), (12, VOp.mk (some 45) (Op.fieldAddr 78 (Operand.tmp 44) 2) none), (13, VOp.mk none (Op.store 43 (Operand.tmp 45) (Operand.tmp 43)) none)] [(9, [2, 3, 4])]).seq
  ((VCode.ops [VOp.mk (some 46) (Op.load 42 (Operand.tmp 6)) none, VOp.mk none (Op.store 42 (Operand.tmp 4) (Operand.tmp 46)) none, VOp.mk (some 5) (Op.assign (Operand.const
  (Value.bool true))) none]).seq VCode.ret))) ((VCode.ops [VOp.mk (some 48) (Op.binOp BinOp.eql 3 (Operand.tmp 18) (Operand.const (Value.int IntKind.i64 3)) 3) none, VOp.mk (some
  47) (Op.assign (Operand.tmp 48)) none]).seq (VCode.cond (Operand.tmp 47) ((VCode.ops [VOp.mk (some 49) (Op.build 42 #[(0, Operand.const (Value.int IntKind.i64 1))]) none, VOp.mk
  none (Op.store 42 (Operand.tmp 4) (Operand.tmp 49)) none, VOp.mk (some 5) (Op.assign (Operand.const (Value.bool true))) none]).seq VCode.ret) (((VCode.ops [VOp.mk (some 51)
  (Op.binOp BinOp.eql 3 (Operand.tmp 18) (Operand.const (Value.int IntKind.i64 4)) 3) none, VOp.mk (some 50) (Op.assign (Operand.tmp 51)) none]).seq (VCode.cond (Operand.tmp 50)
  VCode.skip (VCode.ops [VOp.mk (some 52) (Op.binOp BinOp.eql 3 (Operand.tmp 18) (Operand.const (Value.int IntKind.i64 5)) 3) none, VOp.mk (some 50) (Op.assign (Operand.tmp 52))
  none]))).seq (VCode.cond (Operand.tmp 50) ((VCode.ops [VOp.mk (some 53) (Op.build 42 #[(0, Operand.const (Value.int IntKind.i64 2))]) none, VOp.mk none (Op.store 42 (Operand.tmp
  4) (Operand.tmp 53)) none, VOp.mk (some 5) (Op.assign (Operand.const (Value.bool true))) none]).seq VCode.ret) ((VCode.ops [VOp.mk (some 55) (Op.binOp BinOp.eql 3 (Operand.tmp 18)
  (Operand.const (Value.int IntKind.i64 6)) 3) none, VOp.mk (some 54) (Op.assign (Operand.tmp 55)) none]).seq (VCode.cond (Operand.tmp 54) ((VCode.ops [VOp.mk (some 56) (Op.build 42
  #[(0, Operand.const (Value.int IntKind.i64 3))]) none, VOp.mk none (Op.store 42 (Operand.tmp 4) (Operand.tmp 56)) none, VOp.mk (some 5) (Op.assign (Operand.const (Value.bool
  true))) none]).seq VCode.ret) ((VCode.ops [VOp.mk (some 58) (Op.binOp BinOp.eql 3 (Operand.tmp 18) (Operand.const (Value.int IntKind.i64 7)) 3) none, VOp.mk (some 57) (Op.assign
  (Operand.tmp 58)) none]).seq (VCode.cond (Operand.tmp 57) ((VCode.ops [VOp.mk (some 60) (Op.move (Operand.tmp 0)) none, VOp.mk (some 61) (Op.fieldAddr 25 (Operand.tmp 3) 4) none,
  VOp.mk (some 62) (Op.load 23 (Operand.tmp 61)) none, VOp.mk (some 63) (Op.indexAddr 23 (Operand.tmp 62) (Operand.const (Value.int IntKind.i64 0))) none, VOp.mk (some 64) (Op.load
  25 (Operand.tmp 63)) none, VOp.mk (some 65) (Op.call (Call.mk (Callee.value (Operand.func 21)) #[Operand.tmp 60, Operand.tmp 64] #[76, 25])) none, VOp.mk (some 59) (Op.move
  (Operand.tmp 65)) none, VOp.mk (some 66) (Op.extract (Operand.tmp 59) 0) none, VOp.mk (some 67) (Op.extract (Operand.tmp 59) 1) none, VOp.mk (some 7) (Op.alloc 42) none, VOp.mk
  none (Op.store 42 (Operand.tmp 7) (Operand.tmp 66)) none, VOp.mk (some 8) (Op.assign (Operand.tmp 67)) none]).seq ((VCode.ops [VOp.mk (some 69) (Op.move (Operand.tmp 0)) none,
  VOp.mk (some 70) (Op.fieldAddr 25 (Operand.tmp 3) 4) none, VOp.mk (some 71) (Op.load 23 (Operand.tmp 70)) none, VOp.mk (some 72) (Op.indexAddr 23 (Operand.tmp 71) (Operand.const
  (Value.int IntKind.i64 1))) none, VOp.mk (some 73) (Op.load 25 (Operand.tmp 72)) none, VOp.mk (some 74) (Op.call (Call.mk (Callee.value (Operand.func 21)) #[Operand.tmp 69,
  Operand.tmp 73] #[76, 25])) none, VOp.mk (some 68) (Op.move (Operand.tmp 74)) none, VOp.mk (some 75) (Op.extract (Operand.tmp 68) 0) none, VOp.mk (some 76) (Op.extract
  (Operand.tmp 68) 1) none, VOp.mk (some 9) (Op.alloc 42) none, VOp.mk none (Op.store 42 (Operand.tmp 9) (Operand.tmp 75)) none, VOp.mk (some 10) (Op.assign (Operand.tmp 76))
  none]).seq ((VCode.ops [VOp.mk (some 77) (Op.move (Operand.tmp 0)) none, VOp.mk (some 78) (Op.load 42 (Operand.tmp 7)) none, VOp.mk (some 79) (Op.load 42 (Operand.tmp 9)) none,
  VOp.mk (some 80) (Op.buildSlice 40 2 #[(0, Operand.tmp 78), (1, Operand.tmp 79)]) none, VOp.mk (some 81) (Op.build 42 #[(0, Operand.const (Value.int IntKind.i64 5)), (2,
  Operand.tmp 80)]) none, VOp.mk (some 82) (Op.move (Operand.tmp 8)) none, VOp.mk (some 83) (Op.move (Operand.tmp 82)) none, VOp.mk (some 84) (Op.move (Operand.tmp 10)) (some (some
  83, true)), VOp.mk (some 85) (Op.pick (Operand.tmp 83) (Operand.tmp 84) (Operand.const (Value.bool false))) none, VOp.mk (some 86) (Op.call (Call.mk (Callee.value (Operand.func
  34)) #[Operand.tmp 77, Operand.tmp 81, Operand.tmp 85] #[76, 42, 4])) none, VOp.mk (some 87) (Op.extract (Operand.tmp 86) 0) none, VOp.mk (some 88) (Op.extract (Operand.tmp 86) 1)
  none, VOp.mk none (Op.store 42 (Operand.tmp 4) (Operand.tmp 87)) none, VOp.mk (some 5) (Op.assign (Operand.tmp 88)) none]).seq VCode.ret))) VCode.skip)))))))))))))).seq
  ((VCode.opsB (VBT.ro 0 (VOp.mk (some 90) (Op.move (Operand.tmp 0)) none) (VBT.ro 1 (VOp.mk (some 91) (Op.nilCheck (Operand.tmp 90)) none) (VBT.ro 2 (VOp.mk (some 92) (Op.fieldAddr
  78 (Operand.tmp 91) 0) none) (VBT.ro 3 (VOp.mk (some 93) (Op.load 54 (Operand.tmp 92)) none) (VBT.ro 4 (VOp.mk (some 94) (Op.fieldAddr 25 (Operand.tmp 3) 2) none) (VBT.ro 5
  (VOp.mk (some 95) (Op.load 22 (Operand.tmp 94)) none) (VBT.alt 6 (VOp.mk (some 96) (Op.call (Call.mk (Callee.value (Operand.func 30)) #[Operand.tmp 93, Operand.tmp 95] #[54, 22]))
  none) (VBT.ro 7 (VOp.mk (some 89) (Op.move (Operand.tmp 96)) none) (VBT.ro 8 (VOp.mk (some 97) (Op.extract (Operand.tmp 89) 0) none) (VBT.ro 9 (VOp.mk (some 98) (Op.extract
  (Operand.tmp 89) 1) none) (VBT.alt 10 (VOp.mk (some 11) (Op.alloc 93) none) (VBT.alt 11 (VOp.mk none (Op.store 93 (Operand.tmp 11) (Operand.tmp 97)) none) (VBT.ro 12 (VOp.mk (some
  12) (Op.assign (Operand.tmp 98)) none) VBT.leaf) VBT.no) VBT.no)))) (VBT.alt 10 (VOp.mk (some 11) (Op.alloc 93) none) (VBT.alt 6 (VOp.mk (some 96) (Op.call (Call.mk (Callee.value
  (Operand.func 30)) #[Operand.tmp 93, Operand.tmp 95] #[54, 22])) none) (VBT.ro 7 (VOp.mk (some 89) (Op.move (Operand.tmp 96)) none) (VBT.ro 8 (VOp.mk (some 97) (Op.extract
  (Operand.tmp 89) 0) none) (VBT.ro 9 (VOp.mk (some 98) (Op.extract (Operand.tmp 89) 1) none) (VBT.alt 11 (VOp.mk none (Op.store 93 (Operand.tmp 11) (Operand.tmp 97)) none) (VBT.ro
  12 (VOp.mk (some 12) (Op.assign (Operand.tmp 98)) none) VBT.leaf) VBT.no)))) VBT.no) VBT.no)))))))) [(10, [1, 2, 3, 4, 5])]).seq (((VCode.ops [VOp.mk (some 99) (Op.fieldAddr 93
  (Operand.tmp 11) 2) none, VOp.mk (some 100) (Op.load 40 (Operand.tmp 99)) none, VOp.mk (some 101) (Op.call (Call.mk (Callee.builtin Builtin.len) #[Operand.tmp 100] #[40])) none,
  VOp.mk (some 102) (Op.fieldAddr 25 (Operand.tmp 3) 4) none, VOp.mk (some 103) (Op.load 23 (Operand.tmp 102)) none, VOp.mk (some 104) (Op.call (Call.mk (Callee.builtin Builtin.len)
  #[Operand.tmp 103] #[23])) none, VOp.mk (some 105) (Op.binOp BinOp.neq 3 (Operand.tmp 101) (Operand.tmp 104) 3) none]).seq (VCode.cond (Operand.tmp 105) ((VCode.ops [VOp.mk (some
  106) (Op.build 42 #[]) none, VOp.mk none (Op.store 42 (Operand.tmp 4) (Operand.tmp 106)) none, VOp.mk (some 5) (Op.assign (Operand.const (Value.bool false))) none]).seq VCode.ret)
  VCode.skip)).seq (((VCode.ops [VOp.mk (some 107) (Op.fieldAddr 25 (Operand.tmp 3) 4) none, VOp.mk (some 108) (Op.load 23 (Operand.tmp 107)) none, VOp.mk (some 109) (Op.call
  (Call.mk (Callee.builtin Builtin.len) #[Operand.tmp 108] #[23])) none, VOp.mk (some 110) (Op.move (Operand.const (Value.int IntKind.i64 0))) none]).seq (VCode.block 1 ((VCode.ops
  [VOp.mk (some 111) (Op.binOp BinOp.lss 3 (Operand.tmp 110) (Operand.tmp 109) 3) none]).seq ((VCode.cond (Operand.tmp 111) VCode.skip (VCode.exit 1)).seq ((VCode.block 2
  ((VCode.ops [VOp.mk (some 112) (Op.move (Operand.tmp 110)) none, VOp.mk (some 113) (Op.indexAddr 23 (Operand.tmp 108) (Operand.tmp 110)) none, VOp.mk (some 114) (Op.load 25
  (Operand.tmp 113)) none, VOp.mk (some 14) (Op.alloc 25) none, VOp.mk (some 13) (Op.assign (Operand.tmp 112)) none, VOp.mk none (Op.store 25 (Operand.tmp 14) (Operand.tmp 114))
  none]).seq ((VCode.ops [VOp.mk (some 116) (Op.move (Operand.tmp 0)) none, VOp.mk (some 117) (Op.load 25 (Operand.tmp 14)) none, VOp.mk (some 118) (Op.call (Call.mk (Callee.value
  (Operand.func 21)) #[Operand.tmp 116, Operand.tmp 117] #[76, 25])) none, VOp.mk (some 115) (Op.move (Operand.tmp 118)) none, VOp.mk (some 119) (Op.extract (Operand.tmp 115) 0)
  none, VOp.mk (some 120) (Op.extract (Operand.tmp 115) 1) none, VOp.mk (some 15) (Op.alloc 42) none, VOp.mk none (Op.store 42 (Operand.tmp 15) (Operand.tmp 119)) none, VOp.mk (some
  16) (Op.assign (Operand.tmp 120)) none]).seq ((VCode.ops [VOp.mk (some 121) (Op.move (Operand.tmp 16)) none, VOp.mk (some 122) (Op.unOp UnOp.not 4 (Operand.tmp 121)) none, VOp.mk
  (some 123) (Op.move (Operand.tmp 122)) none, VOp.mk (some 124) (Op.move (Operand.tmp 0)) (some (some 123, false)), VOp.mk (some 125) (Op.nilCheck (Operand.tmp 124)) (some (some
  123, false)), VOp.mk (some 126) (Op.fieldAddr 78 (Operand.tmp 125) 1) (some (some 123, false)), VOp.mk (some 127) (Op.load 38 (Operand.tmp 126)) (some (some 123, false)), VOp.mk
  (some 128) (Op.load 42 (Operand.tmp 15)) (some (some 123, false)), VOp.mk (some 129) (Op.fieldAddr 93 (Operand.tmp 11) 2) (some (some 123, false)), VOp.mk (some 130) (Op.load 40
  (Operand.tmp 129)) (some (some 123, false)), VOp.mk (some 131) (Op.move (Operand.tmp 13)) (some (some 123, false)), VOp.mk (some 132) (Op.indexAddr 40 (Operand.tmp 130)
  (Operand.tmp 131)) (some (some 123, false)), VOp.mk (some 133) (Op.load 42 (Operand.tmp 132)) (some (some 123, false)), VOp.mk (some 134) (Op.call (Call.mk (Callee.value
  (Operand.func 35)) #[Operand.tmp 127, Operand.tmp 128, Operand.tmp 133] #[38, 42, 42])) (some (some 123, false)), VOp.mk (some 135) (Op.binOp BinOp.neq 44 (Operand.tmp 134)
  (Operand.const (Value.int IntKind.i64 0)) 44) (some (some 123, false)), VOp.mk (some 136) (Op.pick (Operand.tmp 123) (Operand.const (Value.bool true)) (Operand.tmp 135))
  none]).seq (VCode.cond (Operand.tmp 136) ((VCode.ops [VOp.mk (some 137) (Op.build 42 #[]) none, VOp.mk none (Op.store 42 (Operand.tmp 4) (Operand.tmp 137)) none, VOp.mk (some 5)
  (Op.assign (Operand.const (Value.bool false))) none]).seq VCode.ret) VCode.skip))))).seq (VCode.ops [VOp.mk (some 138) (Op.binOp BinOp.add 3 (Operand.tmp 110) (Operand.const
  (Value.int IntKind.i64 1)) 3) none, VOp.mk (some 110) (Op.move (Operand.tmp 138)) none])))).loop)).seq ((VCode.ops [VOp.mk (some 139) (Op.move (Operand.tmp 0)) none, VOp.mk (some
  140) (Op.fieldAddr 93 (Operand.tmp 11) 1) none, VOp.mk (some 141) (Op.load 42 (Operand.tmp 140)) none, VOp.mk (some 142) (Op.call (Call.mk (Callee.value (Operand.func 34))
  #[Operand.tmp 139, Operand.tmp 141, Operand.const (Value.bool true)] #[76, 42, 4])) none, VOp.mk (some 143) (Op.extract (Operand.tmp 142) 0) none, VOp.mk (some 144) (Op.extract
  (Operand.tmp 142) 1) none, VOp.mk none (Op.store 42 (Operand.tmp 4) (Operand.tmp 143)) none, VOp.mk (some 5) (Op.assign (Operand.tmp 144)) none]).seq VCode.ret)))))
theorem fn21 : FnOk Tryz.prog 21 145 vc21 [ResultVar.cell 4 42, ResultVar.tmp 5] := ⟨Tryz.f21, _, [(6, [([0, 1, 2, 3, 4, 5, 6, 7, 8, 9, 10, 11, 12, 13], [(9, [2, 3, 4])])]), (19,
  [([0, 1, 2, 3, 4, 5, 6, 7, 8, 9, 10, 11, 12], [(10, [1, 2, 3, 4, 5])]), ([0, 1, 2, 3, 4, 5, 10, 6, 7, 8, 9, 11, 12], []), ([0, 1, 2, 3, 4, 5, 10, 6, 7, 8, 9, 11, 12], [])])],
  Tryz.func21, rfl, rfl, rfl, by kernel_rfl, by kernel_rfl, by kernel_rfl⟩

/-- (*wafer/unify.Store).size -/
def vc22 : VCode := (VCode.ops [VOp.mk (some 4) (Op.box 42 (Operand.tmp 1)) none, VOp.mk (some 6) (Op.assign (Operand.const (Value.int IntKind.i64 0))) none]).seq ((VCode.ops
  [VOp.mk (some 9) (Op.move (Operand.tmp 0)) none, VOp.mk (some 10) (Op.load 42 (Operand.tmp 4)) none, VOp.mk (some 11) (Op.call (Call.mk (Callee.value (Operand.func 36))
  #[Operand.tmp 9, Operand.tmp 10] #[38, 42])) none, VOp.mk none (Op.store 42 (Operand.tmp 4) (Operand.tmp 11)) none]).seq ((VCode.ops [VOp.mk (some 12) (Op.move (Operand.tmp 2))
  none, VOp.mk (some 13) (Op.binOp BinOp.add 3 (Operand.tmp 12) (Operand.const (Value.int IntKind.i64 1)) 3) none, VOp.mk (some 2) (Op.assign (Operand.tmp 13)) none]).seq
  (((VCode.ops [VOp.mk (some 14) (Op.fieldAddr 42 (Operand.tmp 4) 2) none, VOp.mk (some 15) (Op.load 40 (Operand.tmp 14)) none, VOp.mk (some 16) (Op.call (Call.mk (Callee.builtin
  Builtin.len) #[Operand.tmp 15] #[40])) none, VOp.mk (some 17) (Op.move (Operand.const (Value.int IntKind.i64 0))) none]).seq (VCode.block 0 ((VCode.ops [VOp.mk (some 18) (Op.binOp
  BinOp.lss 3 (Operand.tmp 17) (Operand.tmp 16) 3) none]).seq ((VCode.cond (Operand.tmp 18) VCode.skip (VCode.exit 0)).seq ((VCode.block 1 ((VCode.ops [VOp.mk (some 19)
  (Op.indexAddr 40 (Operand.tmp 15) (Operand.tmp 17)) none, VOp.mk (some 20) (Op.load 42 (Operand.tmp 19)) none, VOp.mk (some 8) (Op.alloc 42) none, VOp.mk none (Op.store 42
  (Operand.tmp 8) (Operand.tmp 20)) none]).seq (((VCode.ops [VOp.mk (some 21) (Op.move (Operand.tmp 2)) none, VOp.mk (some 22) (Op.binOp BinOp.gtr 3 (Operand.tmp 21) (Operand.const
  (Value.int IntKind.i64 1000)) 3) none]).seq (VCode.cond (Operand.tmp 22) ((VCode.ops [VOp.mk (some 23) (Op.move (Operand.tmp 2)) none, VOp.mk (some 6) (Op.assign (Operand.tmp 23))
  none]).seq VCode.ret) VCode.skip)).seq (VCode.ops [VOp.mk (some 24) (Op.move (Operand.tmp 0)) none, VOp.mk (some 25) (Op.load 42 (Operand.tmp 8)) none, VOp.mk (some 26) (Op.move
  (Operand.tmp 2)) none, VOp.mk (some 27) (Op.call (Call.mk (Callee.value (Operand.func 22)) #[Operand.tmp 24, Operand.tmp 25, Operand.tmp 26] #[38, 42, 3])) none, VOp.mk (some 2)
  (Op.assign (Operand.tmp 27)) none])))).seq (VCode.ops [VOp.mk (some 28) (Op.binOp BinOp.add 3 (Operand.tmp 17) (Operand.const (Value.int IntKind.i64 1)) 3) none, VOp.mk (some 17)
  (Op.move (Operand.tmp 28)) none])))).loop)).seq ((VCode.ops [VOp.mk (some 29) (Op.move (Operand.tmp 2)) none, VOp.mk (some 6) (Op.assign (Operand.tmp 29)) none]).seq VCode.ret))))
theorem fn22 : FnOk Tryz.prog 22 30 vc22 [ResultVar.tmp 6] := ⟨Tryz.f22, _, [], Tryz.func22, rfl, rfl, rfl, by kernel_rfl, by kernel_rfl, by kernel_rfl⟩

/-- (*wafer/unify.Store).resolved -/
def vc23 : VCode := (VCode.ops [VOp.mk (some 3) (Op.box 42 (Operand.tmp 1)) none, VOp.mk (some 4) (Op.alloc 42) none]).seq ((VCode.ops [VOp.mk (some 7) (Op.move (Operand.tmp 0))
  none, VOp.mk (some 8) (Op.load 42 (Operand.tmp 3)) none, VOp.mk (some 9) (Op.call (Call.mk (Callee.value (Operand.func 36)) #[Operand.tmp 7, Operand.tmp 8] #[38, 42])) none,
  VOp.mk none (Op.store 42 (Operand.tmp 3) (Operand.tmp 9)) none]).seq (((VCode.ops [VOp.mk (some 10) (Op.fieldAddr 42 (Operand.tmp 3) 2) none, VOp.mk (some 11) (Op.load 40
  (Operand.tmp 10)) none, VOp.mk (some 12) (Op.call (Call.mk (Callee.builtin Builtin.len) #[Operand.tmp 11] #[40])) none, VOp.mk (some 13) (Op.binOp BinOp.eql 3 (Operand.tmp 12)
  (Operand.const (Value.int IntKind.i64 0)) 3) none]).seq (VCode.cond (Operand.tmp 13) ((VCode.ops [VOp.mk (some 14) (Op.load 42 (Operand.tmp 3)) none, VOp.mk none (Op.store 42
  (Operand.tmp 4) (Operand.tmp 14)) none]).seq VCode.ret) VCode.skip)).seq ((VCode.ops [VOp.mk (some 15) (Op.fieldAddr 42 (Operand.tmp 3) 2) none, VOp.mk (some 16) (Op.load 40
  (Operand.tmp 15)) none, VOp.mk (some 17) (Op.call (Call.mk (Callee.value (Operand.func 37)) #[Operand.tmp 16] #[40])) none, VOp.mk (some 18) (Op.fieldAddr 42 (Operand.tmp 3) 2)
  none, VOp.mk none (Op.store 40 (Operand.tmp 18) (Operand.tmp 17)) none]).seq (((VCode.ops [VOp.mk (some 19) (Op.fieldAddr 42 (Operand.tmp 3) 2) none, VOp.mk (some 20) (Op.load 40
  (Operand.tmp 19)) none, VOp.mk (some 21) (Op.call (Call.mk (Callee.builtin Builtin.len) #[Operand.tmp 20] #[40])) none, VOp.mk (some 22) (Op.move (Operand.const (Value.int
  IntKind.i64 0))) none]).seq (VCode.block 0 ((VCode.ops [VOp.mk (some 23) (Op.binOp BinOp.lss 3 (Operand.tmp 22) (Operand.tmp 21) 3) none]).seq ((VCode.cond (Operand.tmp 23)
  VCode.skip (VCode.exit 0)).seq ((VCode.block 1 ((VCode.ops [VOp.mk (some 24) (Op.move (Operand.tmp 22)) none, VOp.mk (some 25) (Op.indexAddr 40 (Operand.tmp 20) (Operand.tmp 22))
  none, VOp.mk (some 26) (Op.load 42 (Operand.tmp 25)) none, VOp.mk (some 6) (Op.alloc 42) none, VOp.mk (some 5) (Op.assign (Operand.tmp 24)) none, VOp.mk none (Op.store 42
  (Operand.tmp 6) (Operand.tmp 26)) none]).seq (VCode.opsW [(0, VOp.mk (some 27) (Op.fieldAddr 42 (Operand.tmp 3) 2) none), (1, VOp.mk (some 28) (Op.load 40 (Operand.tmp 27)) none),
  (2, VOp.mk (some 29) (Op.move (Operand.tmp 5)) none), (3, VOp.mk (some 30) (Op.move (Operand.tmp 0)) none), (4, VOp.mk (some 31) (Op.load 42 (Operand.tmp 6)) none), (5, VOp.mk
  (some 32) (Op.call (Call.mk (Callee.value (Operand.func 23)) #[Operand.tmp 30, Operand.tmp 31] #[38, 42])) none), (6, VOp.mk (some 33) (Op.indexAddr 40 (Operand.tmp 28)
  (Operand.tmp 29)) none), (7, VOp.mk none (Op.store 42 (Operand.tmp 33) (Operand.tmp 32)) none)] [(5, [0, 1])]))).seq (VCode.ops [VOp.mk (some 34) (Op.binOp BinOp.add 3
  (Operand.tmp 22) (Operand.const (Value.int IntKind.i64 1)) 3) none, VOp.mk (some 22) (Op.move (Operand.tmp 34)) none])))).loop)).seq ((VCode.ops [VOp.mk (some 35) (Op.load 42
  (Operand.tmp 3)) none, VOp.mk none (Op.store 42 (Operand.tmp 4) (Operand.tmp 35)) none]).seq VCode.ret)))))
theorem fn23 : FnOk Tryz.prog 23 36 vc23 [ResultVar.cell 4 42] := ⟨Tryz.f23, _, [(8, [([0, 1, 2, 3, 4, 5, 6, 7], [(5, [0, 1])])])], Tryz.func23, rfl, rfl, rfl, by kernel_rfl, by
  kernel_rfl, by kernel_rfl⟩

/-- wafer/tree.right -/
def vc24 : VCode := (VCode.ops [VOp.mk (some 4) (Op.assign (Operand.const (Value.int IntKind.i64 0))) none]).seq (((VCode.ops [VOp.mk (some 5) (Op.move (Operand.tmp 0)) none, VOp.mk
  (some 6) (Op.nilCheck (Operand.tmp 5)) none, VOp.mk (some 7) (Op.fieldAddr 123 (Operand.tmp 6) 2) none, VOp.mk (some 8) (Op.load 3 (Operand.tmp 7)) none, VOp.mk (some 9) (Op.binOp
  BinOp.gtr 3 (Operand.tmp 8) (Operand.const (Value.int IntKind.i64 100)) 3) none]).seq (VCode.cond (Operand.tmp 9) ((VCode.ops [VOp.mk (some 4) (Op.assign (Operand.const (Value.int
  IntKind.i64 4))) none]).seq VCode.ret) VCode.skip)).seq ((VCode.ops [VOp.mk (some 10) (Op.move (Operand.tmp 1)) none, VOp.mk (some 11) (Op.call (Call.mk (Callee.value
  (Operand.func 38)) #[Operand.tmp 10] #[1])) none, VOp.mk (some 4) (Op.assign (Operand.tmp 11)) none]).seq VCode.ret))
theorem fn24 : FnOk Tryz.prog 24 12 vc24 [ResultVar.tmp 4] := ⟨Tryz.f24, _, [], Tryz.func24, rfl, rfl, rfl, by kernel_rfl, by kernel_rfl, by kernel_rfl⟩

/-- (*wafer/tree.walker).pats -/
def vc25 : VCode := (VCode.ops [VOp.mk (some 2) (Op.box 121 (Operand.tmp 0)) none, VOp.mk (some 4) (Op.assign (Operand.const (Value.pointer none))) none]).seq ((VCode.ops [VOp.mk
  (some 5) (Op.move (Operand.tmp 1)) none, VOp.mk (some 6) (Op.makeFunc (Fn.func 40) #[] #[Operand.tmp 2]) none, VOp.mk (some 7) (Op.call (Call.mk (Callee.value (Operand.func 39))
  #[Operand.tmp 5, Operand.tmp 6] #[23, 125])) none]).seq ((VCode.ops [VOp.mk (some 8) (Op.load 121 (Operand.tmp 2)) none, VOp.mk (some 4) (Op.assign (Operand.tmp 8)) none]).seq
  VCode.ret))
theorem fn25 : FnOk Tryz.prog 25 9 vc25 [ResultVar.tmp 4] := ⟨Tryz.f25, _, [], Tryz.func25, rfl, rfl, rfl, by kernel_rfl, by kernel_rfl, by kernel_rfl⟩

/-- wafer/tree.RightPat$1 -/
def vc26 : VCode := VCode.ops [VOp.mk (some 1) (Op.load 25 (Operand.tmp 0)) none, VOp.mk (some 2) (Op.call (Call.mk (Callee.value (Operand.func 27)) #[Operand.tmp 1] #[25])) none]
theorem fn26 : FnOk Tryz.prog 26 3 vc26 [] := ⟨Tryz.f26, _, [], Tryz.func26, rfl, rfl, rfl, by kernel_rfl, by kernel_rfl, by kernel_rfl⟩

/-- wafer/tree.pat -/
def vc27 : VCode := (VCode.ops [VOp.mk (some 1) (Op.box 25 (Operand.tmp 0)) none]).seq ((VCode.ops [VOp.mk (some 2) (Op.fieldAddr 25 (Operand.tmp 1) 0) none, VOp.mk (some 3)
  (Op.load 3 (Operand.tmp 2)) none, VOp.mk (some 4) (Op.binOp BinOp.geq 3 (Operand.tmp 3) (Operand.const (Value.int IntKind.i64 1)) 3) none, VOp.mk (some 5) (Op.move (Operand.tmp
  4)) none, VOp.mk (some 6) (Op.fieldAddr 25 (Operand.tmp 1) 0) (some (some 5, true)), VOp.mk (some 7) (Op.load 3 (Operand.tmp 6)) (some (some 5, true)), VOp.mk (some 8) (Op.binOp
  BinOp.leq 3 (Operand.tmp 7) (Operand.const (Value.int IntKind.i64 8)) 3) (some (some 5, true)), VOp.mk (some 9) (Op.pick (Operand.tmp 5) (Operand.tmp 8) (Operand.const (Value.bool
  false))) none, VOp.mk (some 10) (Op.call (Call.mk (Callee.value (Operand.func 43)) #[Operand.tmp 9] #[4])) none]).seq ((VCode.ops [VOp.mk (some 11) (Op.fieldAddr 25 (Operand.tmp
  1) 0) none, VOp.mk (some 12) (Op.load 3 (Operand.tmp 11)) none, VOp.mk (some 13) (Op.binOp BinOp.eql 3 (Operand.tmp 12) (Operand.const (Value.int IntKind.i64 2)) 3) none, VOp.mk
  (some 14) (Op.move (Operand.tmp 13)) none, VOp.mk (some 15) (Op.fieldAddr 25 (Operand.tmp 1) 1) (some (some 14, false)), VOp.mk (some 16) (Op.load 9 (Operand.tmp 15)) (some (some
  14, false)), VOp.mk (some 17) (Op.binOp BinOp.eql 9 (Operand.tmp 16) (Operand.const (Value.string (ByteArray.mk #[]))) 9) (some (some 14, false)), VOp.mk (some 18) (Op.pick
  (Operand.tmp 14) (Operand.const (Value.bool true)) (Operand.tmp 17)) none, VOp.mk (some 19) (Op.move (Operand.tmp 18)) none, VOp.mk (some 20) (Op.fieldAddr 25 (Operand.tmp 1) 0)
  (some (some 19, true)), VOp.mk (some 21) (Op.load 3 (Operand.tmp 20)) (some (some 19, true)), VOp.mk (some 22) (Op.binOp BinOp.eql 3 (Operand.tmp 21) (Operand.const (Value.int
  IntKind.i64 8)) 3) (some (some 19, true)), VOp.mk (some 23) (Op.move (Operand.tmp 22)) (some (some 19, true)), VOp.mk (some 24) (Op.fieldAddr 25 (Operand.tmp 1) 2) (some (some 23,
  false)), VOp.mk (some 25) (Op.load 22 (Operand.tmp 24)) (some (some 23, false)), VOp.mk (some 26) (Op.call (Call.mk (Callee.builtin Builtin.len) #[Operand.tmp 25] #[22])) (some
  (some 23, false)), VOp.mk (some 27) (Op.binOp BinOp.eql 3 (Operand.tmp 26) (Operand.const (Value.int IntKind.i64 0)) 3) (some (some 23, false)), VOp.mk (some 28) (Op.pick
  (Operand.tmp 23) (Operand.const (Value.bool true)) (Operand.tmp 27)) (some (some 19, true)), VOp.mk (some 29) (Op.pick (Operand.tmp 19) (Operand.tmp 28) (Operand.const (Value.bool
  false))) none, VOp.mk (some 30) (Op.move (Operand.tmp 29)) none, VOp.mk (some 31) (Op.fieldAddr 25 (Operand.tmp 1) 0) (some (some 30, true)), VOp.mk (some 32) (Op.load 3
  (Operand.tmp 31)) (some (some 30, true)), VOp.mk (some 33) (Op.binOp BinOp.eql 3 (Operand.tmp 32) (Operand.const (Value.int IntKind.i64 3)) 3) (some (some 30, true)), VOp.mk (some
  34) (Op.move (Operand.tmp 33)) (some (some 30, true)), VOp.mk (some 35) (Op.fieldAddr 25 (Operand.tmp 1) 3) (some (some 34, false)), VOp.mk (some 36) (Op.load 2 (Operand.tmp 35))
  (some (some 34, false)), VOp.mk (some 37) (Op.binOp BinOp.eql 2 (Operand.tmp 36) (Operand.const (Value.int IntKind.i64 0)) 2) (some (some 34, false)), VOp.mk (some 38) (Op.pick
  (Operand.tmp 34) (Operand.const (Value.bool true)) (Operand.tmp 37)) (some (some 30, true)), VOp.mk (some 39) (Op.pick (Operand.tmp 30) (Operand.tmp 38) (Operand.const (Value.bool
  false))) none, VOp.mk (some 40) (Op.move (Operand.tmp 39)) none, VOp.mk (some 41) (Op.fieldAddr 25 (Operand.tmp 1) 3) (some (some 40, true)), VOp.mk (some 42) (Op.load 2
  (Operand.tmp 41)) (some (some 40, true)), VOp.mk (some 43) (Op.binOp BinOp.geq 2 (Operand.tmp 42) (Operand.const (Value.int IntKind.i64 0)) 2) (some (some 40, true)), VOp.mk (some
  44) (Op.pick (Operand.tmp 40) (Operand.tmp 43) (Operand.const (Value.bool false))) none, VOp.mk (some 45) (Op.call (Call.mk (Callee.value (Operand.func 43)) #[Operand.tmp 44]
  #[4])) none]).seq (((VCode.ops [VOp.mk (some 46) (Op.fieldAddr 25 (Operand.tmp 1) 0) none, VOp.mk (some 47) (Op.load 3 (Operand.tmp 46)) none]).seq (VCode.block 0 ((VCode.ops
  [VOp.mk (some 54) (Op.binOp BinOp.eql 3 (Operand.tmp 47) (Operand.const (Value.int IntKind.i64 7)) 3) none, VOp.mk (some 53) (Op.assign (Operand.tmp 54)) none]).seq (VCode.cond
  (Operand.tmp 53) (VCode.ops [VOp.mk (some 55) (Op.fieldAddr 25 (Operand.tmp 1) 4) none, VOp.mk (some 56) (Op.load 23 (Operand.tmp 55)) none, VOp.mk (some 57) (Op.call (Call.mk
  (Callee.builtin Builtin.len) #[Operand.tmp 56] #[23])) none, VOp.mk (some 58) (Op.binOp BinOp.eql 3 (Operand.tmp 57) (Operand.const (Value.int IntKind.i64 2)) 3) none, VOp.mk
  (some 59) (Op.call (Call.mk (Callee.value (Operand.func 43)) #[Operand.tmp 58] #[4])) none]) ((VCode.ops [VOp.mk (some 61) (Op.binOp BinOp.eql 3 (Operand.tmp 47) (Operand.const
  (Value.int IntKind.i64 8)) 3) none, VOp.mk (some 60) (Op.assign (Operand.tmp 61)) none]).seq (VCode.cond (Operand.tmp 60) (VCode.ops [VOp.mk (some 62) (Op.fieldAddr 25
  (Operand.tmp 1) 4) none, VOp.mk (some 63) (Op.load 23 (Operand.tmp 62)) none, VOp.mk (some 64) (Op.call (Call.mk (Callee.builtin Builtin.len) #[Operand.tmp 63] #[23])) none,
  VOp.mk (some 65) (Op.binOp BinOp.leq 3 (Operand.tmp 64) (Operand.const (Value.int IntKind.i64 1)) 3) none, VOp.mk (some 66) (Op.call (Call.mk (Callee.value (Operand.func 43))
  #[Operand.tmp 65] #[4])) none]) (VCode.ops [VOp.mk (some 48) (Op.fieldAddr 25 (Operand.tmp 1) 4) none, VOp.mk (some 49) (Op.load 23 (Operand.tmp 48)) none, VOp.mk (some 50)
  (Op.call (Call.mk (Callee.builtin Builtin.len) #[Operand.tmp 49] #[23])) none, VOp.mk (some 51) (Op.binOp BinOp.eql 3 (Operand.tmp 50) (Operand.const (Value.int IntKind.i64 0)) 3)
  none, VOp.mk (some 52) (Op.call (Call.mk (Callee.value (Operand.func 43)) #[Operand.tmp 51] #[4])) none]))))))).seq (((VCode.ops [VOp.mk (some 67) (Op.fieldAddr 25 (Operand.tmp 1)
  0) none, VOp.mk (some 68) (Op.load 3 (Operand.tmp 67)) none, VOp.mk (some 69) (Op.binOp BinOp.eql 3 (Operand.tmp 68) (Operand.const (Value.int IntKind.i64 2)) 3) none]).seq
  (VCode.cond (Operand.tmp 69) (VCode.ops [VOp.mk (some 70) (Op.fieldAddr 25 (Operand.tmp 1) 1) none, VOp.mk (some 71) (Op.load 9 (Operand.tmp 70)) none, VOp.mk (some 72) (Op.call
  (Call.mk (Callee.value (Operand.func 44)) #[Operand.tmp 71] #[9])) none]) VCode.skip)).seq (((VCode.ops [VOp.mk (some 73) (Op.fieldAddr 25 (Operand.tmp 1) 0) none, VOp.mk (some
  74) (Op.load 3 (Operand.tmp 73)) none, VOp.mk (some 75) (Op.binOp BinOp.eql 3 (Operand.tmp 74) (Operand.const (Value.int IntKind.i64 8)) 3) none]).seq (VCode.cond (Operand.tmp 75)
  (VCode.ops [VOp.mk (some 76) (Op.fieldAddr 25 (Operand.tmp 1) 2) none, VOp.mk (some 77) (Op.load 22 (Operand.tmp 76)) none, VOp.mk (some 78) (Op.call (Call.mk (Callee.value
  (Operand.func 45)) #[Operand.tmp 77] #[22])) none]) VCode.skip)).seq (VCode.ops [VOp.mk (some 79) (Op.fieldAddr 25 (Operand.tmp 1) 4) none, VOp.mk (some 80) (Op.load 23
  (Operand.tmp 79)) none, VOp.mk (some 81) (Op.call (Call.mk (Callee.value (Operand.func 39)) #[Operand.tmp 80, Operand.func 27] #[23, 125])) none]))))))
theorem fn27 : FnOk Tryz.prog 27 82 vc27 [] := ⟨Tryz.f27, _, [], Tryz.func27, rfl, rfl, rfl, by kernel_rfl, by kernel_rfl, by kernel_rfl⟩

/-- slices.pdqsortOrdered[string] -/
def vc28 : VCode := (VCode.ops [VOp.mk (some 8) (Op.assign (Operand.const (Value.bool true))) none]).seq ((VCode.ops [VOp.mk (some 9) (Op.assign (Operand.const (Value.bool true)))
  none]).seq (VCode.block 0 (VCode.block 1 ((VCode.ops [VOp.mk (some 19) (Op.move (Operand.tmp 2)) none, VOp.mk (some 20) (Op.move (Operand.tmp 1)) none, VOp.mk (some 21) (Op.binOp
  BinOp.sub 3 (Operand.tmp 19) (Operand.tmp 20) 3) none, VOp.mk (some 10) (Op.assign (Operand.tmp 21)) none]).seq (((VCode.ops [VOp.mk (some 22) (Op.move (Operand.tmp 10)) none,
  VOp.mk (some 23) (Op.binOp BinOp.leq 3 (Operand.tmp 22) (Operand.const (Value.int IntKind.i64 12)) 3) none]).seq (VCode.cond (Operand.tmp 23) ((VCode.ops [VOp.mk (some 24)
  (Op.move (Operand.tmp 0)) none, VOp.mk (some 25) (Op.move (Operand.tmp 1)) none, VOp.mk (some 26) (Op.move (Operand.tmp 2)) none, VOp.mk (some 27) (Op.call (Call.mk (Callee.value
  (Operand.func 46)) #[Operand.tmp 24, Operand.tmp 25, Operand.tmp 26] #[22, 3, 3])) none]).seq VCode.ret) VCode.skip)).seq (((VCode.ops [VOp.mk (some 28) (Op.move (Operand.tmp 3))
  none, VOp.mk (some 29) (Op.binOp BinOp.eql 3 (Operand.tmp 28) (Operand.const (Value.int IntKind.i64 0)) 3) none]).seq (VCode.cond (Operand.tmp 29) ((VCode.ops [VOp.mk (some 30)
  (Op.move (Operand.tmp 0)) none, VOp.mk (some 31) (Op.move (Operand.tmp 1)) none, VOp.mk (some 32) (Op.move (Operand.tmp 2)) none, VOp.mk (some 33) (Op.call (Call.mk (Callee.value
  (Operand.func 47)) #[Operand.tmp 30, Operand.tmp 31, Operand.tmp 32] #[22, 3, 3])) none]).seq VCode.ret) VCode.skip)).seq (((VCode.ops [VOp.mk (some 34) (Op.move (Operand.tmp 8))
  none, VOp.mk (some 35) (Op.unOp UnOp.not 4 (Operand.tmp 34)) none]).seq (VCode.cond (Operand.tmp 35) ((VCode.ops [VOp.mk (some 36) (Op.move (Operand.tmp 0)) none, VOp.mk (some 37)
  (Op.move (Operand.tmp 1)) none, VOp.mk (some 38) (Op.move (Operand.tmp 2)) none, VOp.mk (some 39) (Op.call (Call.mk (Callee.value (Operand.func 48)) #[Operand.tmp 36, Operand.tmp
  37, Operand.tmp 38] #[22, 3, 3])) none]).seq (VCode.ops [VOp.mk (some 40) (Op.move (Operand.tmp 3)) none, VOp.mk (some 41) (Op.binOp BinOp.sub 3 (Operand.tmp 40) (Operand.const
  (Value.int IntKind.i64 1)) 3) none, VOp.mk (some 3) (Op.assign (Operand.tmp 41)) none])) VCode.skip)).seq ((VCode.ops [VOp.mk (some 43) (Op.move (Operand.tmp 0)) none, VOp.mk
  (some 44) (Op.move (Operand.tmp 1)) none, VOp.mk (some 45) (Op.move (Operand.tmp 2)) none, VOp.mk (some 46) (Op.call (Call.mk (Callee.value (Operand.func 49)) #[Operand.tmp 43,
  Operand.tmp 44, Operand.tmp 45] #[22, 3, 3])) none, VOp.mk (some 42) (Op.move (Operand.tmp 46)) none, VOp.mk (some 47) (Op.extract (Operand.tmp 42) 0) none, VOp.mk (some 48)
  (Op.extract (Operand.tmp 42) 1) none, VOp.mk (some 11) (Op.assign (Operand.tmp 47)) none, VOp.mk (some 12) (Op.assign (Operand.tmp 48)) none]).seq (((VCode.ops [VOp.mk (some 49)
  (Op.move (Operand.tmp 12)) none, VOp.mk (some 50) (Op.binOp BinOp.eql 143 (Operand.tmp 49) (Operand.const (Value.int IntKind.i64 2)) 143) none]).seq (VCode.cond (Operand.tmp 50)
  ((VCode.ops [VOp.mk (some 51) (Op.move (Operand.tmp 0)) none, VOp.mk (some 52) (Op.move (Operand.tmp 1)) none, VOp.mk (some 53) (Op.move (Operand.tmp 2)) none, VOp.mk (some 54)
  (Op.call (Call.mk (Callee.value (Operand.func 50)) #[Operand.tmp 51, Operand.tmp 52, Operand.tmp 53] #[22, 3, 3])) none]).seq ((VCode.ops [VOp.mk (some 55) (Op.move (Operand.tmp
  2)) none, VOp.mk (some 56) (Op.binOp BinOp.sub 3 (Operand.tmp 55) (Operand.const (Value.int IntKind.i64 1)) 3) none, VOp.mk (some 57) (Op.move (Operand.tmp 11)) none, VOp.mk (some
  58) (Op.move (Operand.tmp 1)) none, VOp.mk (some 59) (Op.binOp BinOp.sub 3 (Operand.tmp 57) (Operand.tmp 58) 3) none, VOp.mk (some 60) (Op.binOp BinOp.sub 3 (Operand.tmp 56)
  (Operand.tmp 59) 3) none, VOp.mk (some 11) (Op.assign (Operand.tmp 60)) none]).seq (VCode.ops [VOp.mk (some 12) (Op.assign (Operand.const (Value.int IntKind.i64 1))) none])))
  VCode.skip)).seq (((VCode.ops [VOp.mk (some 61) (Op.move (Operand.tmp 8)) none, VOp.mk (some 62) (Op.move (Operand.tmp 61)) none, VOp.mk (some 63) (Op.move (Operand.tmp 9)) (some
  (some 62, true)), VOp.mk (some 64) (Op.pick (Operand.tmp 62) (Operand.tmp 63) (Operand.const (Value.bool false))) none, VOp.mk (some 65) (Op.move (Operand.tmp 64)) none, VOp.mk
  (some 66) (Op.move (Operand.tmp 12)) (some (some 65, true)), VOp.mk (some 67) (Op.binOp BinOp.eql 143 (Operand.tmp 66) (Operand.const (Value.int IntKind.i64 1)) 143) (some (some
  65, true)), VOp.mk (some 68) (Op.pick (Operand.tmp 65) (Operand.tmp 67) (Operand.const (Value.bool false))) none]).seq (VCode.cond (Operand.tmp 68) ((VCode.ops [VOp.mk (some 69)
  (Op.move (Operand.tmp 0)) none, VOp.mk (some 70) (Op.move (Operand.tmp 1)) none, VOp.mk (some 71) (Op.move (Operand.tmp 2)) none, VOp.mk (some 72) (Op.call (Call.mk (Callee.value
  (Operand.func 51)) #[Operand.tmp 69, Operand.tmp 70, Operand.tmp 71] #[22, 3, 3])) none]).seq (VCode.cond (Operand.tmp 72) VCode.ret VCode.skip)) VCode.skip)).seq (((VCode.ops
  [VOp.mk (some 73) (Op.move (Operand.tmp 1)) none, VOp.mk (some 74) (Op.binOp BinOp.gtr 3 (Operand.tmp 73) (Operand.const (Value.int IntKind.i64 0)) 3) none, VOp.mk (some 75)
  (Op.move (Operand.tmp 74)) none, VOp.mk (some 76) (Op.move (Operand.tmp 0)) (some (some 75, true)), VOp.mk (some 77) (Op.move (Operand.tmp 1)) (some (some 75, true)), VOp.mk (some
  78) (Op.binOp BinOp.sub 3 (Operand.tmp 77) (Operand.const (Value.int IntKind.i64 1)) 3) (some (some 75, true)), VOp.mk (some 79) (Op.indexAddr 22 (Operand.tmp 76) (Operand.tmp
  78)) (some (some 75, true)), VOp.mk (some 80) (Op.load 9 (Operand.tmp 79)) (some (some 75, true)), VOp.mk (some 81) (Op.move (Operand.tmp 0)) (some (some 75, true)), VOp.mk (some
  82) (Op.move (Operand.tmp 11)) (some (some 75, true)), VOp.mk (some 83) (Op.indexAddr 22 (Operand.tmp 81) (Operand.tmp 82)) (some (some 75, true)), VOp.mk (some 84) (Op.load 9
  (Operand.tmp 83)) (some (some 75, true)), VOp.mk (some 85) (Op.call (Call.mk (Callee.value (Operand.func 52)) #[Operand.tmp 80, Operand.tmp 84] #[9, 9])) (some (some 75, true)),
  VOp.mk (some 86) (Op.unOp UnOp.not 4 (Operand.tmp 85)) (some (some 75, true)), VOp.mk (some 87) (Op.pick (Operand.tmp 75) (Operand.tmp 86) (Operand.const (Value.bool false)))
  none]).seq (VCode.cond (Operand.tmp 87) ((VCode.ops [VOp.mk (some 88) (Op.move (Operand.tmp 0)) none, VOp.mk (some 89) (Op.move (Operand.tmp 1)) none, VOp.mk (some 90) (Op.move
  (Operand.tmp 2)) none, VOp.mk (some 91) (Op.move (Operand.tmp 11)) none, VOp.mk (some 92) (Op.call (Call.mk (Callee.value (Operand.func 53)) #[Operand.tmp 88, Operand.tmp 89,
  Operand.tmp 90, Operand.tmp 91] #[22, 3, 3, 3])) none, VOp.mk (some 13) (Op.assign (Operand.tmp 92)) none]).seq ((VCode.ops [VOp.mk (some 93) (Op.move (Operand.tmp 13)) none,
  VOp.mk (some 1) (Op.assign (Operand.tmp 93)) none]).seq (VCode.exit 1))) VCode.skip)).seq ((VCode.ops [VOp.mk (some 95) (Op.move (Operand.tmp 0)) none, VOp.mk (some 96) (Op.move
  (Operand.tmp 1)) none, VOp.mk (some 97) (Op.move (Operand.tmp 2)) none, VOp.mk (some 98) (Op.move (Operand.tmp 11)) none, VOp.mk (some 99) (Op.call (Call.mk (Callee.value
  (Operand.func 54)) #[Operand.tmp 95, Operand.tmp 96, Operand.tmp 97, Operand.tmp 98] #[22, 3, 3, 3])) none, VOp.mk (some 94) (Op.move (Operand.tmp 99)) none, VOp.mk (some 100)
  (Op.extract (Operand.tmp 94) 0) none, VOp.mk (some 101) (Op.extract (Operand.tmp 94) 1) none, VOp.mk (some 14) (Op.assign (Operand.tmp 100)) none, VOp.mk (some 15) (Op.assign
  (Operand.tmp 101)) none]).seq ((VCode.ops [VOp.mk (some 102) (Op.move (Operand.tmp 15)) none, VOp.mk (some 9) (Op.assign (Operand.tmp 102)) none]).seq ((VCode.ops [VOp.mk (some
  103) (Op.move (Operand.tmp 14)) none, VOp.mk (some 104) (Op.move (Operand.tmp 1)) none, VOp.mk (some 105) (Op.binOp BinOp.sub 3 (Operand.tmp 103) (Operand.tmp 104) 3) none, VOp.mk
  (some 106) (Op.move (Operand.tmp 2)) none, VOp.mk (some 107) (Op.move (Operand.tmp 14)) none, VOp.mk (some 108) (Op.binOp BinOp.sub 3 (Operand.tmp 106) (Operand.tmp 107) 3) none,
  VOp.mk (some 16) (Op.assign (Operand.tmp 105)) none, VOp.mk (some 17) (Op.assign (Operand.tmp 108)) none]).seq ((VCode.ops [VOp.mk (some 109) (Op.move (Operand.tmp 10)) none,
  VOp.mk (some 110) (Op.binOp BinOp.quo 3 (Operand.tmp 109) (Operand.const (Value.int IntKind.i64 8)) 3) none, VOp.mk (some 18) (Op.assign (Operand.tmp 110)) none]).seq ((VCode.ops
  [VOp.mk (some 111) (Op.move (Operand.tmp 16)) none, VOp.mk (some 112) (Op.move (Operand.tmp 17)) none, VOp.mk (some 113) (Op.binOp BinOp.lss 3 (Operand.tmp 111) (Operand.tmp 112)
  3) none]).seq (VCode.cond (Operand.tmp 113) ((VCode.ops [VOp.mk (some 114) (Op.move (Operand.tmp 16)) none, VOp.mk (some 115) (Op.move (Operand.tmp 18)) none, VOp.mk (some 116)
  (Op.binOp BinOp.geq 3 (Operand.tmp 114) (Operand.tmp 115) 3) none, VOp.mk (some 8) (Op.assign (Operand.tmp 116)) none]).seq ((VCode.ops [VOp.mk (some 117) (Op.move (Operand.tmp
  0)) none, VOp.mk (some 118) (Op.move (Operand.tmp 1)) none, VOp.mk (some 119) (Op.move (Operand.tmp 14)) none, VOp.mk (some 120) (Op.move (Operand.tmp 3)) none, VOp.mk (some 121)
  (Op.call (Call.mk (Callee.value (Operand.func 28)) #[Operand.tmp 117, Operand.tmp 118, Operand.tmp 119, Operand.tmp 120] #[22, 3, 3, 3])) none]).seq (VCode.ops [VOp.mk (some 122)
  (Op.move (Operand.tmp 14)) none, VOp.mk (some 123) (Op.binOp BinOp.add 3 (Operand.tmp 122) (Operand.const (Value.int IntKind.i64 1)) 3) none, VOp.mk (some 1) (Op.assign
  (Operand.tmp 123)) none]))) ((VCode.ops [VOp.mk (some 124) (Op.move (Operand.tmp 17)) none, VOp.mk (some 125) (Op.move (Operand.tmp 18)) none, VOp.mk (some 126) (Op.binOp
  BinOp.geq 3 (Operand.tmp 124) (Operand.tmp 125) 3) none, VOp.mk (some 8) (Op.assign (Operand.tmp 126)) none]).seq ((VCode.ops [VOp.mk (some 127) (Op.move (Operand.tmp 0)) none,
  VOp.mk (some 128) (Op.move (Operand.tmp 14)) none, VOp.mk (some 129) (Op.binOp BinOp.add 3 (Operand.tmp 128) (Operand.const (Value.int IntKind.i64 1)) 3) none, VOp.mk (some 130)
  (Op.move (Operand.tmp 2)) none, VOp.mk (some 131) (Op.move (Operand.tmp 3)) none, VOp.mk (some 132) (Op.call (Call.mk (Callee.value (Operand.func 28)) #[Operand.tmp 127,
  Operand.tmp 129, Operand.tmp 130, Operand.tmp 131] #[22, 3, 3, 3])) none]).seq (VCode.ops [VOp.mk (some 133) (Op.move (Operand.tmp 14)) none, VOp.mk (some 2) (Op.assign
  (Operand.tmp 133)) none])))))))))))))))))).loop))
theorem fn28 : FnOk Tryz.prog 28 134 vc28 [] := ⟨Tryz.f28, _, [], Tryz.func28, rfl, rfl, rfl, by kernel_rfl, by kernel_rfl, by kernel_rfl⟩

/-- math/bits.Len -/
def vc29 : VCode := (VCode.ops [VOp.mk (some 2) (Op.assign (Operand.const (Value.int IntKind.i64 0))) none]).seq ((VCode.cond (Operand.const (Value.bool false)) ((VCode.ops [VOp.mk
  (some 3) (Op.move (Operand.tmp 0)) none, VOp.mk (some 4) (Op.convert 128 152 (Operand.tmp 3)) none, VOp.mk (some 5) (Op.call (Call.mk (Callee.value (Operand.func 55))
  #[Operand.tmp 4] #[152])) none, VOp.mk (some 2) (Op.assign (Operand.tmp 5)) none]).seq VCode.ret) VCode.skip).seq ((VCode.ops [VOp.mk (some 6) (Op.move (Operand.tmp 0)) none,
  VOp.mk (some 7) (Op.call (Call.mk (Callee.value (Operand.func 56)) #[Operand.tmp 6] #[154])) none, VOp.mk (some 2) (Op.assign (Operand.tmp 7)) none]).seq VCode.ret))
theorem fn29 : FnOk Tryz.prog 29 8 vc29 [ResultVar.tmp 2] := ⟨Tryz.f29, _, [], Tryz.func29, rfl, rfl, rfl, by kernel_rfl, by kernel_rfl, by kernel_rfl⟩

/-- slices.ContainsFunc[[]wafer/api.Pat,wafer/api.Pat] -/
def vc31 : VCode := (VCode.ops [VOp.mk (some 4) (Op.assign (Operand.const (Value.bool false))) none]).seq ((VCode.ops [VOp.mk (some 5) (Op.move (Operand.tmp 0)) none, VOp.mk (some
  6) (Op.move (Operand.tmp 1)) none, VOp.mk (some 7) (Op.call (Call.mk (Callee.value (Operand.func 70)) #[Operand.tmp 5, Operand.tmp 6] #[23, 132])) none, VOp.mk (some 8) (Op.binOp
  BinOp.geq 3 (Operand.tmp 7) (Operand.const (Value.int IntKind.i64 0)) 3) none, VOp.mk (some 4) (Op.assign (Operand.tmp 8)) none]).seq VCode.ret)
theorem fn31 : FnOk Tryz.prog 31 9 vc31 [ResultVar.tmp 4] := ⟨Tryz.f31, _, [], Tryz.func31, rfl, rfl, rfl, by kernel_rfl, by kernel_rfl, by kernel_rfl⟩

/-- wafer/pattern.known$1 -/
def vc32 : VCode := (VCode.ops [VOp.mk (some 2) (Op.box 25 (Operand.tmp 0)) none, VOp.mk (some 3) (Op.assign (Operand.const (Value.bool false))) none]).seq ((VCode.ops [VOp.mk (some
  4) (Op.load 25 (Operand.tmp 2)) none, VOp.mk (some 5) (Op.load 54 (Operand.tmp 1)) none, VOp.mk (some 6) (Op.call (Call.mk (Callee.value (Operand.func 19)) #[Operand.tmp 4,
  Operand.tmp 5] #[25, 54])) none, VOp.mk (some 7) (Op.unOp UnOp.not 4 (Operand.tmp 6)) none, VOp.mk (some 3) (Op.assign (Operand.tmp 7)) none]).seq VCode.ret)
theorem fn32 : FnOk Tryz.prog 32 8 vc32 [ResultVar.tmp 3] := ⟨Tryz.f32, _, [], Tryz.func32, rfl, rfl, rfl, by kernel_rfl, by kernel_rfl, by kernel_rfl⟩

/-- (*wafer/unify.Store).Meta -/
def vc33 : VCode := (VCode.ops [VOp.mk (some 2) (Op.alloc 42) none]).seq (((VCode.ops [VOp.mk (some 3) (Op.move (Operand.tmp 0)) none, VOp.mk (some 4) (Op.binOp BinOp.eql 38
  (Operand.tmp 3) (Operand.const (Value.pointer none)) 38) none]).seq (VCode.cond (Operand.tmp 4) ((VCode.ops [VOp.mk (some 5) (Op.build 42 #[]) none, VOp.mk none (Op.store 42
  (Operand.tmp 2) (Operand.tmp 5)) none]).seq VCode.ret) VCode.skip)).seq ((VCode.ops [VOp.mk (some 6) (Op.move (Operand.tmp 0)) none, VOp.mk (some 7) (Op.move (Operand.tmp 0))
  none, VOp.mk (some 8) (Op.nilCheck (Operand.tmp 7)) none, VOp.mk (some 9) (Op.fieldAddr 70 (Operand.tmp 8) 0) none, VOp.mk (some 10) (Op.load 68 (Operand.tmp 9)) none, VOp.mk
  (some 11) (Op.build 174 #[]) none, VOp.mk (some 12) (Op.buildSlice 68 1 #[(0, Operand.tmp 11)]) none, VOp.mk (some 13) (Op.call (Call.mk (Callee.builtin Builtin.append)
  #[Operand.tmp 10, Operand.tmp 12] #[68, 68])) none, VOp.mk (some 14) (Op.nilCheck (Operand.tmp 6)) none, VOp.mk (some 15) (Op.fieldAddr 70 (Operand.tmp 14) 0) none, VOp.mk none
  (Op.store 68 (Operand.tmp 15) (Operand.tmp 13)) none]).seq ((VCode.ops [VOp.mk (some 16) (Op.move (Operand.tmp 0)) none, VOp.mk (some 17) (Op.nilCheck (Operand.tmp 16)) none,
  VOp.mk (some 18) (Op.fieldAddr 70 (Operand.tmp 17) 0) none, VOp.mk (some 19) (Op.load 68 (Operand.tmp 18)) none, VOp.mk (some 20) (Op.call (Call.mk (Callee.builtin Builtin.len)
  #[Operand.tmp 19] #[68])) none, VOp.mk (some 21) (Op.binOp BinOp.sub 3 (Operand.tmp 20) (Operand.const (Value.int IntKind.i64 1)) 3) none, VOp.mk (some 22) (Op.build 42 #[(0,
  Operand.const (Value.int IntKind.i64 7)), (1, Operand.tmp 21)]) none, VOp.mk none (Op.store 42 (Operand.tmp 2) (Operand.tmp 22)) none]).seq VCode.ret)))
theorem fn33 : FnOk Tryz.prog 33 23 vc33 [ResultVar.cell 2 42] := ⟨Tryz.f33, _, [], Tryz.func33, rfl, rfl, rfl, by kernel_rfl, by kernel_rfl, by kernel_rfl⟩

/-- (*wafer/pattern.checker).fits -/
def vc34 : VCode := (VCode.ops [VOp.mk (some 4) (Op.box 42 (Operand.tmp 1)) none, VOp.mk (some 6) (Op.alloc 42) none, VOp.mk (some 7) (Op.assign (Operand.const (Value.bool false)))
  none]).seq (((VCode.ops [VOp.mk (some 9) (Op.move (Operand.tmp 2)) none, VOp.mk (some 10) (Op.unOp UnOp.not 4 (Operand.tmp 9)) none]).seq (VCode.cond (Operand.tmp 10) ((VCode.ops
  [VOp.mk (some 11) (Op.load 42 (Operand.tmp 4)) none, VOp.mk none (Op.store 42 (Operand.tmp 6) (Operand.tmp 11)) none, VOp.mk (some 7) (Op.assign (Operand.const (Value.bool
  false))) none]).seq VCode.ret) VCode.skip)).seq ((VCode.ops [VOp.mk (some 12) (Op.move (Operand.tmp 0)) none, VOp.mk (some 13) (Op.nilCheck (Operand.tmp 12)) none, VOp.mk (some
  14) (Op.fieldAddr 78 (Operand.tmp 13) 1) none, VOp.mk (some 15) (Op.load 38 (Operand.tmp 14)) none, VOp.mk (some 16) (Op.call (Call.mk (Callee.value (Operand.func 33))
  #[Operand.tmp 15] #[38])) none, VOp.mk (some 8) (Op.alloc 42) none, VOp.mk none (Op.store 42 (Operand.tmp 8) (Operand.tmp 16)) none]).seq ((VCode.opsW [(0, VOp.mk (some 17)
  (Op.load 42 (Operand.tmp 8)) none), (1, VOp.mk (some 18) (Op.move (Operand.tmp 0)) none), (2, VOp.mk (some 19) (Op.nilCheck (Operand.tmp 18)) none), (3, VOp.mk (some 20)
  (Op.fieldAddr 78 (Operand.tmp 19) 1) none), (4, VOp.mk (some 21) (Op.load 38 (Operand.tmp 20)) none), (5, VOp.mk (some 22) (Op.load 42 (Operand.tmp 8)) none), (6, VOp.mk (some 23)
  (Op.load 42 (Operand.tmp 4)) none), (7, VOp.mk (some 24) (Op.call (Call.mk (Callee.value (Operand.func 35)) #[Operand.tmp 21, Operand.tmp 22, Operand.tmp 23] #[38, 42, 42]))
  none), (8, VOp.mk (some 25) (Op.binOp BinOp.eql 44 (Operand.tmp 24) (Operand.const (Value.int IntKind.i64 0)) 44) none), (9, VOp.mk none (Op.store 42 (Operand.tmp 6) (Operand.tmp
  17)) none), (10, VOp.mk (some 7) (Op.assign (Operand.tmp 25)) none)] [(7, [0])]).seq VCode.ret)))
theorem fn34 : FnOk Tryz.prog 34 26 vc34 [ResultVar.cell 6 42, ResultVar.tmp 7] := ⟨Tryz.f34, _, [(4, [([0, 1, 2, 3, 4, 5, 6, 7, 8, 9, 10], [(7, [0])])])], Tryz.func34, rfl, rfl,
  rfl, by kernel_rfl, by kernel_rfl, by kernel_rfl⟩

/-- (*wafer/unify.Store).Unify -/
def vc35 : VCode := (VCode.ops [VOp.mk (some 4) (Op.box 42 (Operand.tmp 1)) none, VOp.mk (some 5) (Op.box 42 (Operand.tmp 2)) none, VOp.mk (some 6) (Op.assign (Operand.const
  (Value.int IntKind.i64 0))) none]).seq (((VCode.ops [VOp.mk (some 11) (Op.move (Operand.tmp 0)) none, VOp.mk (some 12) (Op.binOp BinOp.eql 38 (Operand.tmp 11) (Operand.const
  (Value.pointer none)) 38) none]).seq (VCode.cond (Operand.tmp 12) ((VCode.ops [VOp.mk (some 6) (Op.assign (Operand.const (Value.int IntKind.i64 2))) none]).seq VCode.ret)
  VCode.skip)).seq ((VCode.ops [VOp.mk (some 13) (Op.move (Operand.tmp 0)) none, VOp.mk (some 14) (Op.nilCheck (Operand.tmp 13)) none, VOp.mk (some 15) (Op.fieldAddr 70 (Operand.tmp
  14) 0) none, VOp.mk (some 16) (Op.load 68 (Operand.tmp 15)) none, VOp.mk (some 17) (Op.call (Call.mk (Callee.value (Operand.func 71)) #[Operand.tmp 16] #[68])) none, VOp.mk (some
  7) (Op.assign (Operand.tmp 17)) none]).seq ((VCode.ops [VOp.mk (some 18) (Op.move (Operand.tmp 0)) none, VOp.mk (some 19) (Op.load 42 (Operand.tmp 4)) none, VOp.mk (some 20)
  (Op.load 42 (Operand.tmp 5)) none, VOp.mk (some 21) (Op.call (Call.mk (Callee.value (Operand.func 72)) #[Operand.tmp 18, Operand.tmp 19, Operand.tmp 20] #[38, 42, 42])) none,
  VOp.mk (some 8) (Op.alloc 176) none, VOp.mk none (Op.store 176 (Operand.tmp 8) (Operand.tmp 21)) none]).seq ((VCode.ops [VOp.mk (some 22) (Op.move (Operand.tmp 0)) none, VOp.mk
  (some 23) (Op.load 42 (Operand.tmp 4)) none, VOp.mk (some 24) (Op.load 42 (Operand.tmp 5)) none, VOp.mk (some 25) (Op.call (Call.mk (Callee.value (Operand.func 73)) #[Operand.tmp
  22, Operand.tmp 23, Operand.tmp 24, Operand.tmp 8] #[38, 42, 42, 179])) none, VOp.mk (some 9) (Op.assign (Operand.tmp 25)) none]).seq (((VCode.ops [VOp.mk (some 10) (Op.assign
  (Operand.const (Value.int IntKind.i64 0))) none]).seq (VCode.block 0 (((VCode.ops [VOp.mk (some 26) (Op.move (Operand.tmp 9)) none, VOp.mk (some 27) (Op.move (Operand.tmp 26))
  none, VOp.mk (some 28) (Op.move (Operand.tmp 10)) (some (some 27, true)), VOp.mk (some 29) (Op.move (Operand.tmp 0)) (some (some 27, true)), VOp.mk (some 30) (Op.nilCheck
  (Operand.tmp 29)) (some (some 27, true)), VOp.mk (some 31) (Op.fieldAddr 70 (Operand.tmp 30) 0) (some (some 27, true)), VOp.mk (some 32) (Op.load 68 (Operand.tmp 31)) (some (some
  27, true)), VOp.mk (some 33) (Op.call (Call.mk (Callee.builtin Builtin.len) #[Operand.tmp 32] #[68])) (some (some 27, true)), VOp.mk (some 34) (Op.binOp BinOp.lss 3 (Operand.tmp
  28) (Operand.tmp 33) 3) (some (some 27, true)), VOp.mk (some 35) (Op.pick (Operand.tmp 27) (Operand.tmp 34) (Operand.const (Value.bool false))) none]).seq (VCode.cond (Operand.tmp
  35) VCode.skip (VCode.exit 0))).seq ((VCode.block 1 (VCode.ops [VOp.mk (some 38) (Op.move (Operand.tmp 0)) none, VOp.mk (some 39) (Op.move (Operand.tmp 10)) none, VOp.mk (some 40)
  (Op.build 42 #[(0, Operand.const (Value.int IntKind.i64 7)), (1, Operand.tmp 39)]) none, VOp.mk (some 41) (Op.call (Call.mk (Callee.value (Operand.func 22)) #[Operand.tmp 38,
  Operand.tmp 40, Operand.const (Value.int IntKind.i64 0)] #[38, 42, 3])) none, VOp.mk (some 42) (Op.binOp BinOp.leq 3 (Operand.tmp 41) (Operand.const (Value.int IntKind.i64 1000))
  3) none, VOp.mk (some 9) (Op.assign (Operand.tmp 42)) none])).seq (VCode.ops [VOp.mk (some 36) (Op.move (Operand.tmp 10)) none, VOp.mk (some 37) (Op.binOp BinOp.add 3 (Operand.tmp
  36) (Operand.const (Value.int IntKind.i64 1)) 3) none, VOp.mk (some 10) (Op.assign (Operand.tmp 37)) none]))).loop)).seq (((VCode.ops [VOp.mk (some 43) (Op.move (Operand.tmp 9))
  none, VOp.mk (some 44) (Op.unOp UnOp.not 4 (Operand.tmp 43)) none]).seq (VCode.cond (Operand.tmp 44) ((VCode.opsW [(0, VOp.mk (some 45) (Op.move (Operand.tmp 0)) none), (1, VOp.mk
  (some 46) (Op.move (Operand.tmp 0)) none), (2, VOp.mk (some 47) (Op.nilCheck (Operand.tmp 46)) none), (3, VOp.mk (some 48) (Op.fieldAddr 70 (Operand.tmp 47) 0) none), (4, VOp.mk
  (some 49) (Op.load 68 (Operand.tmp 48)) none), (5, VOp.mk (some 50) (Op.move (Operand.tmp 0)) none), (6, VOp.mk (some 51) (Op.nilCheck (Operand.tmp 50)) none), (7, VOp.mk (some
  52) (Op.fieldAddr 70 (Operand.tmp 51) 0) none), (8, VOp.mk (some 53) (Op.load 68 (Operand.tmp 52)) none), (9, VOp.mk (some 54) (Op.move (Operand.tmp 7)) none), (10, VOp.mk (some
  55) (Op.call (Call.mk (Callee.builtin Builtin.copy) #[Operand.tmp 53, Operand.tmp 54] #[68, 68])) none), (11, VOp.mk (some 56) (Op.slice 68 (Operand.tmp 49) none (some
  (Operand.tmp 55)) none) none), (12, VOp.mk (some 57) (Op.nilCheck (Operand.tmp 45)) none), (13, VOp.mk (some 58) (Op.fieldAddr 70 (Operand.tmp 57) 0) none), (14, VOp.mk none
  (Op.store 68 (Operand.tmp 58) (Operand.tmp 56)) none)] [(10, [2, 3, 4])]).seq ((VCode.ops [VOp.mk (some 6) (Op.assign (Operand.const (Value.int IntKind.i64 22))) none]).seq
  VCode.ret)) VCode.skip)).seq ((VCode.ops [VOp.mk (some 6) (Op.assign (Operand.const (Value.int IntKind.i64 0))) none]).seq VCode.ret)))))))
theorem fn35 : FnOk Tryz.prog 35 59 vc35 [ResultVar.tmp 6] := ⟨Tryz.f35, _, [(11, [([0, 1, 2, 3, 4, 5, 6, 7, 8, 9, 10, 11, 12, 13, 14], [(10, [2, 3, 4])])])], Tryz.func35, rfl, rfl,
  rfl, by kernel_rfl, by kernel_rfl, by kernel_rfl⟩

/-- (*wafer/unify.Store).seen -/
def vc36 : VCode := (VCode.ops [VOp.mk (some 3) (Op.box 42 (Operand.tmp 1)) none, VOp.mk (some 4) (Op.alloc 42) none]).seq ((VCode.block 0 (((VCode.ops [VOp.mk (some 5) (Op.move
  (Operand.tmp 0)) none, VOp.mk (some 6) (Op.load 42 (Operand.tmp 3)) none, VOp.mk (some 7) (Op.call (Call.mk (Callee.value (Operand.func 74)) #[Operand.tmp 5, Operand.tmp 6] #[38,
  42])) none, VOp.mk (some 8) (Op.move (Operand.tmp 7)) none, VOp.mk (some 9) (Op.move (Operand.tmp 0)) (some (some 8, true)), VOp.mk (some 10) (Op.nilCheck (Operand.tmp 9)) (some
  (some 8, true)), VOp.mk (some 11) (Op.fieldAddr 70 (Operand.tmp 10) 0) (some (some 8, true)), VOp.mk (some 12) (Op.load 68 (Operand.tmp 11)) (some (some 8, true)), VOp.mk (some
  13) (Op.fieldAddr 42 (Operand.tmp 3) 1) (some (some 8, true)), VOp.mk (some 14) (Op.load 3 (Operand.tmp 13)) (some (some 8, true)), VOp.mk (some 15) (Op.indexAddr 68 (Operand.tmp
  12) (Operand.tmp 14)) (some (some 8, true)), VOp.mk (some 16) (Op.fieldAddr 174 (Operand.tmp 15) 0) (some (some 8, true)), VOp.mk (some 17) (Op.load 4 (Operand.tmp 16)) (some
  (some 8, true)), VOp.mk (some 18) (Op.pick (Operand.tmp 8) (Operand.tmp 17) (Operand.const (Value.bool false))) none]).seq (VCode.cond (Operand.tmp 18) VCode.skip (VCode.exit
  0))).seq (VCode.block 1 (VCode.ops [VOp.mk (some 19) (Op.move (Operand.tmp 0)) none, VOp.mk (some 20) (Op.nilCheck (Operand.tmp 19)) none, VOp.mk (some 21) (Op.fieldAddr 70
  (Operand.tmp 20) 0) none, VOp.mk (some 22) (Op.load 68 (Operand.tmp 21)) none, VOp.mk (some 23) (Op.fieldAddr 42 (Operand.tmp 3) 1) none, VOp.mk (some 24) (Op.load 3 (Operand.tmp
  23)) none, VOp.mk (some 25) (Op.indexAddr 68 (Operand.tmp 22) (Operand.tmp 24)) none, VOp.mk (some 26) (Op.fieldAddr 174 (Operand.tmp 25) 1) none, VOp.mk (some 27) (Op.load 42
  (Operand.tmp 26)) none, VOp.mk none (Op.store 42 (Operand.tmp 3) (Operand.tmp 27)) none]))).loop).seq (((VCode.ops [VOp.mk (some 28) (Op.move (Operand.tmp 0)) none, VOp.mk (some
  29) (Op.load 42 (Operand.tmp 3)) none, VOp.mk (some 30) (Op.call (Call.mk (Callee.value (Operand.func 74)) #[Operand.tmp 28, Operand.tmp 29] #[38, 42])) none]).seq (VCode.cond
  (Operand.tmp 30) ((VCode.ops [VOp.mk (some 31) (Op.fieldAddr 42 (Operand.tmp 3) 1) none, VOp.mk (some 32) (Op.load 3 (Operand.tmp 31)) none, VOp.mk (some 33) (Op.build 42 #[(0,
  Operand.const (Value.int IntKind.i64 7)), (1, Operand.tmp 32)]) none, VOp.mk none (Op.store 42 (Operand.tmp 4) (Operand.tmp 33)) none]).seq VCode.ret) VCode.skip)).seq ((VCode.ops
  [VOp.mk (some 34) (Op.load 42 (Operand.tmp 3)) none, VOp.mk none (Op.store 42 (Operand.tmp 4) (Operand.tmp 34)) none]).seq VCode.ret)))
theorem fn36 : FnOk Tryz.prog 36 35 vc36 [ResultVar.cell 4 42] := ⟨Tryz.f36, _, [], Tryz.func36, rfl, rfl, rfl, by kernel_rfl, by kernel_rfl, by kernel_rfl⟩

/-- slices.Clone[[]wafer/api.Type,wafer/api.Type] -/
def vc37 : VCode := (VCode.ops [VOp.mk (some 2) (Op.assign (Operand.const (Value.slice none 0 0))) none]).seq (((VCode.ops [VOp.mk (some 3) (Op.move (Operand.tmp 0)) none, VOp.mk
  (some 4) (Op.binOp BinOp.eql 40 (Operand.tmp 3) (Operand.const (Value.slice none 0 0)) 40) none]).seq (VCode.cond (Operand.tmp 4) ((VCode.ops [VOp.mk (some 2) (Op.assign
  (Operand.const (Value.slice none 0 0))) none]).seq VCode.ret) VCode.skip)).seq ((VCode.ops [VOp.mk (some 5) (Op.buildSlice 40 0 #[]) none, VOp.mk (some 6) (Op.move (Operand.tmp
  0)) none, VOp.mk (some 7) (Op.call (Call.mk (Callee.builtin Builtin.append) #[Operand.tmp 5, Operand.tmp 6] #[40, 40])) none, VOp.mk (some 2) (Op.assign (Operand.tmp 7))
  none]).seq VCode.ret))
theorem fn37 : FnOk Tryz.prog 37 8 vc37 [ResultVar.tmp 2] := ⟨Tryz.f37, _, [], Tryz.func37, rfl, rfl, rfl, by kernel_rfl, by kernel_rfl, by kernel_rfl⟩

/-- wafer/tree.caught -/
def vc38 : VCode := (VCode.ops [VOp.mk (some 2) (Op.alloc 44) none]).seq ((VCode.ops [VOp.mk (some 3) (Op.makeFunc (Fn.func 75) #[] #[Operand.tmp 2]) none, VOp.mk none (Op.defer
  (Call.mk (Callee.value (Operand.tmp 3)) #[] #[])) none]).seq ((VCode.ops [VOp.mk (some 4) (Op.move (Operand.tmp 0)) none, VOp.mk (some 5) (Op.call (Call.mk (Callee.value
  (Operand.tmp 4)) #[] #[])) none]).seq ((VCode.ops [VOp.mk none (Op.store 44 (Operand.tmp 2) (Operand.const (Value.int IntKind.i64 0))) none]).seq VCode.ret)))
theorem fn38 : FnOk Tryz.prog 38 6 vc38 [ResultVar.cell 2 44] := ⟨Tryz.f38, _, [], Tryz.func38, rfl, rfl, rfl, by kernel_rfl, by kernel_rfl, by kernel_rfl⟩

/-- wafer/tree.each[wafer/api.Pat] -/
def vc39 : VCode := (VCode.ops [VOp.mk (some 6) (Op.move (Operand.tmp 0)) none, VOp.mk (some 7) (Op.call (Call.mk (Callee.builtin Builtin.len) #[Operand.tmp 6] #[23])) none, VOp.mk
  (some 8) (Op.move (Operand.const (Value.int IntKind.i64 0))) none]).seq (VCode.block 0 ((VCode.ops [VOp.mk (some 9) (Op.binOp BinOp.lss 3 (Operand.tmp 8) (Operand.tmp 7) 3)
  none]).seq ((VCode.cond (Operand.tmp 9) VCode.skip (VCode.exit 0)).seq ((VCode.block 1 ((VCode.ops [VOp.mk (some 10) (Op.indexAddr 23 (Operand.tmp 6) (Operand.tmp 8)) none, VOp.mk
  (some 11) (Op.load 25 (Operand.tmp 10)) none, VOp.mk (some 5) (Op.alloc 25) none, VOp.mk none (Op.store 25 (Operand.tmp 5) (Operand.tmp 11)) none]).seq (VCode.ops [VOp.mk (some
  12) (Op.move (Operand.tmp 1)) none, VOp.mk (some 13) (Op.load 25 (Operand.tmp 5)) none, VOp.mk (some 14) (Op.call (Call.mk (Callee.value (Operand.tmp 12)) #[Operand.tmp 13]
  #[25])) none]))).seq (VCode.ops [VOp.mk (some 15) (Op.binOp BinOp.add 3 (Operand.tmp 8) (Operand.const (Value.int IntKind.i64 1)) 3) none, VOp.mk (some 8) (Op.move (Operand.tmp
  15)) none])))).loop)
theorem fn39 : FnOk Tryz.prog 39 16 vc39 [] := ⟨Tryz.f39, _, [], Tryz.func39, rfl, rfl, rfl, by kernel_rfl, by kernel_rfl, by kernel_rfl⟩

/-- (*wafer/tree.walker).pats$1 -/
def vc40 : VCode := (VCode.ops [VOp.mk (some 2) (Op.box 25 (Operand.tmp 0)) none]).seq (VCode.ops [VOp.mk (some 3) (Op.load 121 (Operand.tmp 1)) none, VOp.mk (some 4) (Op.makeFunc
  (Fn.func 42) #[] #[Operand.tmp 1, Operand.tmp 2]) none, VOp.mk (some 5) (Op.call (Call.mk (Callee.value (Operand.func 41)) #[Operand.tmp 3, Operand.tmp 4] #[121, 1])) none])
theorem fn40 : FnOk Tryz.prog 40 6 vc40 [] := ⟨Tryz.f40, _, [], Tryz.func40, rfl, rfl, rfl, by kernel_rfl, by kernel_rfl, by kernel_rfl⟩

/-- (*wafer/tree.walker).within -/
def vc41 : VCode := (VCode.ops [VOp.mk (some 2) (Op.box 121 (Operand.tmp 0)) none]).seq ((VCode.ops [VOp.mk (some 4) (Op.load 121 (Operand.tmp 2)) none, VOp.mk (some 5) (Op.nilCheck
  (Operand.tmp 4)) none, VOp.mk (some 6) (Op.fieldAddr 123 (Operand.tmp 5) 0) none, VOp.mk (some 7) (Op.load 3 (Operand.tmp 6)) none, VOp.mk (some 8) (Op.binOp BinOp.add 3
  (Operand.tmp 7) (Operand.const (Value.int IntKind.i64 1)) 3) none, VOp.mk (some 9) (Op.nilCheck (Operand.tmp 4)) none, VOp.mk (some 10) (Op.fieldAddr 123 (Operand.tmp 9) 0) none,
  VOp.mk none (Op.store 3 (Operand.tmp 10) (Operand.tmp 8)) none]).seq ((VCode.ops [VOp.mk (some 11) (Op.load 121 (Operand.tmp 2)) none, VOp.mk (some 12) (Op.nilCheck (Operand.tmp
  11)) none, VOp.mk (some 13) (Op.fieldAddr 123 (Operand.tmp 12) 1) none, VOp.mk (some 14) (Op.load 3 (Operand.tmp 13)) none, VOp.mk (some 15) (Op.binOp BinOp.add 3 (Operand.tmp 14)
  (Operand.const (Value.int IntKind.i64 1)) 3) none, VOp.mk (some 16) (Op.nilCheck (Operand.tmp 11)) none, VOp.mk (some 17) (Op.fieldAddr 123 (Operand.tmp 16) 1) none, VOp.mk none
  (Op.store 3 (Operand.tmp 17) (Operand.tmp 15)) none]).seq ((VCode.ops [VOp.mk (some 18) (Op.load 121 (Operand.tmp 2)) none, VOp.mk (some 19) (Op.load 121 (Operand.tmp 2)) none,
  VOp.mk (some 20) (Op.nilCheck (Operand.tmp 19)) none, VOp.mk (some 21) (Op.fieldAddr 123 (Operand.tmp 20) 2) none, VOp.mk (some 22) (Op.load 3 (Operand.tmp 21)) none, VOp.mk (some
  23) (Op.load 121 (Operand.tmp 2)) none, VOp.mk (some 24) (Op.nilCheck (Operand.tmp 23)) none, VOp.mk (some 25) (Op.fieldAddr 123 (Operand.tmp 24) 1) none, VOp.mk (some 26)
  (Op.load 3 (Operand.tmp 25)) none, VOp.mk (some 27) (Op.call (Call.mk (Callee.builtin Builtin.max) #[Operand.tmp 22, Operand.tmp 26] #[3, 3])) none, VOp.mk (some 28) (Op.nilCheck
  (Operand.tmp 18)) none, VOp.mk (some 29) (Op.fieldAddr 123 (Operand.tmp 28) 2) none, VOp.mk none (Op.store 3 (Operand.tmp 29) (Operand.tmp 27)) none]).seq ((VCode.ops [VOp.mk
  (some 30) (Op.makeFunc (Fn.func 76) #[] #[Operand.tmp 2]) none, VOp.mk none (Op.defer (Call.mk (Callee.value (Operand.tmp 30)) #[] #[])) none]).seq (VCode.ops [VOp.mk (some 31)
  (Op.move (Operand.tmp 1)) none, VOp.mk (some 32) (Op.call (Call.mk (Callee.value (Operand.tmp 31)) #[] #[])) none])))))
theorem fn41 : FnOk Tryz.prog 41 33 vc41 [] := ⟨Tryz.f41, _, [], Tryz.func41, rfl, rfl, rfl, by kernel_rfl, by kernel_rfl, by kernel_rfl⟩

/-- (*wafer/tree.walker).pats$1$1 -/
def vc42 : VCode := VCode.ops [VOp.mk (some 2) (Op.load 121 (Operand.tmp 0)) none, VOp.mk (some 3) (Op.fieldAddr 25 (Operand.tmp 1) 4) none, VOp.mk (some 4) (Op.load 23 (Operand.tmp
  3)) none, VOp.mk (some 5) (Op.call (Call.mk (Callee.value (Operand.func 25)) #[Operand.tmp 2, Operand.tmp 4] #[121, 23])) none]
theorem fn42 : FnOk Tryz.prog 42 6 vc42 [] := ⟨Tryz.f42, _, [], Tryz.func42, rfl, rfl, rfl, by kernel_rfl, by kernel_rfl, by kernel_rfl⟩

/-- wafer/tree.ask -/
def vc43 : VCode := (VCode.ops [VOp.mk (some 2) (Op.move (Operand.tmp 0)) none, VOp.mk (some 3) (Op.unOp UnOp.not 4 (Operand.tmp 2)) none]).seq (VCode.cond (Operand.tmp 3)
  (VCode.ops [VOp.mk (some 4) (Op.call (Call.mk (Callee.value (Operand.func 77)) #[Operand.const (Value.int IntKind.i64 1)] #[44])) none]) VCode.skip)
theorem fn43 : FnOk Tryz.prog 43 5 vc43 [] := ⟨Tryz.f43, _, [], Tryz.func43, rfl, rfl, rfl, by kernel_rfl, by kernel_rfl, by kernel_rfl⟩

/-- wafer/tree.lowName -/
def vc44 : VCode := (VCode.ops [VOp.mk (some 2) (Op.move (Operand.tmp 0)) none, VOp.mk (some 3) (Op.call (Call.mk (Callee.value (Operand.func 78)) #[Operand.tmp 2] #[9])) none,
  VOp.mk (some 4) (Op.call (Call.mk (Callee.value (Operand.func 77)) #[Operand.tmp 3] #[44])) none]).seq ((VCode.ops [VOp.mk (some 5) (Op.move (Operand.tmp 0)) none, VOp.mk (some 6)
  (Op.call (Call.mk (Callee.value (Operand.func 79)) #[Operand.tmp 5] #[9])) none, VOp.mk (some 7) (Op.unOp UnOp.not 4 (Operand.tmp 6)) none]).seq (VCode.cond (Operand.tmp 7)
  (VCode.ops [VOp.mk (some 8) (Op.call (Call.mk (Callee.value (Operand.func 77)) #[Operand.const (Value.int IntKind.i64 12)] #[44])) none]) VCode.skip))
theorem fn44 : FnOk Tryz.prog 44 9 vc44 [] := ⟨Tryz.f44, _, [], Tryz.func44, rfl, rfl, rfl, by kernel_rfl, by kernel_rfl, by kernel_rfl⟩

/-- slices.insertionSortOrdered[string] -/
def vc46 : VCode := (VCode.ops [VOp.mk (some 8) (Op.move (Operand.tmp 1)) none, VOp.mk (some 9) (Op.binOp BinOp.add 3 (Operand.tmp 8) (Operand.const (Value.int IntKind.i64 1)) 3)
  none, VOp.mk (some 6) (Op.assign (Operand.tmp 9)) none]).seq (VCode.block 0 (((VCode.ops [VOp.mk (some 10) (Op.move (Operand.tmp 6)) none, VOp.mk (some 11) (Op.move (Operand.tmp
  2)) none, VOp.mk (some 12) (Op.binOp BinOp.lss 3 (Operand.tmp 10) (Operand.tmp 11) 3) none]).seq (VCode.cond (Operand.tmp 12) VCode.skip (VCode.exit 0))).seq ((VCode.block 1
  ((VCode.ops [VOp.mk (some 15) (Op.move (Operand.tmp 6)) none, VOp.mk (some 7) (Op.assign (Operand.tmp 15)) none]).seq (VCode.block 2 (((VCode.ops [VOp.mk (some 16) (Op.move
  (Operand.tmp 7)) none, VOp.mk (some 17) (Op.move (Operand.tmp 1)) none, VOp.mk (some 18) (Op.binOp BinOp.gtr 3 (Operand.tmp 16) (Operand.tmp 17) 3) none, VOp.mk (some 19) (Op.move
  (Operand.tmp 18)) none, VOp.mk (some 20) (Op.move (Operand.tmp 0)) (some (some 19, true)), VOp.mk (some 21) (Op.move (Operand.tmp 7)) (some (some 19, true)), VOp.mk (some 22)
  (Op.indexAddr 22 (Operand.tmp 20) (Operand.tmp 21)) (some (some 19, true)), VOp.mk (some 23) (Op.load 9 (Operand.tmp 22)) (some (some 19, true)), VOp.mk (some 24) (Op.move
  (Operand.tmp 0)) (some (some 19, true)), VOp.mk (some 25) (Op.move (Operand.tmp 7)) (some (some 19, true)), VOp.mk (some 26) (Op.binOp BinOp.sub 3 (Operand.tmp 25) (Operand.const
  (Value.int IntKind.i64 1)) 3) (some (some 19, true)), VOp.mk (some 27) (Op.indexAddr 22 (Operand.tmp 24) (Operand.tmp 26)) (some (some 19, true)), VOp.mk (some 28) (Op.load 9
  (Operand.tmp 27)) (some (some 19, true)), VOp.mk (some 29) (Op.call (Call.mk (Callee.value (Operand.func 52)) #[Operand.tmp 23, Operand.tmp 28] #[9, 9])) (some (some 19, true)),
  VOp.mk (some 30) (Op.pick (Operand.tmp 19) (Operand.tmp 29) (Operand.const (Value.bool false))) none]).seq (VCode.cond (Operand.tmp 30) VCode.skip (VCode.exit 2))).seq
  ((VCode.block 3 (VCode.ops [VOp.mk (some 33) (Op.move (Operand.tmp 0)) none, VOp.mk (some 34) (Op.move (Operand.tmp 7)) none, VOp.mk (some 35) (Op.move (Operand.tmp 0)) none,
  VOp.mk (some 36) (Op.move (Operand.tmp 7)) none, VOp.mk (some 37) (Op.binOp BinOp.sub 3 (Operand.tmp 36) (Operand.const (Value.int IntKind.i64 1)) 3) none, VOp.mk (some 38)
  (Op.move (Operand.tmp 0)) none, VOp.mk (some 39) (Op.move (Operand.tmp 7)) none, VOp.mk (some 40) (Op.binOp BinOp.sub 3 (Operand.tmp 39) (Operand.const (Value.int IntKind.i64 1))
  3) none, VOp.mk (some 41) (Op.indexAddr 22 (Operand.tmp 38) (Operand.tmp 40)) none, VOp.mk (some 42) (Op.load 9 (Operand.tmp 41)) none, VOp.mk (some 43) (Op.move (Operand.tmp 0))
  none, VOp.mk (some 44) (Op.move (Operand.tmp 7)) none, VOp.mk (some 45) (Op.indexAddr 22 (Operand.tmp 43) (Operand.tmp 44)) none, VOp.mk (some 46) (Op.load 9 (Operand.tmp 45))
  none, VOp.mk (some 47) (Op.indexAddr 22 (Operand.tmp 33) (Operand.tmp 34)) none, VOp.mk none (Op.store 9 (Operand.tmp 47) (Operand.tmp 42)) none, VOp.mk (some 48) (Op.indexAddr 22
  (Operand.tmp 35) (Operand.tmp 37)) none, VOp.mk none (Op.store 9 (Operand.tmp 48) (Operand.tmp 46)) none])).seq (VCode.ops [VOp.mk (some 31) (Op.move (Operand.tmp 7)) none, VOp.mk
  (some 32) (Op.binOp BinOp.sub 3 (Operand.tmp 31) (Operand.const (Value.int IntKind.i64 1)) 3) none, VOp.mk (some 7) (Op.assign (Operand.tmp 32)) none]))).loop))).seq (VCode.ops
  [VOp.mk (some 13) (Op.move (Operand.tmp 6)) none, VOp.mk (some 14) (Op.binOp BinOp.add 3 (Operand.tmp 13) (Operand.const (Value.int IntKind.i64 1)) 3) none, VOp.mk (some 6)
  (Op.assign (Operand.tmp 14)) none]))).loop)
theorem fn46 : FnOk Tryz.prog 46 49 vc46 [] := ⟨Tryz.f46, _, [], Tryz.func46, rfl, rfl, rfl, by kernel_rfl, by kernel_rfl, by kernel_rfl⟩

/-- cmp.Less[string] -/
def vc52 : VCode := (VCode.ops [VOp.mk (some 4) (Op.assign (Operand.const (Value.bool false))) none]).seq ((VCode.ops [VOp.mk (some 5) (Op.move (Operand.tmp 0)) none, VOp.mk (some
  6) (Op.call (Call.mk (Callee.value (Operand.func 87)) #[Operand.tmp 5] #[9])) none, VOp.mk (some 7) (Op.move (Operand.tmp 6)) none, VOp.mk (some 8) (Op.move (Operand.tmp 1)) (some
  (some 7, true)), VOp.mk (some 9) (Op.call (Call.mk (Callee.value (Operand.func 87)) #[Operand.tmp 8] #[9])) (some (some 7, true)), VOp.mk (some 10) (Op.unOp UnOp.not 4
  (Operand.tmp 9)) (some (some 7, true)), VOp.mk (some 11) (Op.pick (Operand.tmp 7) (Operand.tmp 10) (Operand.const (Value.bool false))) none, VOp.mk (some 12) (Op.move (Operand.tmp
  11)) none, VOp.mk (some 13) (Op.move (Operand.tmp 0)) (some (some 12, false)), VOp.mk (some 14) (Op.move (Operand.tmp 1)) (some (some 12, false)), VOp.mk (some 15) (Op.binOp
  BinOp.lss 9 (Operand.tmp 13) (Operand.tmp 14) 9) (some (some 12, false)), VOp.mk (some 16) (Op.pick (Operand.tmp 12) (Operand.const (Value.bool true)) (Operand.tmp 15)) none,
  VOp.mk (some 4) (Op.assign (Operand.tmp 16)) none]).seq VCode.ret)
theorem fn52 : FnOk Tryz.prog 52 17 vc52 [ResultVar.tmp 4] := ⟨Tryz.f52, _, [], Tryz.func52, rfl, rfl, rfl, by kernel_rfl, by kernel_rfl, by kernel_rfl⟩

/-- math/bits.Len32 -/
def vc55 : VCode := (VCode.ops [VOp.mk (some 2) (Op.assign (Operand.const (Value.int IntKind.i64 0))) none]).seq (((VCode.ops [VOp.mk (some 3) (Op.move (Operand.tmp 0)) none, VOp.mk
  (some 4) (Op.binOp BinOp.geq 152 (Operand.tmp 3) (Operand.const (Value.int IntKind.u32 65536)) 152) none]).seq (VCode.cond (Operand.tmp 4) ((VCode.ops [VOp.mk (some 5) (Op.move
  (Operand.tmp 0)) none, VOp.mk (some 6) (Op.binOp BinOp.shr 152 (Operand.tmp 5) (Operand.const (Value.int IntKind.u64 16)) 128) none, VOp.mk (some 0) (Op.assign (Operand.tmp 6))
  none]).seq (VCode.ops [VOp.mk (some 2) (Op.assign (Operand.const (Value.int IntKind.i64 16))) none])) VCode.skip)).seq (((VCode.ops [VOp.mk (some 7) (Op.move (Operand.tmp 0))
  none, VOp.mk (some 8) (Op.binOp BinOp.geq 152 (Operand.tmp 7) (Operand.const (Value.int IntKind.u32 256)) 152) none]).seq (VCode.cond (Operand.tmp 8) ((VCode.ops [VOp.mk (some 9)
  (Op.move (Operand.tmp 0)) none, VOp.mk (some 10) (Op.binOp BinOp.shr 152 (Operand.tmp 9) (Operand.const (Value.int IntKind.u64 8)) 128) none, VOp.mk (some 0) (Op.assign
  (Operand.tmp 10)) none]).seq (VCode.ops [VOp.mk (some 11) (Op.move (Operand.tmp 2)) none, VOp.mk (some 12) (Op.binOp BinOp.add 3 (Operand.tmp 11) (Operand.const (Value.int
  IntKind.i64 8)) 3) none, VOp.mk (some 2) (Op.assign (Operand.tmp 12)) none])) VCode.skip)).seq ((VCode.ops [VOp.mk (some 13) (Op.move (Operand.tmp 2)) none, VOp.mk (some 14)
  (Op.move (Operand.tmp 0)) none, VOp.mk (some 15) (Op.convert 152 5 (Operand.tmp 14)) none, VOp.mk (some 16) (Op.index 9 (Operand.const (Value.string (ByteArray.mk (([0, 1, 2, 2,
  3, 3, 3, 3, 4, 4, 4, 4, 4, 4, 4, 4, 5, 5, 5, 5, 5, 5, 5, 5, 5, 5, 5, 5, 5, 5, 5, 5, 6, 6, 6, 6, 6, 6, 6, 6, 6, 6, 6, 6, 6, 6, 6, 6, 6, 6, 6, 6, 6, 6, 6, 6, 6, 6, 6, 6, 6, 6, 6,
  6].append [7, 7, 7, 7, 7, 7, 7, 7, 7, 7, 7, 7, 7, 7, 7, 7, 7, 7, 7, 7, 7, 7, 7, 7, 7, 7, 7, 7, 7, 7, 7, 7, 7, 7, 7, 7, 7, 7, 7, 7, 7, 7, 7, 7, 7, 7, 7, 7, 7, 7, 7, 7, 7, 7, 7, 7,
  7, 7, 7, 7, 7, 7, 7, 7]).append ([8, 8, 8, 8, 8, 8, 8, 8, 8, 8, 8, 8, 8, 8, 8, 8, 8, 8, 8, 8, 8, 8, 8, 8, 8, 8, 8, 8, 8, 8, 8, 8, 8, 8, 8, 8, 8, 8, 8, 8, 8, 8, 8, 8, 8, 8, 8, 8,
  8, 8, 8, 8, 8, 8, 8, 8, 8, 8, 8, 8, 8, 8, 8, 8].append [8, 8, 8, 8, 8, 8, 8, 8, 8, 8, 8, 8, 8, 8, 8, 8, 8, 8, 8, 8, 8, 8, 8, 8, 8, 8, 8, 8, 8, 8, 8, 8, 8, 8, 8, 8, 8, 8, 8, 8, 8,
  8, 8, 8, 8, 8, 8, 8, 8, 8, 8, 8, 8, 8, 8, 8, 8, 8, 8, 8, 8, 8, 8, 8])).toArray))) (Operand.tmp 15)) none, VOp.mk (some 17) (Op.convert 5 3 (Operand.tmp 16)) none, VOp.mk (some 18)
  (Op.binOp BinOp.add 3 (Operand.tmp 13) (Operand.tmp 17) 3) none, VOp.mk (some 2) (Op.assign (Operand.tmp 18)) none]).seq VCode.ret)))
theorem fn55 : FnOk Tryz.prog 55 19 vc55 [ResultVar.tmp 2] := ⟨Tryz.f55, _, [], Tryz.func55, rfl, rfl, rfl, by kernel_rfl, by kernel_rfl, by kernel_rfl⟩

/-- math/bits.Len64 -/
def vc56 : VCode := (VCode.ops [VOp.mk (some 2) (Op.assign (Operand.const (Value.int IntKind.i64 0))) none]).seq (((VCode.ops [VOp.mk (some 3) (Op.move (Operand.tmp 0)) none, VOp.mk
  (some 4) (Op.binOp BinOp.geq 154 (Operand.tmp 3) (Operand.const (Value.int IntKind.u64 4294967296)) 154) none]).seq (VCode.cond (Operand.tmp 4) ((VCode.ops [VOp.mk (some 5)
  (Op.move (Operand.tmp 0)) none, VOp.mk (some 6) (Op.binOp BinOp.shr 154 (Operand.tmp 5) (Operand.const (Value.int IntKind.u64 32)) 128) none, VOp.mk (some 0) (Op.assign
  (Operand.tmp 6)) none]).seq (VCode.ops [VOp.mk (some 2) (Op.assign (Operand.const (Value.int IntKind.i64 32))) none])) VCode.skip)).seq (((VCode.ops [VOp.mk (some 7) (Op.move
  (Operand.tmp 0)) none, VOp.mk (some 8) (Op.binOp BinOp.geq 154 (Operand.tmp 7) (Operand.const (Value.int IntKind.u64 65536)) 154) none]).seq (VCode.cond (Operand.tmp 8)
  ((VCode.ops [VOp.mk (some 9) (Op.move (Operand.tmp 0)) none, VOp.mk (some 10) (Op.binOp BinOp.shr 154 (Operand.tmp 9) (Operand.const (Value.int IntKind.u64 16)) 128) none, VOp.mk
  (some 0) (Op.assign (Operand.tmp 10)) none]).seq (VCode.ops [VOp.mk (some 11) (Op.move (Operand.tmp 2)) none, VOp.mk (some 12) (Op.binOp BinOp.add 3 (Operand.tmp 11)
  (Operand.const (Value.int IntKind.i64 16)) 3) none, VOp.mk (some 2) (Op.assign (Operand.tmp 12)) none])) VCode.skip)).seq (((VCode.ops [VOp.mk (some 13) (Op.move (Operand.tmp 0))
  none, VOp.mk (some 14) (Op.binOp BinOp.geq 154 (Operand.tmp 13) (Operand.const (Value.int IntKind.u64 256)) 154) none]).seq (VCode.cond (Operand.tmp 14) ((VCode.ops [VOp.mk (some
  15) (Op.move (Operand.tmp 0)) none, VOp.mk (some 16) (Op.binOp BinOp.shr 154 (Operand.tmp 15) (Operand.const (Value.int IntKind.u64 8)) 128) none, VOp.mk (some 0) (Op.assign
  (Operand.tmp 16)) none]).seq (VCode.ops [VOp.mk (some 17) (Op.move (Operand.tmp 2)) none, VOp.mk (some 18) (Op.binOp BinOp.add 3 (Operand.tmp 17) (Operand.const (Value.int
  IntKind.i64 8)) 3) none, VOp.mk (some 2) (Op.assign (Operand.tmp 18)) none])) VCode.skip)).seq ((VCode.ops [VOp.mk (some 19) (Op.move (Operand.tmp 2)) none, VOp.mk (some 20)
  (Op.move (Operand.tmp 0)) none, VOp.mk (some 21) (Op.convert 154 5 (Operand.tmp 20)) none, VOp.mk (some 22) (Op.index 9 (Operand.const (Value.string (ByteArray.mk (([0, 1, 2, 2,
  3, 3, 3, 3, 4, 4, 4, 4, 4, 4, 4, 4, 5, 5, 5, 5, 5, 5, 5, 5, 5, 5, 5, 5, 5, 5, 5, 5, 6, 6, 6, 6, 6, 6, 6, 6, 6, 6, 6, 6, 6, 6, 6, 6, 6, 6, 6, 6, 6, 6, 6, 6, 6, 6, 6, 6, 6, 6, 6,
  6].append [7, 7, 7, 7, 7, 7, 7, 7, 7, 7, 7, 7, 7, 7, 7, 7, 7, 7, 7, 7, 7, 7, 7, 7, 7, 7, 7, 7, 7, 7, 7, 7, 7, 7, 7, 7, 7, 7, 7, 7, 7, 7, 7, 7, 7, 7, 7, 7, 7, 7, 7, 7, 7, 7, 7, 7,
  7, 7, 7, 7, 7, 7, 7, 7]).append ([8, 8, 8, 8, 8, 8, 8, 8, 8, 8, 8, 8, 8, 8, 8, 8, 8, 8, 8, 8, 8, 8, 8, 8, 8, 8, 8, 8, 8, 8, 8, 8, 8, 8, 8, 8, 8, 8, 8, 8, 8, 8, 8, 8, 8, 8, 8, 8,
  8, 8, 8, 8, 8, 8, 8, 8, 8, 8, 8, 8, 8, 8, 8, 8].append [8, 8, 8, 8, 8, 8, 8, 8, 8, 8, 8, 8, 8, 8, 8, 8, 8, 8, 8, 8, 8, 8, 8, 8, 8, 8, 8, 8, 8, 8, 8, 8, 8, 8, 8, 8, 8, 8, 8, 8, 8,
  8, 8, 8, 8, 8, 8, 8, 8, 8, 8, 8, 8, 8, 8, 8, 8, 8, 8, 8, 8, 8, 8, 8])).toArray))) (Operand.tmp 21)) none, VOp.mk (some 23) (Op.convert 5 3 (Operand.tmp 22)) none, VOp.mk (some 24)
  (Op.binOp BinOp.add 3 (Operand.tmp 19) (Operand.tmp 23) 3) none, VOp.mk (some 2) (Op.assign (Operand.tmp 24)) none]).seq VCode.ret))))
theorem fn56 : FnOk Tryz.prog 56 25 vc56 [ResultVar.tmp 2] := ⟨Tryz.f56, _, [], Tryz.func56, rfl, rfl, rfl, by kernel_rfl, by kernel_rfl, by kernel_rfl⟩

/-- slices.IndexFunc[[]wafer/api.Pat,wafer/api.Pat] -/
def vc70 : VCode := (VCode.ops [VOp.mk (some 4) (Op.assign (Operand.const (Value.int IntKind.i64 0))) none]).seq (((VCode.ops [VOp.mk (some 6) (Op.move (Operand.tmp 0)) none, VOp.mk
  (some 7) (Op.call (Call.mk (Callee.builtin Builtin.len) #[Operand.tmp 6] #[23])) none, VOp.mk (some 8) (Op.move (Operand.const (Value.int IntKind.i64 0))) none]).seq (VCode.block
  0 ((VCode.ops [VOp.mk (some 9) (Op.binOp BinOp.lss 3 (Operand.tmp 8) (Operand.tmp 7) 3) none]).seq ((VCode.cond (Operand.tmp 9) VCode.skip (VCode.exit 0)).seq ((VCode.block 1
  ((VCode.ops [VOp.mk (some 10) (Op.move (Operand.tmp 8)) none, VOp.mk (some 5) (Op.assign (Operand.tmp 10)) none]).seq ((VCode.ops [VOp.mk (some 11) (Op.move (Operand.tmp 1)) none,
  VOp.mk (some 12) (Op.move (Operand.tmp 0)) none, VOp.mk (some 13) (Op.move (Operand.tmp 5)) none, VOp.mk (some 14) (Op.indexAddr 23 (Operand.tmp 12) (Operand.tmp 13)) none, VOp.mk
  (some 15) (Op.load 25 (Operand.tmp 14)) none, VOp.mk (some 16) (Op.call (Call.mk (Callee.value (Operand.tmp 11)) #[Operand.tmp 15] #[25])) none]).seq (VCode.cond (Operand.tmp 16)
  ((VCode.ops [VOp.mk (some 17) (Op.move (Operand.tmp 5)) none, VOp.mk (some 4) (Op.assign (Operand.tmp 17)) none]).seq VCode.ret) VCode.skip)))).seq (VCode.ops [VOp.mk (some 18)
  (Op.binOp BinOp.add 3 (Operand.tmp 8) (Operand.const (Value.int IntKind.i64 1)) 3) none, VOp.mk (some 8) (Op.move (Operand.tmp 18)) none])))).loop)).seq ((VCode.ops [VOp.mk (some
  4) (Op.assign (Operand.const (Value.int IntKind.i64 (-1)))) none]).seq VCode.ret))
theorem fn70 : FnOk Tryz.prog 70 19 vc70 [ResultVar.tmp 4] := ⟨Tryz.f70, _, [], Tryz.func70, rfl, rfl, rfl, by kernel_rfl, by kernel_rfl, by kernel_rfl⟩

/-- slices.Clone[[]wafer/unify.fact,wafer/unify.fact] -/
def vc71 : VCode := (VCode.ops [VOp.mk (some 2) (Op.assign (Operand.const (Value.slice none 0 0))) none]).seq (((VCode.ops [VOp.mk (some 3) (Op.move (Operand.tmp 0)) none, VOp.mk
  (some 4) (Op.binOp BinOp.eql 68 (Operand.tmp 3) (Operand.const (Value.slice none 0 0)) 68) none]).seq (VCode.cond (Operand.tmp 4) ((VCode.ops [VOp.mk (some 2) (Op.assign
  (Operand.const (Value.slice none 0 0))) none]).seq VCode.ret) VCode.skip)).seq ((VCode.ops [VOp.mk (some 5) (Op.buildSlice 68 0 #[]) none, VOp.mk (some 6) (Op.move (Operand.tmp
  0)) none, VOp.mk (some 7) (Op.call (Call.mk (Callee.builtin Builtin.append) #[Operand.tmp 5, Operand.tmp 6] #[68, 68])) none, VOp.mk (some 2) (Op.assign (Operand.tmp 7))
  none]).seq VCode.ret))
theorem fn71 : FnOk Tryz.prog 71 8 vc71 [ResultVar.tmp 2] := ⟨Tryz.f71, _, [], Tryz.func71, rfl, rfl, rfl, by kernel_rfl, by kernel_rfl, by kernel_rfl⟩

/-- (*wafer/unify.Store).reach -/
def vc72 : VCode := (VCode.ops [VOp.mk (some 4) (Op.box 42 (Operand.tmp 1)) none, VOp.mk (some 5) (Op.box 42 (Operand.tmp 2)) none, VOp.mk (some 6) (Op.assign (Operand.const
  (Value.int IntKind.i64 0))) none]).seq ((VCode.opsW [(0, VOp.mk (some 7) (Op.load 42 (Operand.tmp 4)) none), (3, VOp.mk (some 10) (Op.load 42 (Operand.tmp 5)) none), (1, VOp.mk
  (some 8) (Op.call (Call.mk (Callee.value (Operand.func 91)) #[Operand.tmp 7] #[42])) none), (2, VOp.mk (some 9) (Op.binOp BinOp.add 3 (Operand.const (Value.int IntKind.i64 1))
  (Operand.tmp 8) 3) none), (4, VOp.mk (some 11) (Op.call (Call.mk (Callee.value (Operand.func 91)) #[Operand.tmp 10] #[42])) none), (5, VOp.mk (some 12) (Op.binOp BinOp.add 3
  (Operand.tmp 9) (Operand.tmp 11) 3) none), (6, VOp.mk (some 13) (Op.binOp BinOp.mul 3 (Operand.const (Value.int IntKind.i64 4004)) (Operand.tmp 12) 3) none), (7, VOp.mk (some 6)
  (Op.assign (Operand.tmp 13)) none)] [(1, [3])]).seq VCode.ret)
theorem fn72 : FnOk Tryz.prog 72 14 vc72 [ResultVar.tmp 6] := ⟨Tryz.f72, _, [(1, [([0, 3, 1, 2, 4, 5, 6, 7], [(1, [3])])])], Tryz.func72, rfl, rfl, rfl, by kernel_rfl, by
  kernel_rfl, by kernel_rfl⟩

/-- (*wafer/unify.Store).join -/
def vc73 : VCode := (VCode.ops [VOp.mk (some 5) (Op.box 42 (Operand.tmp 1)) none, VOp.mk (some 6) (Op.box 42 (Operand.tmp 2)) none, VOp.mk (some 8) (Op.assign (Operand.const
  (Value.bool false))) none]).seq ((VCode.opsW [(0, VOp.mk (some 10) (Op.move (Operand.tmp 0)) none), (1, VOp.mk (some 11) (Op.load 42 (Operand.tmp 5)) none), (3, VOp.mk (some 13)
  (Op.move (Operand.tmp 0)) none), (4, VOp.mk (some 14) (Op.load 42 (Operand.tmp 6)) none), (2, VOp.mk (some 12) (Op.call (Call.mk (Callee.value (Operand.func 36)) #[Operand.tmp 10,
  Operand.tmp 11] #[38, 42])) none), (5, VOp.mk (some 15) (Op.call (Call.mk (Callee.value (Operand.func 36)) #[Operand.tmp 13, Operand.tmp 14] #[38, 42])) none), (6, VOp.mk none
  (Op.store 42 (Operand.tmp 5) (Operand.tmp 12)) none), (7, VOp.mk none (Op.store 42 (Operand.tmp 6) (Operand.tmp 15)) none)] [(2, [4])]).seq (((VCode.ops [VOp.mk (some 16) (Op.move
  (Operand.tmp 3)) none, VOp.mk (some 17) (Op.call (Call.mk (Callee.value (Operand.func 92)) #[Operand.tmp 16] #[179])) none, VOp.mk (some 18) (Op.unOp UnOp.not 4 (Operand.tmp 17))
  none]).seq (VCode.cond (Operand.tmp 18) ((VCode.ops [VOp.mk (some 8) (Op.assign (Operand.const (Value.bool false))) none]).seq VCode.ret) VCode.skip)).seq ((VCode.block 0
  ((VCode.ops [VOp.mk (some 20) (Op.move (Operand.tmp 0)) none, VOp.mk (some 21) (Op.load 42 (Operand.tmp 5)) none, VOp.mk (some 22) (Op.call (Call.mk (Callee.value (Operand.func
  74)) #[Operand.tmp 20, Operand.tmp 21] #[38, 42])) none, VOp.mk (some 23) (Op.move (Operand.tmp 22)) none, VOp.mk (some 24) (Op.move (Operand.tmp 0)) (some (some 23, true)),
  VOp.mk (some 25) (Op.load 42 (Operand.tmp 6)) (some (some 23, true)), VOp.mk (some 26) (Op.call (Call.mk (Callee.value (Operand.func 74)) #[Operand.tmp 24, Operand.tmp 25] #[38,
  42])) (some (some 23, true)), VOp.mk (some 27) (Op.pick (Operand.tmp 23) (Operand.tmp 26) (Operand.const (Value.bool false))) none, VOp.mk (some 28) (Op.move (Operand.tmp 27))
  none, VOp.mk (some 29) (Op.fieldAddr 42 (Operand.tmp 5) 1) (some (some 28, true)), VOp.mk (some 30) (Op.load 3 (Operand.tmp 29)) (some (some 28, true)), VOp.mk (some 31)
  (Op.fieldAddr 42 (Operand.tmp 6) 1) (some (some 28, true)), VOp.mk (some 32) (Op.load 3 (Operand.tmp 31)) (some (some 28, true)), VOp.mk (some 33) (Op.binOp BinOp.eql 3
  (Operand.tmp 30) (Operand.tmp 32) 3) (some (some 28, true)), VOp.mk (some 34) (Op.pick (Operand.tmp 28) (Operand.tmp 33) (Operand.const (Value.bool false))) none, VOp.mk (some 19)
  (Op.assign (Operand.tmp 34)) none]).seq (VCode.cond (Operand.tmp 19) ((VCode.ops [VOp.mk (some 8) (Op.assign (Operand.const (Value.bool true))) none]).seq VCode.ret) ((VCode.ops
  [VOp.mk (some 36) (Op.move (Operand.tmp 0)) none, VOp.mk (some 37) (Op.load 42 (Operand.tmp 5)) none, VOp.mk (some 38) (Op.call (Call.mk (Callee.value (Operand.func 74))
  #[Operand.tmp 36, Operand.tmp 37] #[38, 42])) none, VOp.mk (some 39) (Op.move (Operand.tmp 38)) none, VOp.mk (some 40) (Op.move (Operand.tmp 0)) (some (some 39, true)), VOp.mk
  (some 41) (Op.load 42 (Operand.tmp 6)) (some (some 39, true)), VOp.mk (some 42) (Op.call (Call.mk (Callee.value (Operand.func 74)) #[Operand.tmp 40, Operand.tmp 41] #[38, 42]))
  (some (some 39, true)), VOp.mk (some 43) (Op.unOp UnOp.not 4 (Operand.tmp 42)) (some (some 39, true)), VOp.mk (some 44) (Op.move (Operand.tmp 43)) (some (some 39, true)), VOp.mk
  (some 45) (Op.fieldAddr 42 (Operand.tmp 5) 1) (some (some 44, false)), VOp.mk (some 46) (Op.load 3 (Operand.tmp 45)) (some (some 44, false)), VOp.mk (some 47) (Op.fieldAddr 42
  (Operand.tmp 6) 1) (some (some 44, false)), VOp.mk (some 48) (Op.load 3 (Operand.tmp 47)) (some (some 44, false)), VOp.mk (some 49) (Op.binOp BinOp.gtr 3 (Operand.tmp 46)
  (Operand.tmp 48) 3) (some (some 44, false)), VOp.mk (some 50) (Op.pick (Operand.tmp 44) (Operand.const (Value.bool true)) (Operand.tmp 49)) (some (some 39, true)), VOp.mk (some
  51) (Op.pick (Operand.tmp 39) (Operand.tmp 50) (Operand.const (Value.bool false))) none, VOp.mk (some 35) (Op.assign (Operand.tmp 51)) none]).seq (VCode.cond (Operand.tmp 35)
  ((VCode.ops [VOp.mk (some 52) (Op.move (Operand.tmp 0)) none, VOp.mk (some 53) (Op.nilCheck (Operand.tmp 52)) none, VOp.mk (some 54) (Op.fieldAddr 70 (Operand.tmp 53) 0) none,
  VOp.mk (some 55) (Op.load 68 (Operand.tmp 54)) none, VOp.mk (some 56) (Op.fieldAddr 42 (Operand.tmp 5) 1) none, VOp.mk (some 57) (Op.load 3 (Operand.tmp 56)) none, VOp.mk (some
  58) (Op.load 42 (Operand.tmp 6)) none, VOp.mk (some 59) (Op.build 174 #[(0, Operand.const (Value.bool true)), (1, Operand.tmp 58)]) none, VOp.mk (some 60) (Op.indexAddr 68
  (Operand.tmp 55) (Operand.tmp 57)) none, VOp.mk none (Op.store 174 (Operand.tmp 60) (Operand.tmp 59)) none]).seq ((VCode.ops [VOp.mk (some 8) (Op.assign (Operand.const (Value.bool
  true))) none]).seq VCode.ret)) ((VCode.ops [VOp.mk (some 62) (Op.move (Operand.tmp 0)) none, VOp.mk (some 63) (Op.load 42 (Operand.tmp 6)) none, VOp.mk (some 64) (Op.call (Call.mk
  (Callee.value (Operand.func 74)) #[Operand.tmp 62, Operand.tmp 63] #[38, 42])) none, VOp.mk (some 61) (Op.assign (Operand.tmp 64)) none]).seq (VCode.cond (Operand.tmp 61)
  ((VCode.ops [VOp.mk (some 65) (Op.move (Operand.tmp 0)) none, VOp.mk (some 66) (Op.nilCheck (Operand.tmp 65)) none, VOp.mk (some 67) (Op.fieldAddr 70 (Operand.tmp 66) 0) none,
  VOp.mk (some 68) (Op.load 68 (Operand.tmp 67)) none, VOp.mk (some 69) (Op.fieldAddr 42 (Operand.tmp 6) 1) none, VOp.mk (some 70) (Op.load 3 (Operand.tmp 69)) none, VOp.mk (some
  71) (Op.load 42 (Operand.tmp 5)) none, VOp.mk (some 72) (Op.build 174 #[(0, Operand.const (Value.bool true)), (1, Operand.tmp 71)]) none, VOp.mk (some 73) (Op.indexAddr 68
  (Operand.tmp 68) (Operand.tmp 70)) none, VOp.mk none (Op.store 174 (Operand.tmp 73) (Operand.tmp 72)) none]).seq ((VCode.ops [VOp.mk (some 8) (Op.assign (Operand.const (Value.bool
  true))) none]).seq VCode.ret)) VCode.skip))))))).seq (((VCode.ops [VOp.mk (some 74) (Op.fieldAddr 42 (Operand.tmp 5) 0) none, VOp.mk (some 75) (Op.load 3 (Operand.tmp 74)) none,
  VOp.mk (some 76) (Op.fieldAddr 42 (Operand.tmp 6) 0) none, VOp.mk (some 77) (Op.load 3 (Operand.tmp 76)) none, VOp.mk (some 78) (Op.binOp BinOp.neq 3 (Operand.tmp 75) (Operand.tmp
  77) 3) none, VOp.mk (some 79) (Op.move (Operand.tmp 78)) none, VOp.mk (some 80) (Op.fieldAddr 42 (Operand.tmp 5) 1) (some (some 79, false)), VOp.mk (some 81) (Op.load 3
  (Operand.tmp 80)) (some (some 79, false)), VOp.mk (some 82) (Op.fieldAddr 42 (Operand.tmp 6) 1) (some (some 79, false)), VOp.mk (some 83) (Op.load 3 (Operand.tmp 82)) (some (some
  79, false)), VOp.mk (some 84) (Op.binOp BinOp.neq 3 (Operand.tmp 81) (Operand.tmp 83) 3) (some (some 79, false)), VOp.mk (some 85) (Op.pick (Operand.tmp 79) (Operand.const
  (Value.bool true)) (Operand.tmp 84)) none, VOp.mk (some 86) (Op.move (Operand.tmp 85)) none, VOp.mk (some 87) (Op.fieldAddr 42 (Operand.tmp 5) 2) (some (some 86, false)), VOp.mk
  (some 88) (Op.load 40 (Operand.tmp 87)) (some (some 86, false)), VOp.mk (some 89) (Op.call (Call.mk (Callee.builtin Builtin.len) #[Operand.tmp 88] #[40])) (some (some 86, false)),
  VOp.mk (some 90) (Op.fieldAddr 42 (Operand.tmp 6) 2) (some (some 86, false)), VOp.mk (some 91) (Op.load 40 (Operand.tmp 90)) (some (some 86, false)), VOp.mk (some 92) (Op.call
  (Call.mk (Callee.builtin Builtin.len) #[Operand.tmp 91] #[40])) (some (some 86, false)), VOp.mk (some 93) (Op.binOp BinOp.neq 3 (Operand.tmp 89) (Operand.tmp 92) 3) (some (some
  86, false)), VOp.mk (some 94) (Op.pick (Operand.tmp 86) (Operand.const (Value.bool true)) (Operand.tmp 93)) none]).seq (VCode.cond (Operand.tmp 94) ((VCode.ops [VOp.mk (some 8)
  (Op.assign (Operand.const (Value.bool false))) none]).seq VCode.ret) VCode.skip)).seq (((VCode.ops [VOp.mk (some 95) (Op.fieldAddr 42 (Operand.tmp 5) 2) none, VOp.mk (some 96)
  (Op.load 40 (Operand.tmp 95)) none, VOp.mk (some 97) (Op.call (Call.mk (Callee.builtin Builtin.len) #[Operand.tmp 96] #[40])) none, VOp.mk (some 98) (Op.move (Operand.const
  (Value.int IntKind.i64 0))) none]).seq (VCode.block 1 ((VCode.ops [VOp.mk (some 99) (Op.binOp BinOp.lss 3 (Operand.tmp 98) (Operand.tmp 97) 3) none]).seq ((VCode.cond (Operand.tmp
  99) VCode.skip (VCode.exit 1)).seq ((VCode.block 2 ((VCode.ops [VOp.mk (some 100) (Op.move (Operand.tmp 98)) none, VOp.mk (some 9) (Op.assign (Operand.tmp 100)) none]).seq
  ((VCode.ops [VOp.mk (some 101) (Op.move (Operand.tmp 0)) none, VOp.mk (some 102) (Op.fieldAddr 42 (Operand.tmp 5) 2) none, VOp.mk (some 103) (Op.load 40 (Operand.tmp 102)) none,
  VOp.mk (some 104) (Op.move (Operand.tmp 9)) none, VOp.mk (some 105) (Op.indexAddr 40 (Operand.tmp 103) (Operand.tmp 104)) none, VOp.mk (some 106) (Op.load 42 (Operand.tmp 105))
  none, VOp.mk (some 107) (Op.fieldAddr 42 (Operand.tmp 6) 2) none, VOp.mk (some 108) (Op.load 40 (Operand.tmp 107)) none, VOp.mk (some 109) (Op.move (Operand.tmp 9)) none, VOp.mk
  (some 110) (Op.indexAddr 40 (Operand.tmp 108) (Operand.tmp 109)) none, VOp.mk (some 111) (Op.load 42 (Operand.tmp 110)) none, VOp.mk (some 112) (Op.move (Operand.tmp 3)) none,
  VOp.mk (some 113) (Op.call (Call.mk (Callee.value (Operand.func 73)) #[Operand.tmp 101, Operand.tmp 106, Operand.tmp 111, Operand.tmp 112] #[38, 42, 42, 179])) none, VOp.mk (some
  114) (Op.unOp UnOp.not 4 (Operand.tmp 113)) none]).seq (VCode.cond (Operand.tmp 114) ((VCode.ops [VOp.mk (some 8) (Op.assign (Operand.const (Value.bool false))) none]).seq
  VCode.ret) VCode.skip)))).seq (VCode.ops [VOp.mk (some 115) (Op.binOp BinOp.add 3 (Operand.tmp 98) (Operand.const (Value.int IntKind.i64 1)) 3) none, VOp.mk (some 98) (Op.move
  (Operand.tmp 115)) none])))).loop)).seq ((VCode.ops [VOp.mk (some 8) (Op.assign (Operand.const (Value.bool true))) none]).seq VCode.ret))))))
theorem fn73 : FnOk Tryz.prog 73 116 vc73 [ResultVar.tmp 8] := ⟨Tryz.f73, _, [(1, [([0, 1, 3, 4, 2, 5, 6, 7], [(2, [4])])])], Tryz.func73, rfl, rfl, rfl, by kernel_rfl, by
  kernel_rfl, by kernel_rfl⟩

/-- (*wafer/unify.Store).own -/
def vc74 : VCode := (VCode.ops [VOp.mk (some 3) (Op.box 42 (Operand.tmp 1)) none, VOp.mk (some 4) (Op.assign (Operand.const (Value.bool false))) none]).seq ((VCode.ops [VOp.mk (some
  5) (Op.fieldAddr 42 (Operand.tmp 3) 0) none, VOp.mk (some 6) (Op.load 3 (Operand.tmp 5)) none, VOp.mk (some 7) (Op.binOp BinOp.eql 3 (Operand.tmp 6) (Operand.const (Value.int
  IntKind.i64 7)) 3) none, VOp.mk (some 8) (Op.move (Operand.tmp 7)) none, VOp.mk (some 9) (Op.fieldAddr 42 (Operand.tmp 3) 1) (some (some 8, true)), VOp.mk (some 10) (Op.load 3
  (Operand.tmp 9)) (some (some 8, true)), VOp.mk (some 11) (Op.binOp BinOp.geq 3 (Operand.tmp 10) (Operand.const (Value.int IntKind.i64 0)) 3) (some (some 8, true)), VOp.mk (some
  12) (Op.pick (Operand.tmp 8) (Operand.tmp 11) (Operand.const (Value.bool false))) none, VOp.mk (some 13) (Op.move (Operand.tmp 12)) none, VOp.mk (some 14) (Op.fieldAddr 42
  (Operand.tmp 3) 1) (some (some 13, true)), VOp.mk (some 15) (Op.load 3 (Operand.tmp 14)) (some (some 13, true)), VOp.mk (some 16) (Op.move (Operand.tmp 0)) (some (some 13, true)),
  VOp.mk (some 17) (Op.nilCheck (Operand.tmp 16)) (some (some 13, true)), VOp.mk (some 18) (Op.fieldAddr 70 (Operand.tmp 17) 0) (some (some 13, true)), VOp.mk (some 19) (Op.load 68
  (Operand.tmp 18)) (some (some 13, true)), VOp.mk (some 20) (Op.call (Call.mk (Callee.builtin Builtin.len) #[Operand.tmp 19] #[68])) (some (some 13, true)), VOp.mk (some 21)
  (Op.binOp BinOp.lss 3 (Operand.tmp 15) (Operand.tmp 20) 3) (some (some 13, true)), VOp.mk (some 22) (Op.pick (Operand.tmp 13) (Operand.tmp 21) (Operand.const (Value.bool false)))
  none, VOp.mk (some 23) (Op.move (Operand.tmp 22)) none, VOp.mk (some 24) (Op.fieldAddr 42 (Operand.tmp 3) 2) (some (some 23, true)), VOp.mk (some 25) (Op.load 40 (Operand.tmp 24))
  (some (some 23, true)), VOp.mk (some 26) (Op.call (Call.mk (Callee.builtin Builtin.len) #[Operand.tmp 25] #[40])) (some (some 23, true)), VOp.mk (some 27) (Op.binOp BinOp.eql 3
  (Operand.tmp 26) (Operand.const (Value.int IntKind.i64 0)) 3) (some (some 23, true)), VOp.mk (some 28) (Op.pick (Operand.tmp 23) (Operand.tmp 27) (Operand.const (Value.bool
  false))) none, VOp.mk (some 4) (Op.assign (Operand.tmp 28)) none]).seq VCode.ret)
theorem fn74 : FnOk Tryz.prog 74 29 vc74 [ResultVar.tmp 4] := ⟨Tryz.f74, _, [], Tryz.func74, rfl, rfl, rfl, by kernel_rfl, by kernel_rfl, by kernel_rfl⟩

/-- wafer/tree.caught$1 -/
def vc75 : VCode := (VCode.ops [VOp.mk (some 4) (Op.call (Call.mk (Callee.builtin Builtin.recover) #[] #[])) none, VOp.mk (some 1) (Op.assign (Operand.tmp 4)) none]).seq ((VCode.ops
  [VOp.mk (some 5) (Op.move (Operand.tmp 1)) none, VOp.mk (some 6) (Op.binOp BinOp.neq 20 (Operand.tmp 5) (Operand.const Value.nilIface) 20) none]).seq (VCode.cond (Operand.tmp 6)
  ((VCode.ops [VOp.mk (some 8) (Op.move (Operand.tmp 1)) none, VOp.mk (some 9) (Op.typeAssert (Operand.tmp 8) 20 181 true) none, VOp.mk (some 7) (Op.move (Operand.tmp 9)) none,
  VOp.mk (some 10) (Op.extract (Operand.tmp 7) 0) none, VOp.mk (some 11) (Op.extract (Operand.tmp 7) 1) none, VOp.mk (some 2) (Op.assign (Operand.tmp 10)) none, VOp.mk (some 3)
  (Op.assign (Operand.tmp 11)) none]).seq (((VCode.ops [VOp.mk (some 12) (Op.move (Operand.tmp 3)) none, VOp.mk (some 13) (Op.unOp UnOp.not 4 (Operand.tmp 12)) none]).seq
  (VCode.cond (Operand.tmp 13) (VCode.ops [VOp.mk (some 14) (Op.move (Operand.tmp 1)) none, VOp.mk none (Op.panic (Operand.tmp 14)) none]) VCode.skip)).seq (VCode.ops [VOp.mk (some
  15) (Op.move (Operand.tmp 2)) none, VOp.mk none (Op.store 44 (Operand.tmp 0) (Operand.tmp 15)) none]))) VCode.skip))
theorem fn75 : FnOk Tryz.prog 75 16 vc75 [] := ⟨Tryz.f75, _, [], Tryz.func75, rfl, rfl, rfl, by kernel_rfl, by kernel_rfl, by kernel_rfl⟩

/-- (*wafer/tree.walker).within$1 -/
def vc76 : VCode := VCode.ops [VOp.mk (some 1) (Op.load 121 (Operand.tmp 0)) none, VOp.mk (some 2) (Op.nilCheck (Operand.tmp 1)) none, VOp.mk (some 3) (Op.fieldAddr 123 (Operand.tmp
  2) 1) none, VOp.mk (some 4) (Op.load 3 (Operand.tmp 3)) none, VOp.mk (some 5) (Op.binOp BinOp.sub 3 (Operand.tmp 4) (Operand.const (Value.int IntKind.i64 1)) 3) none, VOp.mk (some
  6) (Op.nilCheck (Operand.tmp 1)) none, VOp.mk (some 7) (Op.fieldAddr 123 (Operand.tmp 6) 1) none, VOp.mk none (Op.store 3 (Operand.tmp 7) (Operand.tmp 5)) none]
theorem fn76 : FnOk Tryz.prog 76 8 vc76 [] := ⟨Tryz.f76, _, [], Tryz.func76, rfl, rfl, rfl, by kernel_rfl, by kernel_rfl, by kernel_rfl⟩

/-- wafer/tree.must -/
def vc77 : VCode := (VCode.ops [VOp.mk (some 2) (Op.move (Operand.tmp 0)) none, VOp.mk (some 3) (Op.binOp BinOp.neq 44 (Operand.tmp 2) (Operand.const (Value.int IntKind.i64 0)) 44)
  none]).seq (VCode.cond (Operand.tmp 3) (VCode.ops [VOp.mk (some 4) (Op.move (Operand.tmp 0)) none, VOp.mk (some 5) (Op.makeInterface 181 (Operand.tmp 4)) none, VOp.mk none
  (Op.panic (Operand.tmp 5)) none]) VCode.skip)
theorem fn77 : FnOk Tryz.prog 77 6 vc77 [] := ⟨Tryz.f77, _, [], Tryz.func77, rfl, rfl, rfl, by kernel_rfl, by kernel_rfl, by kernel_rfl⟩

/-- wafer/names.Right -/
def vc78 : VCode := (VCode.ops [VOp.mk (some 2) (Op.assign (Operand.const (Value.int IntKind.i64 0))) none]).seq (((VCode.ops [VOp.mk (some 5) (Op.move (Operand.tmp 0)) none, VOp.mk
  (some 6) (Op.binOp BinOp.eql 9 (Operand.tmp 5) (Operand.const (Value.string (ByteArray.mk #[]))) 9) none, VOp.mk (some 7) (Op.move (Operand.tmp 6)) none, VOp.mk (some 8) (Op.move
  (Operand.tmp 0)) (some (some 7, false)), VOp.mk (some 9) (Op.index 9 (Operand.tmp 8) (Operand.const (Value.int IntKind.i64 0))) (some (some 7, false)), VOp.mk (some 10) (Op.call
  (Call.mk (Callee.value (Operand.func 93)) #[Operand.tmp 9] #[5])) (some (some 7, false)), VOp.mk (some 11) (Op.unOp UnOp.not 4 (Operand.tmp 10)) (some (some 7, false)), VOp.mk
  (some 12) (Op.move (Operand.tmp 11)) (some (some 7, false)), VOp.mk (some 13) (Op.move (Operand.tmp 0)) (some (some 12, true)), VOp.mk (some 14) (Op.index 9 (Operand.tmp 13)
  (Operand.const (Value.int IntKind.i64 0))) (some (some 12, true)), VOp.mk (some 15) (Op.call (Call.mk (Callee.value (Operand.func 94)) #[Operand.tmp 14] #[5])) (some (some 12,
  true)), VOp.mk (some 16) (Op.unOp UnOp.not 4 (Operand.tmp 15)) (some (some 12, true)), VOp.mk (some 17) (Op.pick (Operand.tmp 12) (Operand.tmp 16) (Operand.const (Value.bool
  false))) (some (some 7, false)), VOp.mk (some 18) (Op.pick (Operand.tmp 7) (Operand.const (Value.bool true)) (Operand.tmp 17)) none]).seq (VCode.cond (Operand.tmp 18) ((VCode.ops
  [VOp.mk (some 2) (Op.assign (Operand.const (Value.int IntKind.i64 12))) none]).seq VCode.ret) VCode.skip)).seq (((VCode.ops [VOp.mk (some 19) (Op.move (Operand.tmp 0)) none,
  VOp.mk (some 20) (Op.call (Call.mk (Callee.builtin Builtin.len) #[Operand.tmp 19] #[9])) none, VOp.mk (some 21) (Op.move (Operand.const (Value.int IntKind.i64 0))) none]).seq
  (VCode.block 0 ((VCode.ops [VOp.mk (some 22) (Op.binOp BinOp.lss 3 (Operand.tmp 21) (Operand.tmp 20) 3) none]).seq ((VCode.cond (Operand.tmp 22) VCode.skip (VCode.exit 0)).seq
  ((VCode.block 1 ((VCode.ops [VOp.mk (some 23) (Op.move (Operand.tmp 21)) none, VOp.mk (some 3) (Op.assign (Operand.tmp 23)) none]).seq ((VCode.ops [VOp.mk (some 24) (Op.move
  (Operand.tmp 0)) none, VOp.mk (some 25) (Op.move (Operand.tmp 3)) none, VOp.mk (some 26) (Op.index 9 (Operand.tmp 24) (Operand.tmp 25)) none, VOp.mk (some 4) (Op.assign
  (Operand.tmp 26)) none]).seq ((VCode.ops [VOp.mk (some 27) (Op.move (Operand.tmp 4)) none, VOp.mk (some 28) (Op.call (Call.mk (Callee.value (Operand.func 93)) #[Operand.tmp 27]
  #[5])) none, VOp.mk (some 29) (Op.unOp UnOp.not 4 (Operand.tmp 28)) none, VOp.mk (some 30) (Op.move (Operand.tmp 29)) none, VOp.mk (some 31) (Op.move (Operand.tmp 4)) (some (some
  30, true)), VOp.mk (some 32) (Op.call (Call.mk (Callee.value (Operand.func 94)) #[Operand.tmp 31] #[5])) (some (some 30, true)), VOp.mk (some 33) (Op.unOp UnOp.not 4 (Operand.tmp
  32)) (some (some 30, true)), VOp.mk (some 34) (Op.pick (Operand.tmp 30) (Operand.tmp 33) (Operand.const (Value.bool false))) none, VOp.mk (some 35) (Op.move (Operand.tmp 34))
  none, VOp.mk (some 36) (Op.move (Operand.tmp 4)) (some (some 35, true)), VOp.mk (some 37) (Op.call (Call.mk (Callee.value (Operand.func 95)) #[Operand.tmp 36] #[5])) (some (some
  35, true)), VOp.mk (some 38) (Op.unOp UnOp.not 4 (Operand.tmp 37)) (some (some 35, true)), VOp.mk (some 39) (Op.pick (Operand.tmp 35) (Operand.tmp 38) (Operand.const (Value.bool
  false))) none, VOp.mk (some 40) (Op.move (Operand.tmp 39)) none, VOp.mk (some 41) (Op.move (Operand.tmp 4)) (some (some 40, true)), VOp.mk (some 42) (Op.binOp BinOp.neq 5
  (Operand.tmp 41) (Operand.const (Value.int IntKind.u8 95)) 5) (some (some 40, true)), VOp.mk (some 43) (Op.pick (Operand.tmp 40) (Operand.tmp 42) (Operand.const (Value.bool
  false))) none]).seq (VCode.cond (Operand.tmp 43) ((VCode.ops [VOp.mk (some 2) (Op.assign (Operand.const (Value.int IntKind.i64 12))) none]).seq VCode.ret) VCode.skip))))).seq
  (VCode.ops [VOp.mk (some 44) (Op.binOp BinOp.add 3 (Operand.tmp 21) (Operand.const (Value.int IntKind.i64 1)) 3) none, VOp.mk (some 21) (Op.move (Operand.tmp 44))
  none])))).loop)).seq ((VCode.block 2 ((VCode.ops [VOp.mk (some 46) (Op.move (Operand.tmp 0)) none, VOp.mk (some 47) (Op.call (Call.mk (Callee.builtin Builtin.len) #[Operand.tmp
  46] #[9])) none, VOp.mk (some 48) (Op.binOp BinOp.gtr 3 (Operand.tmp 47) (Operand.const (Value.int IntKind.i64 32)) 3) none, VOp.mk (some 45) (Op.assign (Operand.tmp 48))
  none]).seq (VCode.cond (Operand.tmp 45) ((VCode.ops [VOp.mk (some 2) (Op.assign (Operand.const (Value.int IntKind.i64 3))) none]).seq VCode.ret) ((VCode.ops [VOp.mk (some 50)
  (Op.move (Operand.tmp 0)) none, VOp.mk (some 51) (Op.call (Call.mk (Callee.value (Operand.func 96)) #[Operand.tmp 50] #[9])) none, VOp.mk (some 49) (Op.assign (Operand.tmp 51))
  none]).seq (VCode.cond (Operand.tmp 49) ((VCode.ops [VOp.mk (some 2) (Op.assign (Operand.const (Value.int IntKind.i64 12))) none]).seq VCode.ret) VCode.skip))))).seq ((VCode.ops
  [VOp.mk (some 2) (Op.assign (Operand.const (Value.int IntKind.i64 0))) none]).seq VCode.ret))))
theorem fn78 : FnOk Tryz.prog 78 52 vc78 [ResultVar.tmp 2] := ⟨Tryz.f78, _, [], Tryz.func78, rfl, rfl, rfl, by kernel_rfl, by kernel_rfl, by kernel_rfl⟩

/-- wafer/names.Lower -/
def vc79 : VCode := (VCode.ops [VOp.mk (some 2) (Op.assign (Operand.const (Value.bool false))) none]).seq ((VCode.ops [VOp.mk (some 3) (Op.move (Operand.tmp 0)) none, VOp.mk (some
  4) (Op.call (Call.mk (Callee.value (Operand.func 78)) #[Operand.tmp 3] #[9])) none, VOp.mk (some 5) (Op.binOp BinOp.eql 44 (Operand.tmp 4) (Operand.const (Value.int IntKind.i64
  0)) 44) none, VOp.mk (some 6) (Op.move (Operand.tmp 5)) none, VOp.mk (some 7) (Op.move (Operand.tmp 0)) (some (some 6, true)), VOp.mk (some 8) (Op.index 9 (Operand.tmp 7)
  (Operand.const (Value.int IntKind.i64 0))) (some (some 6, true)), VOp.mk (some 9) (Op.call (Call.mk (Callee.value (Operand.func 93)) #[Operand.tmp 8] #[5])) (some (some 6, true)),
  VOp.mk (some 10) (Op.pick (Operand.tmp 6) (Operand.tmp 9) (Operand.const (Value.bool false))) none, VOp.mk (some 2) (Op.assign (Operand.tmp 10)) none]).seq VCode.ret)
theorem fn79 : FnOk Tryz.prog 79 11 vc79 [ResultVar.tmp 2] := ⟨Tryz.f79, _, [], Tryz.func79, rfl, rfl, rfl, by kernel_rfl, by kernel_rfl, by kernel_rfl⟩

/-- cmp.isNaN[string] -/
def vc87 : VCode := (VCode.ops [VOp.mk (some 2) (Op.assign (Operand.const (Value.bool false))) none]).seq ((VCode.ops [VOp.mk (some 3) (Op.move (Operand.tmp 0)) none, VOp.mk (some
  4) (Op.move (Operand.tmp 0)) none, VOp.mk (some 5) (Op.binOp BinOp.neq 9 (Operand.tmp 3) (Operand.tmp 4) 9) none, VOp.mk (some 2) (Op.assign (Operand.tmp 5)) none]).seq VCode.ret)
theorem fn87 : FnOk Tryz.prog 87 6 vc87 [ResultVar.tmp 2] := ⟨Tryz.f87, _, [], Tryz.func87, rfl, rfl, rfl, by kernel_rfl, by kernel_rfl, by kernel_rfl⟩

/-- wafer/unify.count -/
def vc91 : VCode := (VCode.ops [VOp.mk (some 1) (Op.box 42 (Operand.tmp 0)) none, VOp.mk (some 2) (Op.assign (Operand.const (Value.int IntKind.i64 0))) none]).seq ((VCode.ops
  [VOp.mk (some 3) (Op.assign (Operand.const (Value.int IntKind.i64 1))) none]).seq (((VCode.ops [VOp.mk (some 6) (Op.fieldAddr 42 (Operand.tmp 1) 2) none, VOp.mk (some 7) (Op.load
  40 (Operand.tmp 6)) none, VOp.mk (some 8) (Op.call (Call.mk (Callee.builtin Builtin.len) #[Operand.tmp 7] #[40])) none, VOp.mk (some 9) (Op.move (Operand.const (Value.int
  IntKind.i64 0))) none]).seq (VCode.block 0 ((VCode.ops [VOp.mk (some 10) (Op.binOp BinOp.lss 3 (Operand.tmp 9) (Operand.tmp 8) 3) none]).seq ((VCode.cond (Operand.tmp 10)
  VCode.skip (VCode.exit 0)).seq ((VCode.block 1 ((VCode.ops [VOp.mk (some 11) (Op.indexAddr 40 (Operand.tmp 7) (Operand.tmp 9)) none, VOp.mk (some 12) (Op.load 42 (Operand.tmp 11))
  none, VOp.mk (some 5) (Op.alloc 42) none, VOp.mk none (Op.store 42 (Operand.tmp 5) (Operand.tmp 12)) none]).seq (VCode.ops [VOp.mk (some 13) (Op.move (Operand.tmp 3)) none, VOp.mk
  (some 14) (Op.load 42 (Operand.tmp 5)) none, VOp.mk (some 15) (Op.call (Call.mk (Callee.value (Operand.func 91)) #[Operand.tmp 14] #[42])) none, VOp.mk (some 16) (Op.binOp
  BinOp.add 3 (Operand.tmp 13) (Operand.tmp 15) 3) none, VOp.mk (some 3) (Op.assign (Operand.tmp 16)) none]))).seq (VCode.ops [VOp.mk (some 17) (Op.binOp BinOp.add 3 (Operand.tmp 9)
  (Operand.const (Value.int IntKind.i64 1)) 3) none, VOp.mk (some 9) (Op.move (Operand.tmp 17)) none])))).loop)).seq ((VCode.ops [VOp.mk (some 18) (Op.move (Operand.tmp 3)) none,
  VOp.mk (some 2) (Op.assign (Operand.tmp 18)) none]).seq VCode.ret)))
theorem fn91 : FnOk Tryz.prog 91 19 vc91 [ResultVar.tmp 2] := ⟨Tryz.f91, _, [], Tryz.func91, rfl, rfl, rfl, by kernel_rfl, by kernel_rfl, by kernel_rfl⟩

/-- (*wafer/unify.budget).spend -/
def vc92 : VCode := (VCode.ops [VOp.mk (some 2) (Op.assign (Operand.const (Value.bool false))) none]).seq ((VCode.ops [VOp.mk (some 3) (Op.move (Operand.tmp 0)) none, VOp.mk (some
  4) (Op.nilCheck (Operand.tmp 3)) none, VOp.mk (some 5) (Op.load 176 (Operand.tmp 4)) none, VOp.mk (some 6) (Op.binOp BinOp.sub 176 (Operand.tmp 5) (Operand.const (Value.int
  IntKind.i64 1)) 176) none, VOp.mk (some 7) (Op.nilCheck (Operand.tmp 3)) none, VOp.mk none (Op.store 176 (Operand.tmp 7) (Operand.tmp 6)) none]).seq ((VCode.ops [VOp.mk (some 8)
  (Op.move (Operand.tmp 0)) none, VOp.mk (some 9) (Op.nilCheck (Operand.tmp 8)) none, VOp.mk (some 10) (Op.load 176 (Operand.tmp 9)) none, VOp.mk (some 11) (Op.binOp BinOp.geq 176
  (Operand.tmp 10) (Operand.const (Value.int IntKind.i64 0)) 176) none, VOp.mk (some 2) (Op.assign (Operand.tmp 11)) none]).seq VCode.ret))
theorem fn92 : FnOk Tryz.prog 92 12 vc92 [ResultVar.tmp 2] := ⟨Tryz.f92, _, [], Tryz.func92, rfl, rfl, rfl, by kernel_rfl, by kernel_rfl, by kernel_rfl⟩

/-- wafer/names.low -/
def vc93 : VCode := (VCode.ops [VOp.mk (some 2) (Op.assign (Operand.const (Value.bool false))) none]).seq ((VCode.ops [VOp.mk (some 3) (Op.move (Operand.tmp 0)) none, VOp.mk (some
  4) (Op.binOp BinOp.geq 5 (Operand.tmp 3) (Operand.const (Value.int IntKind.u8 97)) 5) none, VOp.mk (some 5) (Op.move (Operand.tmp 4)) none, VOp.mk (some 6) (Op.move (Operand.tmp
  0)) (some (some 5, true)), VOp.mk (some 7) (Op.binOp BinOp.leq 5 (Operand.tmp 6) (Operand.const (Value.int IntKind.u8 122)) 5) (some (some 5, true)), VOp.mk (some 8) (Op.pick
  (Operand.tmp 5) (Operand.tmp 7) (Operand.const (Value.bool false))) none, VOp.mk (some 2) (Op.assign (Operand.tmp 8)) none]).seq VCode.ret)
theorem fn93 : FnOk Tryz.prog 93 9 vc93 [ResultVar.tmp 2] := ⟨Tryz.f93, _, [], Tryz.func93, rfl, rfl, rfl, by kernel_rfl, by kernel_rfl, by kernel_rfl⟩

/-- wafer/names.high -/
def vc94 : VCode := (VCode.ops [VOp.mk (some 2) (Op.assign (Operand.const (Value.bool false))) none]).seq ((VCode.ops [VOp.mk (some 3) (Op.move (Operand.tmp 0)) none, VOp.mk (some
  4) (Op.binOp BinOp.geq 5 (Operand.tmp 3) (Operand.const (Value.int IntKind.u8 65)) 5) none, VOp.mk (some 5) (Op.move (Operand.tmp 4)) none, VOp.mk (some 6) (Op.move (Operand.tmp
  0)) (some (some 5, true)), VOp.mk (some 7) (Op.binOp BinOp.leq 5 (Operand.tmp 6) (Operand.const (Value.int IntKind.u8 90)) 5) (some (some 5, true)), VOp.mk (some 8) (Op.pick
  (Operand.tmp 5) (Operand.tmp 7) (Operand.const (Value.bool false))) none, VOp.mk (some 2) (Op.assign (Operand.tmp 8)) none]).seq VCode.ret)
theorem fn94 : FnOk Tryz.prog 94 9 vc94 [ResultVar.tmp 2] := ⟨Tryz.f94, _, [], Tryz.func94, rfl, rfl, rfl, by kernel_rfl, by kernel_rfl, by kernel_rfl⟩

/-- wafer/names.digit -/
def vc95 : VCode := (VCode.ops [VOp.mk (some 2) (Op.assign (Operand.const (Value.bool false))) none]).seq ((VCode.ops [VOp.mk (some 3) (Op.move (Operand.tmp 0)) none, VOp.mk (some
  4) (Op.binOp BinOp.geq 5 (Operand.tmp 3) (Operand.const (Value.int IntKind.u8 48)) 5) none, VOp.mk (some 5) (Op.move (Operand.tmp 4)) none, VOp.mk (some 6) (Op.move (Operand.tmp
  0)) (some (some 5, true)), VOp.mk (some 7) (Op.binOp BinOp.leq 5 (Operand.tmp 6) (Operand.const (Value.int IntKind.u8 57)) 5) (some (some 5, true)), VOp.mk (some 8) (Op.pick
  (Operand.tmp 5) (Operand.tmp 7) (Operand.const (Value.bool false))) none, VOp.mk (some 2) (Op.assign (Operand.tmp 8)) none]).seq VCode.ret)
theorem fn95 : FnOk Tryz.prog 95 9 vc95 [ResultVar.tmp 2] := ⟨Tryz.f95, _, [], Tryz.func95, rfl, rfl, rfl, by kernel_rfl, by kernel_rfl, by kernel_rfl⟩

/-- wafer/names.Reserved -/
def vc96 : VCode := (VCode.ops [VOp.mk (some 2) (Op.assign (Operand.const (Value.bool false))) none]).seq (((VCode.ops [VOp.mk (some 3) (Op.move (Operand.tmp 0)) none]).seq
  (VCode.block 0 (((VCode.ops [VOp.mk (some 5) (Op.binOp BinOp.eql 9 (Operand.tmp 3) (Operand.const (Value.string (ByteArray.mk #[98, 111, 111, 108]))) 9) none, VOp.mk (some 4)
  (Op.assign (Operand.tmp 5)) none]).seq (VCode.cond (Operand.tmp 4) VCode.skip ((VCode.ops [VOp.mk (some 6) (Op.binOp BinOp.eql 9 (Operand.tmp 3) (Operand.const (Value.string
  (ByteArray.mk #[99, 97, 115, 101]))) 9) none, VOp.mk (some 4) (Op.assign (Operand.tmp 6)) none]).seq (VCode.cond (Operand.tmp 4) VCode.skip ((VCode.ops [VOp.mk (some 7) (Op.binOp
  BinOp.eql 9 (Operand.tmp 3) (Operand.const (Value.string (ByteArray.mk #[100, 97, 116, 97]))) 9) none, VOp.mk (some 4) (Op.assign (Operand.tmp 7)) none]).seq (VCode.cond
  (Operand.tmp 4) VCode.skip ((VCode.ops [VOp.mk (some 8) (Op.binOp BinOp.eql 9 (Operand.tmp 3) (Operand.const (Value.string (ByteArray.mk #[101, 108, 115, 101]))) 9) none, VOp.mk
  (some 4) (Op.assign (Operand.tmp 8)) none]).seq (VCode.cond (Operand.tmp 4) VCode.skip ((VCode.ops [VOp.mk (some 9) (Op.binOp BinOp.eql 9 (Operand.tmp 3) (Operand.const
  (Value.string (ByteArray.mk #[101, 110, 100]))) 9) none, VOp.mk (some 4) (Op.assign (Operand.tmp 9)) none]).seq (VCode.cond (Operand.tmp 4) VCode.skip ((VCode.ops [VOp.mk (some
  10) (Op.binOp BinOp.eql 9 (Operand.tmp 3) (Operand.const (Value.string (ByteArray.mk #[102, 97, 108, 115, 101]))) 9) none, VOp.mk (some 4) (Op.assign (Operand.tmp 10)) none]).seq
  (VCode.cond (Operand.tmp 4) VCode.skip ((VCode.ops [VOp.mk (some 11) (Op.binOp BinOp.eql 9 (Operand.tmp 3) (Operand.const (Value.string (ByteArray.mk #[102, 110]))) 9) none,
  VOp.mk (some 4) (Op.assign (Operand.tmp 11)) none]).seq (VCode.cond (Operand.tmp 4) VCode.skip ((VCode.ops [VOp.mk (some 12) (Op.binOp BinOp.eql 9 (Operand.tmp 3) (Operand.const
  (Value.string (ByteArray.mk #[102, 117, 110]))) 9) none, VOp.mk (some 4) (Op.assign (Operand.tmp 12)) none]).seq (VCode.cond (Operand.tmp 4) VCode.skip ((VCode.ops [VOp.mk (some
  13) (Op.binOp BinOp.eql 9 (Operand.tmp 3) (Operand.const (Value.string (ByteArray.mk #[102, 117, 110, 99, 116, 111, 114]))) 9) none, VOp.mk (some 4) (Op.assign (Operand.tmp 13))
  none]).seq (VCode.cond (Operand.tmp 4) VCode.skip ((VCode.ops [VOp.mk (some 14) (Op.binOp BinOp.eql 9 (Operand.tmp 3) (Operand.const (Value.string (ByteArray.mk #[105, 102]))) 9)
  none, VOp.mk (some 4) (Op.assign (Operand.tmp 14)) none]).seq (VCode.cond (Operand.tmp 4) VCode.skip ((VCode.ops [VOp.mk (some 15) (Op.binOp BinOp.eql 9 (Operand.tmp 3)
  (Operand.const (Value.string (ByteArray.mk #[105, 110]))) 9) none, VOp.mk (some 4) (Op.assign (Operand.tmp 15)) none]).seq (VCode.cond (Operand.tmp 4) VCode.skip ((VCode.ops
  [VOp.mk (some 16) (Op.binOp BinOp.eql 9 (Operand.tmp 3) (Operand.const (Value.string (ByteArray.mk #[105, 110, 116]))) 9) none, VOp.mk (some 4) (Op.assign (Operand.tmp 16))
  none]).seq (VCode.cond (Operand.tmp 4) VCode.skip ((VCode.ops [VOp.mk (some 17) (Op.binOp BinOp.eql 9 (Operand.tmp 3) (Operand.const (Value.string (ByteArray.mk #[108, 101,
  116]))) 9) none, VOp.mk (some 4) (Op.assign (Operand.tmp 17)) none]).seq (VCode.cond (Operand.tmp 4) VCode.skip ((VCode.ops [VOp.mk (some 18) (Op.binOp BinOp.eql 9 (Operand.tmp 3)
  (Operand.const (Value.string (ByteArray.mk #[111, 102]))) 9) none, VOp.mk (some 4) (Op.assign (Operand.tmp 18)) none]).seq (VCode.cond (Operand.tmp 4) VCode.skip ((VCode.ops
  [VOp.mk (some 19) (Op.binOp BinOp.eql 9 (Operand.tmp 3) (Operand.const (Value.string (ByteArray.mk #[115, 105, 103]))) 9) none, VOp.mk (some 4) (Op.assign (Operand.tmp 19))
  none]).seq (VCode.cond (Operand.tmp 4) VCode.skip ((VCode.ops [VOp.mk (some 20) (Op.binOp BinOp.eql 9 (Operand.tmp 3) (Operand.const (Value.string (ByteArray.mk #[115, 105, 103,
  110, 97, 116, 117, 114, 101]))) 9) none, VOp.mk (some 4) (Op.assign (Operand.tmp 20)) none]).seq (VCode.cond (Operand.tmp 4) VCode.skip ((VCode.ops [VOp.mk (some 21) (Op.binOp
  BinOp.eql 9 (Operand.tmp 3) (Operand.const (Value.string (ByteArray.mk #[115, 116, 114, 117, 99, 116]))) 9) none, VOp.mk (some 4) (Op.assign (Operand.tmp 21)) none]).seq
  (VCode.cond (Operand.tmp 4) VCode.skip ((VCode.ops [VOp.mk (some 22) (Op.binOp BinOp.eql 9 (Operand.tmp 3) (Operand.const (Value.string (ByteArray.mk #[115, 116, 114, 117, 99,
  116, 117, 114, 101]))) 9) none, VOp.mk (some 4) (Op.assign (Operand.tmp 22)) none]).seq (VCode.cond (Operand.tmp 4) VCode.skip ((VCode.ops [VOp.mk (some 23) (Op.binOp BinOp.eql 9
  (Operand.tmp 3) (Operand.const (Value.string (ByteArray.mk #[116, 104, 101, 110]))) 9) none, VOp.mk (some 4) (Op.assign (Operand.tmp 23)) none]).seq (VCode.cond (Operand.tmp 4)
  VCode.skip ((VCode.ops [VOp.mk (some 24) (Op.binOp BinOp.eql 9 (Operand.tmp 3) (Operand.const (Value.string (ByteArray.mk #[116, 114, 117, 101]))) 9) none, VOp.mk (some 4)
  (Op.assign (Operand.tmp 24)) none]).seq (VCode.cond (Operand.tmp 4) VCode.skip ((VCode.ops [VOp.mk (some 25) (Op.binOp BinOp.eql 9 (Operand.tmp 3) (Operand.const (Value.string
  (ByteArray.mk #[116, 121, 112, 101]))) 9) none, VOp.mk (some 4) (Op.assign (Operand.tmp 25)) none]).seq (VCode.cond (Operand.tmp 4) VCode.skip ((VCode.ops [VOp.mk (some 26)
  (Op.binOp BinOp.eql 9 (Operand.tmp 3) (Operand.const (Value.string (ByteArray.mk #[117, 110, 105, 116]))) 9) none, VOp.mk (some 4) (Op.assign (Operand.tmp 26)) none]).seq
  (VCode.cond (Operand.tmp 4) VCode.skip ((VCode.ops [VOp.mk (some 27) (Op.binOp BinOp.eql 9 (Operand.tmp 3) (Operand.const (Value.string (ByteArray.mk #[118, 97, 108]))) 9) none,
  VOp.mk (some 4) (Op.assign (Operand.tmp 27)) none]).seq (VCode.cond (Operand.tmp 4) VCode.skip (VCode.ops [VOp.mk (some 28) (Op.binOp BinOp.eql 9 (Operand.tmp 3) (Operand.const
  (Value.string (ByteArray.mk #[119, 104, 101, 114, 101]))) 9) none, VOp.mk (some 4) (Op.assign (Operand.tmp 28)) none]))))))))))))))))))))))))))))))))))))))))))))))).seq
  (VCode.cond (Operand.tmp 4) ((VCode.ops [VOp.mk (some 2) (Op.assign (Operand.const (Value.bool true))) none]).seq VCode.ret) VCode.skip)))).seq ((VCode.ops [VOp.mk (some 2)
  (Op.assign (Operand.const (Value.bool false))) none]).seq VCode.ret))
theorem fn96 : FnOk Tryz.prog 96 29 vc96 [ResultVar.tmp 2] := ⟨Tryz.f96, _, [], Tryz.func96, rfl, rfl, rfl, by kernel_rfl, by kernel_rfl, by kernel_rfl⟩

end Go.Vt.Tryz
