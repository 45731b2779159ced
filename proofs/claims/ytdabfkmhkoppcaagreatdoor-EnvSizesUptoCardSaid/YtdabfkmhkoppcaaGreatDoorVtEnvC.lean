/- Functions and types of EnvSizes (printed; beside VtEnvA). -/
import Derived.Test.YtdabfkmhkoppcaaGreatDoorVtEnvA
set_option maxRecDepth 100000
namespace Go.Vt.Tryz
open Go.Proofs

theorem bt183 : bty Tryz.prog 183 = none := by kernel_rfl
theorem bt187 : bty Tryz.prog 187 = none := by kernel_rfl
theorem bt190 : bty Tryz.prog 190 = none := by kernel_rfl
theorem bt193 : bty Tryz.prog 193 = none := by kernel_rfl
theorem bt196 : bty Tryz.prog 196 = none := by kernel_rfl
theorem bt199 : bty Tryz.prog 199 = none := by kernel_rfl
theorem bt357 : bty Tryz.prog 357 = none := by kernel_rfl
theorem ti183 : ti Tryz.prog 183 = some (TI.mk 2 16 true (some (V.agg [L.d (D.int IntKind.i64 (0)), L.d (D.int IntKind.i64 (0))])) TK.struct [(0, 1, false), (1, 1, false)] none) :=
  by kernel_rfl

theorem ti187 : ti Tryz.prog 187 = some (TI.mk 1 8 false (some (V.one L.nilf)) TK.func [] none) := by kernel_rfl

theorem ti190 : ti Tryz.prog 190 = some (TI.mk 1 8 false (some (V.one L.nilf)) TK.func [] none) := by kernel_rfl

theorem ti193 : ti Tryz.prog 193 = some (TI.mk 1 8 false (some (V.one L.nilf)) TK.func [] none) := by kernel_rfl

theorem ti196 : ti Tryz.prog 196 = some (TI.mk 1 8 false (some (V.one L.nilf)) TK.func [] none) := by kernel_rfl

theorem ti199 : ti Tryz.prog 199 = some (TI.mk 1 8 false (some (V.one L.nilf)) TK.func [] none) := by kernel_rfl

theorem ti357 : ti Tryz.prog 357 = some (TI.mk 1 8 false (some (V.one (L.d (D.int IntKind.u64 (0))))) (TK.int IntKind.u64) [] none) := by kernel_rfl

def vc6 : VCode := (VCode.ops [VOp.mk (some 1) (.box 87 (.tmp 0)) none, VOp.mk (some 2) (.assign (.const (.bool false))) none]).seq ((VCode.ops [VOp.mk (some 4) (.fieldAddr 87 (.tmp
  1) 1) none, VOp.mk (some 5) (.load 65 (.tmp 4)) none, VOp.mk (some 6) (.call (.mk (.value (.func 27)) #[.tmp 5, .const (.int .i64 1099511627776)] #[65, 3])) none, VOp.mk (some 3)
  (.assign (.tmp 6)) none]).seq ((VCode.opsW [(0, VOp.mk (some 7) (.load 87 (.tmp 1)) none), (2, VOp.mk (some 9) (.move (.tmp 3)) none), (3, VOp.mk (some 10) (.fieldAddr 87 (.tmp 1)
  0) none), (4, VOp.mk (some 11) (.load 85 (.tmp 10)) none), (5, VOp.mk (some 12) (.call (.mk (.builtin .len) #[.tmp 11] #[85])) none), (6, VOp.mk (some 13) (.binOp .add 3 (.tmp 9)
  (.tmp 12) 3) none), (1, VOp.mk (some 8) (.call (.mk (.value (.func 28)) #[.tmp 7, .const (.int .i64 1099511627776)] #[87, 3])) none), (7, VOp.mk (some 14) (.binOp .eql 3 (.tmp 8)
  (.tmp 13) 3) none), (8, VOp.mk (some 15) (.move (.tmp 14)) none), (9, VOp.mk (some 16) (.fieldAddr 87 (.tmp 1) 1) (some (some 15, true))), (10, VOp.mk (some 17) (.load 65 (.tmp
  16)) (some (some 15, true))), (13, VOp.mk (some 20) (.move (.tmp 3)) (some (some 15, true))), (11, VOp.mk (some 18) (.call (.mk (.value (.func 29)) #[.tmp 17] #[65])) (some (some
  15, true))), (12, VOp.mk (some 19) (.call (.mk (.value (.func 27)) #[.tmp 18, .const (.int .i64 1099511627776)] #[65, 3])) (some (some 15, true))), (14, VOp.mk (some 21) (.binOp
  .eql 3 (.tmp 19) (.tmp 20) 3) (some (some 15, true))), (15, VOp.mk (some 22) (.pick (.tmp 15) (.tmp 21) (.const (.bool false))) none), (16, VOp.mk (some 23) (.move (.tmp 22))
  none), (17, VOp.mk (some 24) (.fieldAddr 87 (.tmp 1) 1) (some (some 23, true))), (18, VOp.mk (some 25) (.load 65 (.tmp 24)) (some (some 23, true))), (19, VOp.mk (some 26) (.move
  (.tmp 3)) (some (some 23, true))), (21, VOp.mk (some 28) (.move (.tmp 3)) (some (some 23, true))), (20, VOp.mk (some 27) (.call (.mk (.value (.func 27)) #[.tmp 25, .tmp 26] #[65,
  3])) (some (some 23, true))), (22, VOp.mk (some 29) (.binOp .eql 3 (.tmp 27) (.tmp 28) 3) (some (some 23, true))), (23, VOp.mk (some 30) (.pick (.tmp 23) (.tmp 29) (.const (.bool
  false))) none), (24, VOp.mk (some 31) (.move (.tmp 30)) none), (25, VOp.mk (some 32) (.move (.tmp 3)) (some (some 31, true))), (26, VOp.mk (some 33) (.binOp .eql 3 (.tmp 32)
  (.const (.int .i64 0)) 3) (some (some 31, true))), (27, VOp.mk (some 34) (.move (.tmp 33)) (some (some 31, true))), (28, VOp.mk (some 35) (.fieldAddr 87 (.tmp 1) 1) (some (some
  34, false))), (29, VOp.mk (some 36) (.load 65 (.tmp 35)) (some (some 34, false))), (30, VOp.mk (some 37) (.move (.tmp 3)) (some (some 34, false))), (31, VOp.mk (some 38) (.binOp
  .sub 3 (.tmp 37) (.const (.int .i64 1)) 3) (some (some 34, false))), (33, VOp.mk (some 40) (.move (.tmp 3)) (some (some 34, false))), (32, VOp.mk (some 39) (.call (.mk (.value
  (.func 27)) #[.tmp 36, .tmp 38] #[65, 3])) (some (some 34, false))), (34, VOp.mk (some 41) (.binOp .eql 3 (.tmp 39) (.tmp 40) 3) (some (some 34, false))), (35, VOp.mk (some 42)
  (.pick (.tmp 34) (.const (.bool true)) (.tmp 41)) (some (some 31, true))), (36, VOp.mk (some 43) (.pick (.tmp 31) (.tmp 42) (.const (.bool false))) none), (37, VOp.mk (some 44)
  (.move (.tmp 43)) none), (38, VOp.mk (some 45) (.call (.mk (.value (.func 13)) #[] #[])) (some (some 44, true))), (39, VOp.mk (some 46) (.pick (.tmp 44) (.tmp 45) (.const (.bool
  false))) none), (40, VOp.mk (some 2) (.assign (.tmp 46)) none)] [(1, [3, 4, 5])]).seq VCode.ret))
theorem fn6 : FnOk Tryz.prog 6 47 vc6 [ResultVar.tmp 2] := ⟨Tryz.f6, _, [(2, [([0, 2, 3, 4, 5, 6, 1, 7, 8, 9, 10, 13, 11, 12, 14, 15, 16, 17, 18, 19, 21, 20, 22, 23, 24, 25, 26, 27,
  28, 29, 30, 31, 33, 32, 34, 35, 36, 37, 38, 39, 40], [(1, [3, 4, 5])])])], Tryz.func6, rfl, rfl, rfl, by kernel_rfl, by kernel_rfl, by kernel_rfl⟩

def vc27 : VCode := (VCode.ops [VOp.mk (some 2) (.box 65 (.tmp 0)) none, VOp.mk (some 4) (.assign (.const (.int .i64 0))) none]).seq (((VCode.ops [VOp.mk (some 6) (.move (.tmp 1))
  none, VOp.mk (some 7) (.binOp .lss 3 (.tmp 6) (.const (.int .i64 0)) 3) none]).seq (VCode.cond (.tmp 7) ((VCode.ops [VOp.mk (some 4) (.assign (.const (.int .i64 0))) none]).seq
  VCode.ret) VCode.skip)).seq ((VCode.ops [VOp.mk (some 8) (.move (.tmp 1)) none, VOp.mk (some 9) (.build 183 #[(0, .const (.int .i64 0)), (1, .tmp 8)]) none, VOp.mk (some 10) (.box
  183 (.tmp 9)) none, VOp.mk (some 5) (.assign (.tmp 10)) none]).seq ((VCode.ops [VOp.mk (some 11) (.move (.tmp 5)) none, VOp.mk (some 12) (.load 65 (.tmp 2)) none, VOp.mk (some 13)
  (.call (.mk (.value (.func 81)) #[.tmp 11, .tmp 12] #[181, 65])) none]).seq ((VCode.ops [VOp.mk (some 14) (.move (.tmp 5)) none, VOp.mk (some 15) (.nilCheck (.tmp 14)) none,
  VOp.mk (some 16) (.fieldAddr 183 (.tmp 15) 0) none, VOp.mk (some 17) (.load 3 (.tmp 16)) none, VOp.mk (some 4) (.assign (.tmp 17)) none]).seq VCode.ret))))
theorem fn27 : FnOk Tryz.prog 27 18 vc27 [ResultVar.tmp 4] := ⟨Tryz.f27, _, [], Tryz.func27, rfl, rfl, rfl, by kernel_rfl, by kernel_rfl, by kernel_rfl⟩

def vc28 : VCode := (VCode.ops [VOp.mk (some 2) (.box 87 (.tmp 0)) none, VOp.mk (some 4) (.assign (.const (.int .i64 0))) none]).seq (((VCode.ops [VOp.mk (some 6) (.move (.tmp 1))
  none, VOp.mk (some 7) (.binOp .lss 3 (.tmp 6) (.const (.int .i64 0)) 3) none]).seq (VCode.cond (.tmp 7) ((VCode.ops [VOp.mk (some 4) (.assign (.const (.int .i64 0))) none]).seq
  VCode.ret) VCode.skip)).seq ((VCode.ops [VOp.mk (some 8) (.move (.tmp 1)) none, VOp.mk (some 9) (.build 183 #[(0, .const (.int .i64 0)), (1, .tmp 8)]) none, VOp.mk (some 10) (.box
  183 (.tmp 9)) none, VOp.mk (some 5) (.assign (.tmp 10)) none]).seq ((VCode.ops [VOp.mk (some 11) (.move (.tmp 5)) none, VOp.mk (some 12) (.load 87 (.tmp 2)) none, VOp.mk (some 13)
  (.call (.mk (.value (.func 82)) #[.tmp 11, .tmp 12] #[181, 87])) none]).seq ((VCode.ops [VOp.mk (some 14) (.move (.tmp 5)) none, VOp.mk (some 15) (.nilCheck (.tmp 14)) none,
  VOp.mk (some 16) (.fieldAddr 183 (.tmp 15) 0) none, VOp.mk (some 17) (.load 3 (.tmp 16)) none, VOp.mk (some 4) (.assign (.tmp 17)) none]).seq VCode.ret))))
theorem fn28 : FnOk Tryz.prog 28 18 vc28 [ResultVar.tmp 4] := ⟨Tryz.f28, _, [], Tryz.func28, rfl, rfl, rfl, by kernel_rfl, by kernel_rfl, by kernel_rfl⟩

def vc29 : VCode := (VCode.ops [VOp.mk (some 1) (.box 65 (.tmp 0)) none, VOp.mk (some 2) (.alloc 65) none]).seq ((VCode.opsW [(0, VOp.mk (some 3) (.fieldAddr 65 (.tmp 1) 0) none),
  (1, VOp.mk (some 4) (.load 59 (.tmp 3)) none), (3, VOp.mk (some 6) (.fieldAddr 65 (.tmp 1) 1) none), (4, VOp.mk (some 7) (.load 60 (.tmp 6)) none), (6, VOp.mk (some 9) (.fieldAddr
  65 (.tmp 1) 2) none), (7, VOp.mk (some 10) (.load 61 (.tmp 9)) none), (9, VOp.mk (some 12) (.fieldAddr 65 (.tmp 1) 3) none), (10, VOp.mk (some 13) (.load 62 (.tmp 12)) none), (12,
  VOp.mk (some 15) (.fieldAddr 65 (.tmp 1) 4) none), (13, VOp.mk (some 16) (.load 63 (.tmp 15)) none), (2, VOp.mk (some 5) (.call (.mk (.value (.func 83)) #[.tmp 4, .func 84, .func
  85] #[59, 187, 188])) none), (5, VOp.mk (some 8) (.call (.mk (.value (.func 86)) #[.tmp 7, .func 87, .func 88] #[60, 190, 191])) none), (8, VOp.mk (some 11) (.call (.mk (.value
  (.func 89)) #[.tmp 10, .func 90, .func 91] #[61, 193, 194])) none), (11, VOp.mk (some 14) (.call (.mk (.value (.func 92)) #[.tmp 13, .func 93, .func 94] #[62, 196, 197])) none),
  (14, VOp.mk (some 17) (.call (.mk (.value (.func 95)) #[.tmp 16, .func 96, .func 97] #[63, 199, 200])) none), (15, VOp.mk (some 18) (.build 65 #[(0, .tmp 5), (1, .tmp 8), (2, .tmp
  11), (3, .tmp 14), (4, .tmp 17)]) none), (16, VOp.mk none (.store 65 (.tmp 2) (.tmp 18)) none)] [(2, [3, 4, 6, 7, 9, 10, 12, 13]), (5, [6, 7, 9, 10, 12, 13]), (8, [9, 10, 12,
  13]), (11, [12, 13])]).seq VCode.ret)
theorem fn29 : FnOk Tryz.prog 29 19 vc29 [ResultVar.cell 2 65] := ⟨Tryz.f29, _, [(1, [([0, 1, 3, 4, 6, 7, 9, 10, 12, 13, 2, 5, 8, 11, 14, 15, 16], [(2, [3, 4, 6, 7, 9, 10, 12, 13]),
  (5, [6, 7, 9, 10, 12, 13]), (8, [9, 10, 12, 13]), (11, [12, 13])])])], Tryz.func29, rfl, rfl, rfl, by kernel_rfl, by kernel_rfl, by kernel_rfl⟩

def vc81 : VCode := (VCode.ops [VOp.mk (some 3) (.box 65 (.tmp 1)) none]).seq (((VCode.ops [VOp.mk (some 18) (.move (.tmp 0)) none, VOp.mk (some 19) (.call (.mk (.value (.func 124))
  #[.tmp 18, .const (.int .i64 1)] #[181, 3])) none, VOp.mk (some 20) (.unOp .not 4 (.tmp 19)) none]).seq (VCode.cond (.tmp 20) VCode.ret VCode.skip)).seq (((VCode.ops [VOp.mk (some
  21) (.fieldAddr 65 (.tmp 3) 0) none, VOp.mk (some 22) (.load 59 (.tmp 21)) none, VOp.mk (some 23) (.call (.mk (.builtin .len) #[.tmp 22] #[59])) none, VOp.mk (some 24) (.move
  (.const (.int .i64 0))) none]).seq (VCode.block 0 ((VCode.ops [VOp.mk (some 25) (.binOp .lss 3 (.tmp 24) (.tmp 23) 3) none]).seq ((VCode.cond (.tmp 25) VCode.skip (VCode.exit
  0)).seq ((VCode.block 1 ((VCode.ops [VOp.mk (some 26) (.indexAddr 59 (.tmp 22) (.tmp 24)) none, VOp.mk (some 27) (.load 133 (.tmp 26)) none, VOp.mk (some 5) (.alloc 133) none,
  VOp.mk none (.store 133 (.tmp 5) (.tmp 27)) none]).seq ((VCode.ops [VOp.mk (some 28) (.move (.tmp 0)) none, VOp.mk (some 29) (.call (.mk (.value (.func 124)) #[.tmp 28, .const
  (.int .i64 1)] #[181, 3])) none]).seq ((VCode.ops [VOp.mk (some 30) (.move (.tmp 0)) none, VOp.mk (some 31) (.fieldAddr 133 (.tmp 5) 1) none, VOp.mk (some 32) (.load 32 (.tmp 31))
  none, VOp.mk (some 33) (.call (.mk (.value (.func 125)) #[.tmp 30, .tmp 32] #[181, 32])) none]).seq ((VCode.ops [VOp.mk (some 34) (.fieldAddr 133 (.tmp 5) 2) none, VOp.mk (some
  35) (.load 70 (.tmp 34)) none, VOp.mk (some 36) (.call (.mk (.builtin .len) #[.tmp 35] #[70])) none, VOp.mk (some 37) (.move (.const (.int .i64 0))) none]).seq (VCode.block 2
  ((VCode.ops [VOp.mk (some 38) (.binOp .lss 3 (.tmp 37) (.tmp 36) 3) none]).seq ((VCode.cond (.tmp 38) VCode.skip (VCode.exit 2)).seq ((VCode.block 3 ((VCode.ops [VOp.mk (some 39)
  (.indexAddr 70 (.tmp 35) (.tmp 37)) none, VOp.mk (some 40) (.load 156 (.tmp 39)) none, VOp.mk (some 7) (.alloc 156) none, VOp.mk none (.store 156 (.tmp 7) (.tmp 40)) none]).seq
  ((VCode.ops [VOp.mk (some 41) (.move (.tmp 0)) none, VOp.mk (some 42) (.call (.mk (.value (.func 124)) #[.tmp 41, .const (.int .i64 1)] #[181, 3])) none]).seq ((VCode.ops [VOp.mk
  (some 43) (.fieldAddr 156 (.tmp 7) 1) none, VOp.mk (some 44) (.load 30 (.tmp 43)) none, VOp.mk (some 45) (.call (.mk (.builtin .len) #[.tmp 44] #[30])) none, VOp.mk (some 46)
  (.move (.const (.int .i64 0))) none]).seq (VCode.block 4 ((VCode.ops [VOp.mk (some 47) (.binOp .lss 3 (.tmp 46) (.tmp 45) 3) none]).seq ((VCode.cond (.tmp 47) VCode.skip
  (VCode.exit 4)).seq ((VCode.block 5 ((VCode.ops [VOp.mk (some 48) (.indexAddr 30 (.tmp 44) (.tmp 46)) none, VOp.mk (some 49) (.load 32 (.tmp 48)) none, VOp.mk (some 9) (.alloc 32)
  none, VOp.mk none (.store 32 (.tmp 9) (.tmp 49)) none]).seq (VCode.ops [VOp.mk (some 50) (.move (.tmp 0)) none, VOp.mk (some 51) (.load 32 (.tmp 9)) none, VOp.mk (some 52) (.call
  (.mk (.value (.func 125)) #[.tmp 50, .tmp 51] #[181, 32])) none]))).seq (VCode.ops [VOp.mk (some 53) (.binOp .add 3 (.tmp 46) (.const (.int .i64 1)) 3) none, VOp.mk (some 46)
  (.move (.tmp 53)) none])))).loop))))).seq (VCode.ops [VOp.mk (some 54) (.binOp .add 3 (.tmp 37) (.const (.int .i64 1)) 3) none, VOp.mk (some 37) (.move (.tmp 54))
  none])))).loop)))))).seq (VCode.ops [VOp.mk (some 55) (.binOp .add 3 (.tmp 24) (.const (.int .i64 1)) 3) none, VOp.mk (some 24) (.move (.tmp 55)) none])))).loop)).seq (((VCode.ops
  [VOp.mk (some 56) (.fieldAddr 65 (.tmp 3) 1) none, VOp.mk (some 57) (.load 60 (.tmp 56)) none, VOp.mk (some 58) (.call (.mk (.builtin .len) #[.tmp 57] #[60])) none, VOp.mk (some
  59) (.move (.const (.int .i64 0))) none]).seq (VCode.block 6 ((VCode.ops [VOp.mk (some 60) (.binOp .lss 3 (.tmp 59) (.tmp 58) 3) none]).seq ((VCode.cond (.tmp 60) VCode.skip
  (VCode.exit 6)).seq ((VCode.block 7 ((VCode.ops [VOp.mk (some 61) (.indexAddr 60 (.tmp 57) (.tmp 59)) none, VOp.mk (some 62) (.load 126 (.tmp 61)) none, VOp.mk (some 11) (.alloc
  126) none, VOp.mk none (.store 126 (.tmp 11) (.tmp 62)) none]).seq ((VCode.ops [VOp.mk (some 63) (.move (.tmp 0)) none, VOp.mk (some 64) (.call (.mk (.value (.func 124)) #[.tmp
  63, .const (.int .i64 1)] #[181, 3])) none]).seq (VCode.ops [VOp.mk (some 65) (.move (.tmp 0)) none, VOp.mk (some 66) (.fieldAddr 126 (.tmp 11) 1) none, VOp.mk (some 67)
  (.fieldAddr 34 (.tmp 66) 1) none, VOp.mk (some 68) (.load 32 (.tmp 67)) none, VOp.mk (some 69) (.call (.mk (.value (.func 125)) #[.tmp 65, .tmp 68] #[181, 32])) none])))).seq
  (VCode.ops [VOp.mk (some 70) (.binOp .add 3 (.tmp 59) (.const (.int .i64 1)) 3) none, VOp.mk (some 59) (.move (.tmp 70)) none])))).loop)).seq (((VCode.ops [VOp.mk (some 71)
  (.fieldAddr 65 (.tmp 3) 2) none, VOp.mk (some 72) (.load 61 (.tmp 71)) none, VOp.mk (some 73) (.call (.mk (.builtin .len) #[.tmp 72] #[61])) none, VOp.mk (some 74) (.move (.const
  (.int .i64 0))) none]).seq (VCode.block 8 ((VCode.ops [VOp.mk (some 75) (.binOp .lss 3 (.tmp 74) (.tmp 73) 3) none]).seq ((VCode.cond (.tmp 75) VCode.skip (VCode.exit 8)).seq
  ((VCode.block 9 ((VCode.ops [VOp.mk (some 76) (.indexAddr 61 (.tmp 72) (.tmp 74)) none, VOp.mk (some 77) (.load 140 (.tmp 76)) none, VOp.mk (some 13) (.alloc 140) none, VOp.mk
  none (.store 140 (.tmp 13) (.tmp 77)) none]).seq ((VCode.ops [VOp.mk (some 78) (.move (.tmp 0)) none, VOp.mk (some 79) (.call (.mk (.value (.func 124)) #[.tmp 78, .const (.int
  .i64 1)] #[181, 3])) none]).seq (VCode.cond (.tmp 79) (VCode.ops [VOp.mk (some 80) (.move (.tmp 0)) none, VOp.mk (some 81) (.fieldAddr 140 (.tmp 13) 1) none, VOp.mk (some 82)
  (.load 65 (.tmp 81)) none, VOp.mk (some 83) (.call (.mk (.value (.func 81)) #[.tmp 80, .tmp 82] #[181, 65])) none]) VCode.skip)))).seq (VCode.ops [VOp.mk (some 84) (.binOp .add 3
  (.tmp 74) (.const (.int .i64 1)) 3) none, VOp.mk (some 74) (.move (.tmp 84)) none])))).loop)).seq (((VCode.ops [VOp.mk (some 85) (.fieldAddr 65 (.tmp 3) 3) none, VOp.mk (some 86)
  (.load 62 (.tmp 85)) none, VOp.mk (some 87) (.call (.mk (.builtin .len) #[.tmp 86] #[62])) none, VOp.mk (some 88) (.move (.const (.int .i64 0))) none]).seq (VCode.block 10
  ((VCode.ops [VOp.mk (some 89) (.binOp .lss 3 (.tmp 88) (.tmp 87) 3) none]).seq ((VCode.cond (.tmp 89) VCode.skip (VCode.exit 10)).seq ((VCode.block 11 ((VCode.ops [VOp.mk (some
  90) (.indexAddr 62 (.tmp 86) (.tmp 88)) none, VOp.mk (some 91) (.load 161 (.tmp 90)) none, VOp.mk (some 15) (.alloc 161) none, VOp.mk none (.store 161 (.tmp 15) (.tmp 91))
  none]).seq ((VCode.ops [VOp.mk (some 92) (.move (.tmp 0)) none, VOp.mk (some 93) (.fieldAddr 161 (.tmp 15) 1) none, VOp.mk (some 94) (.fieldAddr 89 (.tmp 93) 0) none, VOp.mk (some
  95) (.load 85 (.tmp 94)) none, VOp.mk (some 96) (.call (.mk (.builtin .len) #[.tmp 95] #[85])) none, VOp.mk (some 97) (.binOp .add 3 (.const (.int .i64 1)) (.tmp 96) 3) none,
  VOp.mk (some 98) (.call (.mk (.value (.func 124)) #[.tmp 92, .tmp 97] #[181, 3])) none]).seq (VCode.cond (.tmp 98) ((VCode.ops [VOp.mk (some 99) (.move (.tmp 0)) none, VOp.mk
  (some 100) (.fieldAddr 161 (.tmp 15) 1) none, VOp.mk (some 101) (.fieldAddr 89 (.tmp 100) 1) none, VOp.mk (some 102) (.load 65 (.tmp 101)) none, VOp.mk (some 103) (.call (.mk
  (.value (.func 81)) #[.tmp 99, .tmp 102] #[181, 65])) none]).seq (VCode.ops [VOp.mk (some 104) (.move (.tmp 0)) none, VOp.mk (some 105) (.fieldAddr 161 (.tmp 15) 1) none, VOp.mk
  (some 106) (.fieldAddr 89 (.tmp 105) 2) none, VOp.mk (some 107) (.load 87 (.tmp 106)) none, VOp.mk (some 108) (.call (.mk (.value (.func 82)) #[.tmp 104, .tmp 107] #[181, 87]))
  none])) VCode.skip)))).seq (VCode.ops [VOp.mk (some 109) (.binOp .add 3 (.tmp 88) (.const (.int .i64 1)) 3) none, VOp.mk (some 88) (.move (.tmp 109)) none])))).loop)).seq
  ((VCode.ops [VOp.mk (some 110) (.fieldAddr 65 (.tmp 3) 4) none, VOp.mk (some 111) (.load 63 (.tmp 110)) none, VOp.mk (some 112) (.call (.mk (.builtin .len) #[.tmp 111] #[63]))
  none, VOp.mk (some 113) (.move (.const (.int .i64 0))) none]).seq (VCode.block 12 ((VCode.ops [VOp.mk (some 114) (.binOp .lss 3 (.tmp 113) (.tmp 112) 3) none]).seq ((VCode.cond
  (.tmp 114) VCode.skip (VCode.exit 12)).seq ((VCode.block 13 ((VCode.ops [VOp.mk (some 115) (.indexAddr 63 (.tmp 111) (.tmp 113)) none, VOp.mk (some 116) (.load 162 (.tmp 115))
  none, VOp.mk (some 17) (.alloc 162) none, VOp.mk none (.store 162 (.tmp 17) (.tmp 116)) none]).seq ((VCode.ops [VOp.mk (some 117) (.move (.tmp 0)) none, VOp.mk (some 118) (.call
  (.mk (.value (.func 124)) #[.tmp 117, .const (.int .i64 1)] #[181, 3])) none]).seq (VCode.cond (.tmp 118) (VCode.ops [VOp.mk (some 119) (.move (.tmp 0)) none, VOp.mk (some 120)
  (.fieldAddr 162 (.tmp 17) 1) none, VOp.mk (some 121) (.load 87 (.tmp 120)) none, VOp.mk (some 122) (.call (.mk (.value (.func 82)) #[.tmp 119, .tmp 121] #[181, 87])) none])
  VCode.skip)))).seq (VCode.ops [VOp.mk (some 123) (.binOp .add 3 (.tmp 113) (.const (.int .i64 1)) 3) none, VOp.mk (some 113) (.move (.tmp 123)) none])))).loop)))))))
theorem fn81 : FnOk Tryz.prog 81 124 vc81 [] := ⟨Tryz.f81, _, [], Tryz.func81, rfl, rfl, rfl, by kernel_rfl, by kernel_rfl, by kernel_rfl⟩

def vc82 : VCode := (VCode.ops [VOp.mk (some 3) (.box 87 (.tmp 1)) none]).seq ((VCode.ops [VOp.mk (some 4) (.move (.tmp 0)) none, VOp.mk (some 5) (.fieldAddr 87 (.tmp 3) 0) none,
  VOp.mk (some 6) (.load 85 (.tmp 5)) none, VOp.mk (some 7) (.call (.mk (.builtin .len) #[.tmp 6] #[85])) none, VOp.mk (some 8) (.call (.mk (.value (.func 124)) #[.tmp 4, .tmp 7]
  #[181, 3])) none]).seq (VCode.cond (.tmp 8) (VCode.ops [VOp.mk (some 9) (.move (.tmp 0)) none, VOp.mk (some 10) (.fieldAddr 87 (.tmp 3) 1) none, VOp.mk (some 11) (.load 65 (.tmp
  10)) none, VOp.mk (some 12) (.call (.mk (.value (.func 81)) #[.tmp 9, .tmp 11] #[181, 65])) none]) VCode.skip))
theorem fn82 : FnOk Tryz.prog 82 13 vc82 [] := ⟨Tryz.f82, _, [], Tryz.func82, rfl, rfl, rfl, by kernel_rfl, by kernel_rfl, by kernel_rfl⟩

def vc84 : VCode := (VCode.ops [VOp.mk (some 1) (.box 133 (.tmp 0)) none, VOp.mk (some 2) (.assign (.const (.string (ByteArray.mk #[])))) none]).seq ((VCode.ops [VOp.mk (some 3)
  (.fieldAddr 133 (.tmp 1) 0) none, VOp.mk (some 4) (.load 9 (.tmp 3)) none, VOp.mk (some 2) (.assign (.tmp 4)) none]).seq VCode.ret)
theorem fn84 : FnOk Tryz.prog 84 5 vc84 [ResultVar.tmp 2] := ⟨Tryz.f84, _, [], Tryz.func84, rfl, rfl, rfl, by kernel_rfl, by kernel_rfl, by kernel_rfl⟩

def vc85 : VCode := (VCode.ops [VOp.mk (some 1) (.box 133 (.tmp 0)) none, VOp.mk (some 2) (.alloc 133) none]).seq ((VCode.ops [VOp.mk (some 3) (.load 133 (.tmp 1)) none, VOp.mk none
  (.store 133 (.tmp 2) (.tmp 3)) none]).seq VCode.ret)
theorem fn85 : FnOk Tryz.prog 85 4 vc85 [ResultVar.cell 2 133] := ⟨Tryz.f85, _, [], Tryz.func85, rfl, rfl, rfl, by kernel_rfl, by kernel_rfl, by kernel_rfl⟩

def vc87 : VCode := (VCode.ops [VOp.mk (some 1) (.box 126 (.tmp 0)) none, VOp.mk (some 2) (.assign (.const (.string (ByteArray.mk #[])))) none]).seq ((VCode.ops [VOp.mk (some 3)
  (.fieldAddr 126 (.tmp 1) 0) none, VOp.mk (some 4) (.load 9 (.tmp 3)) none, VOp.mk (some 2) (.assign (.tmp 4)) none]).seq VCode.ret)
theorem fn87 : FnOk Tryz.prog 87 5 vc87 [ResultVar.tmp 2] := ⟨Tryz.f87, _, [], Tryz.func87, rfl, rfl, rfl, by kernel_rfl, by kernel_rfl, by kernel_rfl⟩

def vc88 : VCode := (VCode.ops [VOp.mk (some 1) (.box 126 (.tmp 0)) none, VOp.mk (some 2) (.alloc 126) none]).seq ((VCode.ops [VOp.mk (some 3) (.load 126 (.tmp 1)) none, VOp.mk none
  (.store 126 (.tmp 2) (.tmp 3)) none]).seq VCode.ret)
theorem fn88 : FnOk Tryz.prog 88 4 vc88 [ResultVar.cell 2 126] := ⟨Tryz.f88, _, [], Tryz.func88, rfl, rfl, rfl, by kernel_rfl, by kernel_rfl, by kernel_rfl⟩

def vc90 : VCode := (VCode.ops [VOp.mk (some 1) (.box 140 (.tmp 0)) none, VOp.mk (some 2) (.assign (.const (.string (ByteArray.mk #[])))) none]).seq ((VCode.ops [VOp.mk (some 3)
  (.fieldAddr 140 (.tmp 1) 0) none, VOp.mk (some 4) (.load 9 (.tmp 3)) none, VOp.mk (some 2) (.assign (.tmp 4)) none]).seq VCode.ret)
theorem fn90 : FnOk Tryz.prog 90 5 vc90 [ResultVar.tmp 2] := ⟨Tryz.f90, _, [], Tryz.func90, rfl, rfl, rfl, by kernel_rfl, by kernel_rfl, by kernel_rfl⟩

def vc91 : VCode := (VCode.ops [VOp.mk (some 1) (.box 140 (.tmp 0)) none, VOp.mk (some 2) (.alloc 140) none]).seq ((VCode.opsW [(0, VOp.mk (some 3) (.fieldAddr 140 (.tmp 1) 0)
  none), (1, VOp.mk (some 4) (.load 9 (.tmp 3)) none), (2, VOp.mk (some 5) (.fieldAddr 140 (.tmp 1) 1) none), (3, VOp.mk (some 6) (.load 65 (.tmp 5)) none), (4, VOp.mk (some 7)
  (.call (.mk (.value (.func 29)) #[.tmp 6] #[65])) none), (5, VOp.mk (some 8) (.build 140 #[(0, .tmp 4), (1, .tmp 7)]) none), (6, VOp.mk none (.store 140 (.tmp 2) (.tmp 8)) none)]
  [(4, [0, 1])]).seq VCode.ret)
theorem fn91 : FnOk Tryz.prog 91 9 vc91 [ResultVar.cell 2 140] := ⟨Tryz.f91, _, [(1, [([0, 1, 2, 3, 4, 5, 6], [(4, [0, 1])])])], Tryz.func91, rfl, rfl, rfl, by kernel_rfl, by
  kernel_rfl, by kernel_rfl⟩

def vc93 : VCode := (VCode.ops [VOp.mk (some 1) (.box 161 (.tmp 0)) none, VOp.mk (some 2) (.assign (.const (.string (ByteArray.mk #[])))) none]).seq ((VCode.ops [VOp.mk (some 3)
  (.fieldAddr 161 (.tmp 1) 0) none, VOp.mk (some 4) (.load 9 (.tmp 3)) none, VOp.mk (some 2) (.assign (.tmp 4)) none]).seq VCode.ret)
theorem fn93 : FnOk Tryz.prog 93 5 vc93 [ResultVar.tmp 2] := ⟨Tryz.f93, _, [], Tryz.func93, rfl, rfl, rfl, by kernel_rfl, by kernel_rfl, by kernel_rfl⟩

def vc94 : VCode := (VCode.ops [VOp.mk (some 1) (.box 161 (.tmp 0)) none, VOp.mk (some 2) (.alloc 161) none]).seq ((VCode.ops [VOp.mk (some 4) (.fieldAddr 161 (.tmp 1) 1) none,
  VOp.mk (some 5) (.load 89 (.tmp 4)) none, VOp.mk (some 3) (.alloc 89) none, VOp.mk none (.store 89 (.tmp 3) (.tmp 5)) none]).seq ((VCode.opsW [(0, VOp.mk (some 6) (.fieldAddr 161
  (.tmp 1) 0) none), (1, VOp.mk (some 7) (.load 9 (.tmp 6)) none), (2, VOp.mk (some 8) (.fieldAddr 89 (.tmp 3) 0) none), (3, VOp.mk (some 9) (.load 85 (.tmp 8)) none), (4, VOp.mk
  (some 10) (.fieldAddr 89 (.tmp 3) 1) none), (5, VOp.mk (some 11) (.load 65 (.tmp 10)) none), (7, VOp.mk (some 13) (.fieldAddr 89 (.tmp 3) 2) none), (8, VOp.mk (some 14)
  (.fieldAddr 87 (.tmp 13) 0) none), (9, VOp.mk (some 15) (.load 85 (.tmp 14)) none), (10, VOp.mk (some 16) (.fieldAddr 89 (.tmp 3) 2) none), (11, VOp.mk (some 17) (.fieldAddr 87
  (.tmp 16) 1) none), (12, VOp.mk (some 18) (.load 65 (.tmp 17)) none), (6, VOp.mk (some 12) (.call (.mk (.value (.func 29)) #[.tmp 11] #[65])) none), (13, VOp.mk (some 19) (.call
  (.mk (.value (.func 29)) #[.tmp 18] #[65])) none), (14, VOp.mk (some 20) (.build 87 #[(0, .tmp 15), (1, .tmp 19)]) none), (15, VOp.mk (some 21) (.build 89 #[(0, .tmp 9), (1, .tmp
  12), (2, .tmp 20)]) none), (16, VOp.mk (some 22) (.build 161 #[(0, .tmp 7), (1, .tmp 21)]) none), (17, VOp.mk none (.store 161 (.tmp 2) (.tmp 22)) none)] [(6, [0, 1, 2, 3, 7, 8,
  9, 10, 11, 12]), (13, [0, 1, 2, 3, 7, 8, 9])]).seq VCode.ret))
theorem fn94 : FnOk Tryz.prog 94 23 vc94 [ResultVar.cell 2 161] := ⟨Tryz.f94, _, [(2, [([0, 1, 2, 3, 4, 5, 7, 8, 9, 10, 11, 12, 6, 13, 14, 15, 16, 17], [(6, [0, 1, 2, 3, 7, 8, 9,
  10, 11, 12]), (13, [0, 1, 2, 3, 7, 8, 9])])])], Tryz.func94, rfl, rfl, rfl, by kernel_rfl, by kernel_rfl, by kernel_rfl⟩

def vc96 : VCode := (VCode.ops [VOp.mk (some 1) (.box 162 (.tmp 0)) none, VOp.mk (some 2) (.assign (.const (.string (ByteArray.mk #[])))) none]).seq ((VCode.ops [VOp.mk (some 3)
  (.fieldAddr 162 (.tmp 1) 0) none, VOp.mk (some 4) (.load 9 (.tmp 3)) none, VOp.mk (some 2) (.assign (.tmp 4)) none]).seq VCode.ret)
theorem fn96 : FnOk Tryz.prog 96 5 vc96 [ResultVar.tmp 2] := ⟨Tryz.f96, _, [], Tryz.func96, rfl, rfl, rfl, by kernel_rfl, by kernel_rfl, by kernel_rfl⟩

def vc97 : VCode := (VCode.ops [VOp.mk (some 1) (.box 162 (.tmp 0)) none, VOp.mk (some 2) (.alloc 162) none]).seq ((VCode.opsW [(0, VOp.mk (some 3) (.fieldAddr 162 (.tmp 1) 0)
  none), (1, VOp.mk (some 4) (.load 9 (.tmp 3)) none), (2, VOp.mk (some 5) (.fieldAddr 162 (.tmp 1) 1) none), (3, VOp.mk (some 6) (.fieldAddr 87 (.tmp 5) 0) none), (4, VOp.mk (some
  7) (.load 85 (.tmp 6)) none), (5, VOp.mk (some 8) (.fieldAddr 162 (.tmp 1) 1) none), (6, VOp.mk (some 9) (.fieldAddr 87 (.tmp 8) 1) none), (7, VOp.mk (some 10) (.load 65 (.tmp 9))
  none), (8, VOp.mk (some 11) (.call (.mk (.value (.func 29)) #[.tmp 10] #[65])) none), (9, VOp.mk (some 12) (.build 87 #[(0, .tmp 7), (1, .tmp 11)]) none), (10, VOp.mk (some 13)
  (.build 162 #[(0, .tmp 4), (1, .tmp 12)]) none), (11, VOp.mk none (.store 162 (.tmp 2) (.tmp 13)) none)] [(8, [0, 1, 2, 3, 4])]).seq VCode.ret)
theorem fn97 : FnOk Tryz.prog 97 14 vc97 [ResultVar.cell 2 162] := ⟨Tryz.f97, _, [(1, [([0, 1, 2, 3, 4, 5, 6, 7, 8, 9, 10, 11], [(8, [0, 1, 2, 3, 4])])])], Tryz.func97, rfl, rfl,
  rfl, by kernel_rfl, by kernel_rfl, by kernel_rfl⟩

def vc124 : VCode := (VCode.ops [VOp.mk (some 4) (.assign (.const (.bool false))) none]).seq (((VCode.ops [VOp.mk (some 5) (.move (.tmp 1)) none, VOp.mk (some 6) (.move (.tmp 0))
  none, VOp.mk (some 7) (.nilCheck (.tmp 6)) none, VOp.mk (some 8) (.fieldAddr 183 (.tmp 7) 1) none, VOp.mk (some 9) (.load 3 (.tmp 8)) none, VOp.mk (some 10) (.move (.tmp 0)) none,
  VOp.mk (some 11) (.nilCheck (.tmp 10)) none, VOp.mk (some 12) (.fieldAddr 183 (.tmp 11) 0) none, VOp.mk (some 13) (.load 3 (.tmp 12)) none, VOp.mk (some 14) (.binOp .sub 3 (.tmp
  9) (.tmp 13) 3) none, VOp.mk (some 15) (.binOp .gtr 3 (.tmp 5) (.tmp 14) 3) none]).seq (VCode.cond (.tmp 15) ((VCode.ops [VOp.mk (some 16) (.move (.tmp 0)) none, VOp.mk (some 17)
  (.move (.tmp 0)) none, VOp.mk (some 18) (.nilCheck (.tmp 17)) none, VOp.mk (some 19) (.fieldAddr 183 (.tmp 18) 1) none, VOp.mk (some 20) (.load 3 (.tmp 19)) none, VOp.mk (some 21)
  (.binOp .add 3 (.tmp 20) (.const (.int .i64 1)) 3) none, VOp.mk (some 22) (.nilCheck (.tmp 16)) none, VOp.mk (some 23) (.fieldAddr 183 (.tmp 22) 0) none, VOp.mk none (.store 3
  (.tmp 23) (.tmp 21)) none]).seq ((VCode.ops [VOp.mk (some 4) (.assign (.const (.bool false))) none]).seq VCode.ret)) VCode.skip)).seq ((VCode.ops [VOp.mk (some 24) (.move (.tmp
  0)) none, VOp.mk (some 25) (.nilCheck (.tmp 24)) none, VOp.mk (some 26) (.fieldAddr 183 (.tmp 25) 0) none, VOp.mk (some 27) (.load 3 (.tmp 26)) none, VOp.mk (some 28) (.move (.tmp
  1)) none, VOp.mk (some 29) (.binOp .add 3 (.tmp 27) (.tmp 28) 3) none, VOp.mk (some 30) (.nilCheck (.tmp 24)) none, VOp.mk (some 31) (.fieldAddr 183 (.tmp 30) 0) none, VOp.mk none
  (.store 3 (.tmp 31) (.tmp 29)) none]).seq ((VCode.ops [VOp.mk (some 4) (.assign (.const (.bool true))) none]).seq VCode.ret)))
theorem fn124 : FnOk Tryz.prog 124 32 vc124 [ResultVar.tmp 4] := ⟨Tryz.f124, _, [], Tryz.func124, rfl, rfl, rfl, by kernel_rfl, by kernel_rfl, by kernel_rfl⟩

def vc125 : VCode := (VCode.ops [VOp.mk (some 3) (.box 32 (.tmp 1)) none]).seq ((VCode.ops [VOp.mk (some 6) (.move (.tmp 0)) none, VOp.mk (some 7) (.call (.mk (.value (.func 124))
  #[.tmp 6, .const (.int .i64 1)] #[181, 3])) none]).seq (VCode.cond (.tmp 7) ((VCode.ops [VOp.mk (some 8) (.fieldAddr 32 (.tmp 3) 2) none, VOp.mk (some 9) (.load 30 (.tmp 8)) none,
  VOp.mk (some 10) (.call (.mk (.builtin .len) #[.tmp 9] #[30])) none, VOp.mk (some 11) (.move (.const (.int .i64 0))) none]).seq (VCode.block 0 ((VCode.ops [VOp.mk (some 12)
  (.binOp .lss 3 (.tmp 11) (.tmp 10) 3) none]).seq ((VCode.cond (.tmp 12) VCode.skip (VCode.exit 0)).seq ((VCode.block 1 ((VCode.ops [VOp.mk (some 13) (.indexAddr 30 (.tmp 9) (.tmp
  11)) none, VOp.mk (some 14) (.load 32 (.tmp 13)) none, VOp.mk (some 5) (.alloc 32) none, VOp.mk none (.store 32 (.tmp 5) (.tmp 14)) none]).seq (VCode.ops [VOp.mk (some 15) (.move
  (.tmp 0)) none, VOp.mk (some 16) (.load 32 (.tmp 5)) none, VOp.mk (some 17) (.call (.mk (.value (.func 125)) #[.tmp 15, .tmp 16] #[181, 32])) none]))).seq (VCode.ops [VOp.mk (some
  18) (.binOp .add 3 (.tmp 11) (.const (.int .i64 1)) 3) none, VOp.mk (some 11) (.move (.tmp 18)) none])))).loop)) VCode.skip))
theorem fn125 : FnOk Tryz.prog 125 19 vc125 [] := ⟨Tryz.f125, _, [], Tryz.func125, rfl, rfl, rfl, by kernel_rfl, by kernel_rfl, by kernel_rfl⟩

def vc128 : VCode := (VCode.ops [VOp.mk (some 3) (.box 133 (.tmp 0)) none, VOp.mk (some 4) (.box 133 (.tmp 1)) none, VOp.mk (some 5) (.assign (.const (.int .i64 0))) none]).seq
  ((VCode.opsW [(0, VOp.mk (some 6) (.load 187 (.tmp 2)) none), (1, VOp.mk (some 7) (.load 133 (.tmp 3)) none), (3, VOp.mk (some 9) (.load 187 (.tmp 2)) none), (4, VOp.mk (some 10)
  (.load 133 (.tmp 4)) none), (2, VOp.mk (some 8) (.call (.mk (.value (.tmp 6)) #[.tmp 7] #[133])) none), (5, VOp.mk (some 11) (.call (.mk (.value (.tmp 9)) #[.tmp 10] #[133]))
  none), (6, VOp.mk (some 12) (.call (.mk (.value (.func 129)) #[.tmp 8, .tmp 11] #[9, 9])) none), (7, VOp.mk (some 5) (.assign (.tmp 12)) none)] [(2, [3, 4])]).seq VCode.ret)
theorem fn128 : FnOk Tryz.prog 128 13 vc128 [ResultVar.tmp 5] := ⟨Tryz.f128, _, [(1, [([0, 1, 3, 4, 2, 5, 6, 7], [(2, [3, 4])])])], Tryz.func128, rfl, rfl, rfl, by kernel_rfl, by
  kernel_rfl, by kernel_rfl⟩

def vc129 : VCode := (VCode.ops [VOp.mk (some 4) (.assign (.const (.int .i64 0))) none]).seq ((VCode.ops [VOp.mk (some 5) (.move (.tmp 0)) none, VOp.mk (some 6) (.move (.tmp 1))
  none, VOp.mk (some 7) (.call (.mk (.value (.func 186)) #[.tmp 5, .tmp 6] #[9, 9])) none, VOp.mk (some 4) (.assign (.tmp 7)) none]).seq VCode.ret)
theorem fn129 : FnOk Tryz.prog 129 8 vc129 [ResultVar.tmp 4] := ⟨Tryz.f129, _, [], Tryz.func129, rfl, rfl, rfl, by kernel_rfl, by kernel_rfl, by kernel_rfl⟩

def vc132 : VCode := (VCode.ops [VOp.mk (some 3) (.box 126 (.tmp 0)) none, VOp.mk (some 4) (.box 126 (.tmp 1)) none, VOp.mk (some 5) (.assign (.const (.int .i64 0))) none]).seq
  ((VCode.opsW [(0, VOp.mk (some 6) (.load 190 (.tmp 2)) none), (1, VOp.mk (some 7) (.load 126 (.tmp 3)) none), (3, VOp.mk (some 9) (.load 190 (.tmp 2)) none), (4, VOp.mk (some 10)
  (.load 126 (.tmp 4)) none), (2, VOp.mk (some 8) (.call (.mk (.value (.tmp 6)) #[.tmp 7] #[126])) none), (5, VOp.mk (some 11) (.call (.mk (.value (.tmp 9)) #[.tmp 10] #[126]))
  none), (6, VOp.mk (some 12) (.call (.mk (.value (.func 129)) #[.tmp 8, .tmp 11] #[9, 9])) none), (7, VOp.mk (some 5) (.assign (.tmp 12)) none)] [(2, [3, 4])]).seq VCode.ret)
theorem fn132 : FnOk Tryz.prog 132 13 vc132 [ResultVar.tmp 5] := ⟨Tryz.f132, _, [(1, [([0, 1, 3, 4, 2, 5, 6, 7], [(2, [3, 4])])])], Tryz.func132, rfl, rfl, rfl, by kernel_rfl, by
  kernel_rfl, by kernel_rfl⟩

def vc135 : VCode := (VCode.ops [VOp.mk (some 3) (.box 140 (.tmp 0)) none, VOp.mk (some 4) (.box 140 (.tmp 1)) none, VOp.mk (some 5) (.assign (.const (.int .i64 0))) none]).seq
  ((VCode.opsW [(0, VOp.mk (some 6) (.load 193 (.tmp 2)) none), (1, VOp.mk (some 7) (.load 140 (.tmp 3)) none), (3, VOp.mk (some 9) (.load 193 (.tmp 2)) none), (4, VOp.mk (some 10)
  (.load 140 (.tmp 4)) none), (2, VOp.mk (some 8) (.call (.mk (.value (.tmp 6)) #[.tmp 7] #[140])) none), (5, VOp.mk (some 11) (.call (.mk (.value (.tmp 9)) #[.tmp 10] #[140]))
  none), (6, VOp.mk (some 12) (.call (.mk (.value (.func 129)) #[.tmp 8, .tmp 11] #[9, 9])) none), (7, VOp.mk (some 5) (.assign (.tmp 12)) none)] [(2, [3, 4])]).seq VCode.ret)
theorem fn135 : FnOk Tryz.prog 135 13 vc135 [ResultVar.tmp 5] := ⟨Tryz.f135, _, [(1, [([0, 1, 3, 4, 2, 5, 6, 7], [(2, [3, 4])])])], Tryz.func135, rfl, rfl, rfl, by kernel_rfl, by
  kernel_rfl, by kernel_rfl⟩

def vc138 : VCode := (VCode.ops [VOp.mk (some 3) (.box 161 (.tmp 0)) none, VOp.mk (some 4) (.box 161 (.tmp 1)) none, VOp.mk (some 5) (.assign (.const (.int .i64 0))) none]).seq
  ((VCode.opsW [(0, VOp.mk (some 6) (.load 196 (.tmp 2)) none), (1, VOp.mk (some 7) (.load 161 (.tmp 3)) none), (3, VOp.mk (some 9) (.load 196 (.tmp 2)) none), (4, VOp.mk (some 10)
  (.load 161 (.tmp 4)) none), (2, VOp.mk (some 8) (.call (.mk (.value (.tmp 6)) #[.tmp 7] #[161])) none), (5, VOp.mk (some 11) (.call (.mk (.value (.tmp 9)) #[.tmp 10] #[161]))
  none), (6, VOp.mk (some 12) (.call (.mk (.value (.func 129)) #[.tmp 8, .tmp 11] #[9, 9])) none), (7, VOp.mk (some 5) (.assign (.tmp 12)) none)] [(2, [3, 4])]).seq VCode.ret)
theorem fn138 : FnOk Tryz.prog 138 13 vc138 [ResultVar.tmp 5] := ⟨Tryz.f138, _, [(1, [([0, 1, 3, 4, 2, 5, 6, 7], [(2, [3, 4])])])], Tryz.func138, rfl, rfl, rfl, by kernel_rfl, by
  kernel_rfl, by kernel_rfl⟩

def vc141 : VCode := (VCode.ops [VOp.mk (some 3) (.box 162 (.tmp 0)) none, VOp.mk (some 4) (.box 162 (.tmp 1)) none, VOp.mk (some 5) (.assign (.const (.int .i64 0))) none]).seq
  ((VCode.opsW [(0, VOp.mk (some 6) (.load 199 (.tmp 2)) none), (1, VOp.mk (some 7) (.load 162 (.tmp 3)) none), (3, VOp.mk (some 9) (.load 199 (.tmp 2)) none), (4, VOp.mk (some 10)
  (.load 162 (.tmp 4)) none), (2, VOp.mk (some 8) (.call (.mk (.value (.tmp 6)) #[.tmp 7] #[162])) none), (5, VOp.mk (some 11) (.call (.mk (.value (.tmp 9)) #[.tmp 10] #[162]))
  none), (6, VOp.mk (some 12) (.call (.mk (.value (.func 129)) #[.tmp 8, .tmp 11] #[9, 9])) none), (7, VOp.mk (some 5) (.assign (.tmp 12)) none)] [(2, [3, 4])]).seq VCode.ret)
theorem fn141 : FnOk Tryz.prog 141 13 vc141 [ResultVar.tmp 5] := ⟨Tryz.f141, _, [(1, [([0, 1, 3, 4, 2, 5, 6, 7], [(2, [3, 4])])])], Tryz.func141, rfl, rfl, rfl, by kernel_rfl, by
  kernel_rfl, by kernel_rfl⟩

def vc186 : VCode := (VCode.ops [VOp.mk (some 4) (.assign (.const (.int .i64 0))) none]).seq ((VCode.ops [VOp.mk (some 7) (.move (.tmp 0)) none, VOp.mk (some 8) (.call (.mk (.value
  (.func 240)) #[.tmp 7] #[9])) none, VOp.mk (some 5) (.assign (.tmp 8)) none]).seq ((VCode.ops [VOp.mk (some 9) (.move (.tmp 1)) none, VOp.mk (some 10) (.call (.mk (.value (.func
  240)) #[.tmp 9] #[9])) none, VOp.mk (some 6) (.assign (.tmp 10)) none]).seq (((VCode.ops [VOp.mk (some 11) (.move (.tmp 5)) none]).seq (VCode.cond (.tmp 11) (((VCode.ops [VOp.mk
  (some 12) (.move (.tmp 6)) none]).seq (VCode.cond (.tmp 12) ((VCode.ops [VOp.mk (some 4) (.assign (.const (.int .i64 0))) none]).seq VCode.ret) VCode.skip)).seq ((VCode.ops
  [VOp.mk (some 4) (.assign (.const (.int .i64 (-1)))) none]).seq VCode.ret)) VCode.skip)).seq (((VCode.ops [VOp.mk (some 13) (.move (.tmp 6)) none]).seq (VCode.cond (.tmp 13)
  ((VCode.ops [VOp.mk (some 4) (.assign (.const (.int .i64 1))) none]).seq VCode.ret) VCode.skip)).seq (((VCode.ops [VOp.mk (some 14) (.move (.tmp 0)) none, VOp.mk (some 15) (.move
  (.tmp 1)) none, VOp.mk (some 16) (.binOp .lss 9 (.tmp 14) (.tmp 15) 9) none]).seq (VCode.cond (.tmp 16) ((VCode.ops [VOp.mk (some 4) (.assign (.const (.int .i64 (-1)))) none]).seq
  VCode.ret) VCode.skip)).seq (((VCode.ops [VOp.mk (some 17) (.move (.tmp 0)) none, VOp.mk (some 18) (.move (.tmp 1)) none, VOp.mk (some 19) (.binOp .gtr 9 (.tmp 17) (.tmp 18) 9)
  none]).seq (VCode.cond (.tmp 19) ((VCode.ops [VOp.mk (some 4) (.assign (.const (.int .i64 1))) none]).seq VCode.ret) VCode.skip)).seq ((VCode.ops [VOp.mk (some 4) (.assign (.const
  (.int .i64 0))) none]).seq VCode.ret)))))))
theorem fn186 : FnOk Tryz.prog 186 20 vc186 [ResultVar.tmp 4] := ⟨Tryz.f186, _, [], Tryz.func186, rfl, rfl, rfl, by kernel_rfl, by kernel_rfl, by kernel_rfl⟩

def vc240 : VCode := (VCode.ops [VOp.mk (some 2) (.assign (.const (.bool false))) none]).seq ((VCode.ops [VOp.mk (some 3) (.move (.tmp 0)) none, VOp.mk (some 4) (.move (.tmp 0))
  none, VOp.mk (some 5) (.binOp .neq 9 (.tmp 3) (.tmp 4) 9) none, VOp.mk (some 2) (.assign (.tmp 5)) none]).seq VCode.ret)
theorem fn240 : FnOk Tryz.prog 240 6 vc240 [ResultVar.tmp 2] := ⟨Tryz.f240, _, [], Tryz.func240, rfl, rfl, rfl, by kernel_rfl, by kernel_rfl, by kernel_rfl⟩

end Go.Vt.Tryz
