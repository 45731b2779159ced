/- The sort of the library, sorted: their codes, with types and functions left open (printed by mksort.py). -/
import Derived.Test.YtdabfkmhkoppcaaGreatDoorVtEnvC
set_option maxRecDepth 100000
namespace Go.Vt.Tryz
open Go.Proofs

def cSwapR (tS tE : TypeId) : VCode := (VCode.ops [VOp.mk (some 10) (.assign (.const (.int .i64 0))) none]).seq (VCode.block 0 (((VCode.ops [VOp.mk (some 11) (.move (.tmp 10)) none, VOp.mk (some 12) (.move (.tmp
  3)) none, VOp.mk (some 13) (.binOp .lss 3 (.tmp 11) (.tmp 12) 3) none]).seq (VCode.cond (.tmp 13) VCode.skip (VCode.exit 0))).seq ((VCode.block 1 (VCode.ops [VOp.mk (some 16)
  (.move (.tmp 0)) none, VOp.mk (some 17) (.move (.tmp 1)) none, VOp.mk (some 18) (.move (.tmp 10)) none, VOp.mk (some 19) (.binOp .add 3 (.tmp 17) (.tmp 18) 3) none, VOp.mk
  (some 20) (.move (.tmp 0)) none, VOp.mk (some 21) (.move (.tmp 2)) none, VOp.mk (some 22) (.move (.tmp 10)) none, VOp.mk (some 23) (.binOp .add 3 (.tmp 21) (.tmp 22) 3) none,
  VOp.mk (some 24) (.move (.tmp 0)) none, VOp.mk (some 25) (.move (.tmp 2)) none, VOp.mk (some 26) (.move (.tmp 10)) none, VOp.mk (some 27) (.binOp .add 3 (.tmp 25) (.tmp 26) 3)
  none, VOp.mk (some 28) (.indexAddr tS (.tmp 24) (.tmp 27)) none, VOp.mk (some 29) (.load tE (.tmp 28)) none, VOp.mk (some 30) (.move (.tmp 0)) none, VOp.mk (some 31) (.move
  (.tmp 1)) none, VOp.mk (some 32) (.move (.tmp 10)) none, VOp.mk (some 33) (.binOp .add 3 (.tmp 31) (.tmp 32) 3) none, VOp.mk (some 34) (.indexAddr tS (.tmp 30) (.tmp 33))
  none, VOp.mk (some 35) (.load tE (.tmp 34)) none, VOp.mk (some 36) (.indexAddr tS (.tmp 16) (.tmp 19)) none, VOp.mk none (.store tE (.tmp 36) (.tmp 29)) none, VOp.mk (some 37)
  (.indexAddr tS (.tmp 20) (.tmp 23)) none, VOp.mk none (.store tE (.tmp 37) (.tmp 35)) none])).seq (VCode.ops [VOp.mk (some 14) (.move (.tmp 10)) none, VOp.mk (some 15) (.binOp
  .add 3 (.tmp 14) (.const (.int .i64 1)) 3) none, VOp.mk (some 10) (.assign (.tmp 15)) none]))).loop)
def cRot (tS tF : TypeId) (fR : FuncId) : VCode := (VCode.ops [VOp.mk (some 12) (.move (.tmp 2)) none, VOp.mk (some 13) (.move (.tmp 1)) none, VOp.mk (some 14) (.binOp .sub 3 (.tmp 12) (.tmp 13) 3) none, VOp.mk (some 10)
  (.assign (.tmp 14)) none]).seq ((VCode.ops [VOp.mk (some 15) (.move (.tmp 3)) none, VOp.mk (some 16) (.move (.tmp 2)) none, VOp.mk (some 17) (.binOp .sub 3 (.tmp 15) (.tmp 16)
  3) none, VOp.mk (some 11) (.assign (.tmp 17)) none]).seq ((VCode.block 0 (((VCode.ops [VOp.mk (some 18) (.move (.tmp 10)) none, VOp.mk (some 19) (.move (.tmp 11)) none, VOp.mk
  (some 20) (.binOp .neq 3 (.tmp 18) (.tmp 19) 3) none]).seq (VCode.cond (.tmp 20) VCode.skip (VCode.exit 0))).seq (VCode.block 1 ((VCode.ops [VOp.mk (some 21) (.move (.tmp 10))
  none, VOp.mk (some 22) (.move (.tmp 11)) none, VOp.mk (some 23) (.binOp .gtr 3 (.tmp 21) (.tmp 22) 3) none]).seq (VCode.cond (.tmp 23) ((VCode.ops [VOp.mk (some 24) (.move
  (.tmp 0)) none, VOp.mk (some 25) (.move (.tmp 2)) none, VOp.mk (some 26) (.move (.tmp 10)) none, VOp.mk (some 27) (.binOp .sub 3 (.tmp 25) (.tmp 26) 3) none, VOp.mk (some 28)
  (.move (.tmp 2)) none, VOp.mk (some 29) (.move (.tmp 11)) none, VOp.mk (some 30) (.move (.tmp 4)) none, VOp.mk (some 31) (.call (.mk (.value (.func fR)) #[.tmp 24, .tmp 27,
  .tmp 28, .tmp 29, .tmp 30] #[tS, 3, 3, 3, tF])) none]).seq (VCode.ops [VOp.mk (some 32) (.move (.tmp 10)) none, VOp.mk (some 33) (.move (.tmp 11)) none, VOp.mk (some 34)
  (.binOp .sub 3 (.tmp 32) (.tmp 33) 3) none, VOp.mk (some 10) (.assign (.tmp 34)) none])) ((VCode.ops [VOp.mk (some 35) (.move (.tmp 0)) none, VOp.mk (some 36) (.move (.tmp 2))
  none, VOp.mk (some 37) (.move (.tmp 10)) none, VOp.mk (some 38) (.binOp .sub 3 (.tmp 36) (.tmp 37) 3) none, VOp.mk (some 39) (.move (.tmp 2)) none, VOp.mk (some 40) (.move
  (.tmp 11)) none, VOp.mk (some 41) (.binOp .add 3 (.tmp 39) (.tmp 40) 3) none, VOp.mk (some 42) (.move (.tmp 10)) none, VOp.mk (some 43) (.binOp .sub 3 (.tmp 41) (.tmp 42) 3)
  none, VOp.mk (some 44) (.move (.tmp 10)) none, VOp.mk (some 45) (.move (.tmp 4)) none, VOp.mk (some 46) (.call (.mk (.value (.func fR)) #[.tmp 35, .tmp 38, .tmp 43, .tmp 44,
  .tmp 45] #[tS, 3, 3, 3, tF])) none]).seq (VCode.ops [VOp.mk (some 47) (.move (.tmp 11)) none, VOp.mk (some 48) (.move (.tmp 10)) none, VOp.mk (some 49) (.binOp .sub 3 (.tmp
  47) (.tmp 48) 3) none, VOp.mk (some 11) (.assign (.tmp 49)) none])))))).loop).seq (VCode.ops [VOp.mk (some 50) (.move (.tmp 0)) none, VOp.mk (some 51) (.move (.tmp 2)) none,
  VOp.mk (some 52) (.move (.tmp 10)) none, VOp.mk (some 53) (.binOp .sub 3 (.tmp 51) (.tmp 52) 3) none, VOp.mk (some 54) (.move (.tmp 2)) none, VOp.mk (some 55) (.move (.tmp
  10)) none, VOp.mk (some 56) (.move (.tmp 4)) none, VOp.mk (some 57) (.call (.mk (.value (.func fR)) #[.tmp 50, .tmp 53, .tmp 54, .tmp 55, .tmp 56] #[tS, 3, 3, 3, tF]))
  none])))
def cIns (tS tE : TypeId) : VCode := (VCode.ops [VOp.mk (some 10) (.move (.tmp 1)) none, VOp.mk (some 11) (.binOp .add 3 (.tmp 10) (.const (.int .i64 1)) 3) none, VOp.mk (some 8) (.assign (.tmp 11)) none]).seq
  (VCode.block 0 (((VCode.ops [VOp.mk (some 12) (.move (.tmp 8)) none, VOp.mk (some 13) (.move (.tmp 2)) none, VOp.mk (some 14) (.binOp .lss 3 (.tmp 12) (.tmp 13) 3) none]).seq
  (VCode.cond (.tmp 14) VCode.skip (VCode.exit 0))).seq ((VCode.block 1 ((VCode.ops [VOp.mk (some 17) (.move (.tmp 8)) none, VOp.mk (some 9) (.assign (.tmp 17)) none]).seq
  (VCode.block 2 (((VCode.ops [VOp.mk (some 18) (.move (.tmp 9)) none, VOp.mk (some 19) (.move (.tmp 1)) none, VOp.mk (some 20) (.binOp .gtr 3 (.tmp 18) (.tmp 19) 3) none,
  VOp.mk (some 21) (.move (.tmp 20)) none, VOp.mk (some 22) (.move (.tmp 3)) (some (some 21, true)), VOp.mk (some 23) (.move (.tmp 0)) (some (some 21, true)), VOp.mk (some 24)
  (.move (.tmp 9)) (some (some 21, true)), VOp.mk (some 25) (.indexAddr tS (.tmp 23) (.tmp 24)) (some (some 21, true)), VOp.mk (some 26) (.load tE (.tmp 25)) (some (some 21,
  true)), VOp.mk (some 27) (.move (.tmp 0)) (some (some 21, true)), VOp.mk (some 28) (.move (.tmp 9)) (some (some 21, true)), VOp.mk (some 29) (.binOp .sub 3 (.tmp 28) (.const
  (.int .i64 1)) 3) (some (some 21, true)), VOp.mk (some 30) (.indexAddr tS (.tmp 27) (.tmp 29)) (some (some 21, true)), VOp.mk (some 31) (.load tE (.tmp 30)) (some (some 21,
  true)), VOp.mk (some 32) (.call (.mk (.value (.tmp 22)) #[.tmp 26, .tmp 31] #[tE, tE])) (some (some 21, true)), VOp.mk (some 33) (.binOp .lss 3 (.tmp 32) (.const (.int .i64
  0)) 3) (some (some 21, true)), VOp.mk (some 34) (.pick (.tmp 21) (.tmp 33) (.const (.bool false))) none]).seq (VCode.cond (.tmp 34) VCode.skip (VCode.exit 2))).seq
  ((VCode.block 3 (VCode.ops [VOp.mk (some 37) (.move (.tmp 0)) none, VOp.mk (some 38) (.move (.tmp 9)) none, VOp.mk (some 39) (.move (.tmp 0)) none, VOp.mk (some 40) (.move
  (.tmp 9)) none, VOp.mk (some 41) (.binOp .sub 3 (.tmp 40) (.const (.int .i64 1)) 3) none, VOp.mk (some 42) (.move (.tmp 0)) none, VOp.mk (some 43) (.move (.tmp 9)) none,
  VOp.mk (some 44) (.binOp .sub 3 (.tmp 43) (.const (.int .i64 1)) 3) none, VOp.mk (some 45) (.indexAddr tS (.tmp 42) (.tmp 44)) none, VOp.mk (some 46) (.load tE (.tmp 45))
  none, VOp.mk (some 47) (.move (.tmp 0)) none, VOp.mk (some 48) (.move (.tmp 9)) none, VOp.mk (some 49) (.indexAddr tS (.tmp 47) (.tmp 48)) none, VOp.mk (some 50) (.load tE
  (.tmp 49)) none, VOp.mk (some 51) (.indexAddr tS (.tmp 37) (.tmp 38)) none, VOp.mk none (.store tE (.tmp 51) (.tmp 46)) none, VOp.mk (some 52) (.indexAddr tS (.tmp 39) (.tmp
  41)) none, VOp.mk none (.store tE (.tmp 52) (.tmp 50)) none])).seq (VCode.ops [VOp.mk (some 35) (.move (.tmp 9)) none, VOp.mk (some 36) (.binOp .sub 3 (.tmp 35) (.const (.int
  .i64 1)) 3) none, VOp.mk (some 9) (.assign (.tmp 36)) none]))).loop))).seq (VCode.ops [VOp.mk (some 15) (.move (.tmp 8)) none, VOp.mk (some 16) (.binOp .add 3 (.tmp 15)
  (.const (.int .i64 1)) 3) none, VOp.mk (some 8) (.assign (.tmp 16)) none]))).loop)
def cSymA (tS tF : TypeId) (fO : FuncId) : VCode := ((VCode.ops [VOp.mk (some 178) (.move (.tmp 20)) none, VOp.mk (some 179) (.move (.tmp 2)) none, VOp.mk (some 180) (.binOp .lss 3 (.tmp 178) (.tmp 179) 3) none, VOp.mk (some
  181) (.move (.tmp 180)) none, VOp.mk (some 182) (.move (.tmp 2)) (some (some 181, true)), VOp.mk (some 183) (.move (.tmp 24)) (some (some 181, true)), VOp.mk (some 184)
  (.binOp .lss 3 (.tmp 182) (.tmp 183) 3) (some (some 181, true)), VOp.mk (some 185) (.pick (.tmp 181) (.tmp 184) (.const (.bool false))) none]).seq (VCode.cond (.tmp 185)
  (VCode.ops [VOp.mk (some 186) (.move (.tmp 0)) none, VOp.mk (some 187) (.move (.tmp 20)) none, VOp.mk (some 188) (.move (.tmp 2)) none, VOp.mk (some 189) (.move (.tmp 24))
  none, VOp.mk (some 190) (.move (.tmp 4)) none, VOp.mk (some 191) (.call (.mk (.value (.func fO)) #[.tmp 186, .tmp 187, .tmp 188, .tmp 189, .tmp 190] #[tS, 3, 3, 3, tF]))
  none]) VCode.skip))
def cSymB (tS tF : TypeId) (fM : FuncId) : VCode := ((VCode.ops [VOp.mk (some 192) (.move (.tmp 1)) none, VOp.mk (some 193) (.move (.tmp 20)) none, VOp.mk (some 194) (.binOp .lss 3 (.tmp 192) (.tmp 193) 3) none, VOp.mk (some
  195) (.move (.tmp 194)) none, VOp.mk (some 196) (.move (.tmp 20)) (some (some 195, true)), VOp.mk (some 197) (.move (.tmp 18)) (some (some 195, true)), VOp.mk (some 198)
  (.binOp .lss 3 (.tmp 196) (.tmp 197) 3) (some (some 195, true)), VOp.mk (some 199) (.pick (.tmp 195) (.tmp 198) (.const (.bool false))) none]).seq (VCode.cond (.tmp 199)
  (VCode.ops [VOp.mk (some 200) (.move (.tmp 0)) none, VOp.mk (some 201) (.move (.tmp 1)) none, VOp.mk (some 202) (.move (.tmp 20)) none, VOp.mk (some 203) (.move (.tmp 18))
  none, VOp.mk (some 204) (.move (.tmp 4)) none, VOp.mk (some 205) (.call (.mk (.value (.func fM)) #[.tmp 200, .tmp 201, .tmp 202, .tmp 203, .tmp 204] #[tS, 3, 3, 3, tF]))
  none]) VCode.skip))
def cSymC (tS tF : TypeId) (fM : FuncId) : VCode := ((VCode.ops [VOp.mk (some 206) (.move (.tmp 18)) none, VOp.mk (some 207) (.move (.tmp 24)) none, VOp.mk (some 208) (.binOp .lss 3 (.tmp 206) (.tmp 207) 3) none, VOp.mk (some
  209) (.move (.tmp 208)) none, VOp.mk (some 210) (.move (.tmp 24)) (some (some 209, true)), VOp.mk (some 211) (.move (.tmp 3)) (some (some 209, true)), VOp.mk (some 212)
  (.binOp .lss 3 (.tmp 210) (.tmp 211) 3) (some (some 209, true)), VOp.mk (some 213) (.pick (.tmp 209) (.tmp 212) (.const (.bool false))) none]).seq (VCode.cond (.tmp 213)
  (VCode.ops [VOp.mk (some 214) (.move (.tmp 0)) none, VOp.mk (some 215) (.move (.tmp 18)) none, VOp.mk (some 216) (.move (.tmp 24)) none, VOp.mk (some 217) (.move (.tmp 3))
  none, VOp.mk (some 218) (.move (.tmp 4)) none, VOp.mk (some 219) (.call (.mk (.value (.func fM)) #[.tmp 214, .tmp 215, .tmp 216, .tmp 217, .tmp 218] #[tS, 3, 3, 3, tF]))
  none]) VCode.skip))
def cSym (tS tE tF : TypeId) (fO fM : FuncId) : VCode := ((VCode.ops [VOp.mk (some 25) (.move (.tmp 2)) none, VOp.mk (some 26) (.move (.tmp 1)) none, VOp.mk (some 27) (.binOp .sub 3 (.tmp 25) (.tmp 26) 3) none, VOp.mk (some 28)
  (.binOp .eql 3 (.tmp 27) (.const (.int .i64 1)) 3) none]).seq (VCode.cond (.tmp 28) ((VCode.ops [VOp.mk (some 29) (.move (.tmp 2)) none, VOp.mk (some 10) (.assign (.tmp 29))
  none]).seq ((VCode.ops [VOp.mk (some 30) (.move (.tmp 3)) none, VOp.mk (some 11) (.assign (.tmp 30)) none]).seq ((VCode.block 0 (((VCode.ops [VOp.mk (some 31) (.move (.tmp
  10)) none, VOp.mk (some 32) (.move (.tmp 11)) none, VOp.mk (some 33) (.binOp .lss 3 (.tmp 31) (.tmp 32) 3) none]).seq (VCode.cond (.tmp 33) VCode.skip (VCode.exit 0))).seq
  (VCode.block 1 ((VCode.ops [VOp.mk (some 34) (.move (.tmp 10)) none, VOp.mk (some 35) (.move (.tmp 11)) none, VOp.mk (some 36) (.binOp .add 3 (.tmp 34) (.tmp 35) 3) none,
  VOp.mk (some 37) (.convert 3 357 (.tmp 36)) none, VOp.mk (some 38) (.binOp .shr 357 (.tmp 37) (.const (.int .u64 1)) 357) none, VOp.mk (some 39) (.convert 357 3 (.tmp 38))
  none, VOp.mk (some 12) (.assign (.tmp 39)) none]).seq ((VCode.ops [VOp.mk (some 40) (.move (.tmp 4)) none, VOp.mk (some 41) (.move (.tmp 0)) none, VOp.mk (some 42) (.move
  (.tmp 12)) none, VOp.mk (some 43) (.indexAddr tS (.tmp 41) (.tmp 42)) none, VOp.mk (some 44) (.load tE (.tmp 43)) none, VOp.mk (some 45) (.move (.tmp 0)) none, VOp.mk (some
  46) (.move (.tmp 1)) none, VOp.mk (some 47) (.indexAddr tS (.tmp 45) (.tmp 46)) none, VOp.mk (some 48) (.load tE (.tmp 47)) none, VOp.mk (some 49) (.call (.mk (.value (.tmp
  40)) #[.tmp 44, .tmp 48] #[tE, tE])) none, VOp.mk (some 50) (.binOp .lss 3 (.tmp 49) (.const (.int .i64 0)) 3) none]).seq (VCode.cond (.tmp 50) (VCode.ops [VOp.mk (some 51)
  (.move (.tmp 12)) none, VOp.mk (some 52) (.binOp .add 3 (.tmp 51) (.const (.int .i64 1)) 3) none, VOp.mk (some 10) (.assign (.tmp 52)) none]) (VCode.ops [VOp.mk (some 53)
  (.move (.tmp 12)) none, VOp.mk (some 11) (.assign (.tmp 53)) none])))))).loop).seq (((VCode.ops [VOp.mk (some 54) (.move (.tmp 1)) none, VOp.mk (some 13) (.assign (.tmp 54))
  none]).seq (VCode.block 2 (((VCode.ops [VOp.mk (some 55) (.move (.tmp 13)) none, VOp.mk (some 56) (.move (.tmp 10)) none, VOp.mk (some 57) (.binOp .sub 3 (.tmp 56) (.const
  (.int .i64 1)) 3) none, VOp.mk (some 58) (.binOp .lss 3 (.tmp 55) (.tmp 57) 3) none]).seq (VCode.cond (.tmp 58) VCode.skip (VCode.exit 2))).seq ((VCode.block 3 (VCode.ops
  [VOp.mk (some 61) (.move (.tmp 0)) none, VOp.mk (some 62) (.move (.tmp 13)) none, VOp.mk (some 63) (.move (.tmp 0)) none, VOp.mk (some 64) (.move (.tmp 13)) none, VOp.mk (some
  65) (.binOp .add 3 (.tmp 64) (.const (.int .i64 1)) 3) none, VOp.mk (some 66) (.move (.tmp 0)) none, VOp.mk (some 67) (.move (.tmp 13)) none, VOp.mk (some 68) (.binOp .add 3
  (.tmp 67) (.const (.int .i64 1)) 3) none, VOp.mk (some 69) (.indexAddr tS (.tmp 66) (.tmp 68)) none, VOp.mk (some 70) (.load tE (.tmp 69)) none, VOp.mk (some 71) (.move (.tmp
  0)) none, VOp.mk (some 72) (.move (.tmp 13)) none, VOp.mk (some 73) (.indexAddr tS (.tmp 71) (.tmp 72)) none, VOp.mk (some 74) (.load tE (.tmp 73)) none, VOp.mk (some 75)
  (.indexAddr tS (.tmp 61) (.tmp 62)) none, VOp.mk none (.store tE (.tmp 75) (.tmp 70)) none, VOp.mk (some 76) (.indexAddr tS (.tmp 63) (.tmp 65)) none, VOp.mk none (.store tE
  (.tmp 76) (.tmp 74)) none])).seq (VCode.ops [VOp.mk (some 59) (.move (.tmp 13)) none, VOp.mk (some 60) (.binOp .add 3 (.tmp 59) (.const (.int .i64 1)) 3) none, VOp.mk (some
  13) (.assign (.tmp 60)) none]))).loop)).seq VCode.ret)))) VCode.skip)).seq (((VCode.ops [VOp.mk (some 77) (.move (.tmp 3)) none, VOp.mk (some 78) (.move (.tmp 2)) none, VOp.mk
  (some 79) (.binOp .sub 3 (.tmp 77) (.tmp 78) 3) none, VOp.mk (some 80) (.binOp .eql 3 (.tmp 79) (.const (.int .i64 1)) 3) none]).seq (VCode.cond (.tmp 80) ((VCode.ops [VOp.mk
  (some 81) (.move (.tmp 1)) none, VOp.mk (some 14) (.assign (.tmp 81)) none]).seq ((VCode.ops [VOp.mk (some 82) (.move (.tmp 2)) none, VOp.mk (some 15) (.assign (.tmp 82))
  none]).seq ((VCode.block 4 (((VCode.ops [VOp.mk (some 83) (.move (.tmp 14)) none, VOp.mk (some 84) (.move (.tmp 15)) none, VOp.mk (some 85) (.binOp .lss 3 (.tmp 83) (.tmp 84)
  3) none]).seq (VCode.cond (.tmp 85) VCode.skip (VCode.exit 4))).seq (VCode.block 5 ((VCode.ops [VOp.mk (some 86) (.move (.tmp 14)) none, VOp.mk (some 87) (.move (.tmp 15))
  none, VOp.mk (some 88) (.binOp .add 3 (.tmp 86) (.tmp 87) 3) none, VOp.mk (some 89) (.convert 3 357 (.tmp 88)) none, VOp.mk (some 90) (.binOp .shr 357 (.tmp 89) (.const (.int
  .u64 1)) 357) none, VOp.mk (some 91) (.convert 357 3 (.tmp 90)) none, VOp.mk (some 16) (.assign (.tmp 91)) none]).seq ((VCode.ops [VOp.mk (some 92) (.move (.tmp 4)) none,
  VOp.mk (some 93) (.move (.tmp 0)) none, VOp.mk (some 94) (.move (.tmp 2)) none, VOp.mk (some 95) (.indexAddr tS (.tmp 93) (.tmp 94)) none, VOp.mk (some 96) (.load tE (.tmp
  95)) none, VOp.mk (some 97) (.move (.tmp 0)) none, VOp.mk (some 98) (.move (.tmp 16)) none, VOp.mk (some 99) (.indexAddr tS (.tmp 97) (.tmp 98)) none, VOp.mk (some 100) (.load
  tE (.tmp 99)) none, VOp.mk (some 101) (.call (.mk (.value (.tmp 92)) #[.tmp 96, .tmp 100] #[tE, tE])) none, VOp.mk (some 102) (.binOp .lss 3 (.tmp 101) (.const (.int .i64 0))
  3) none, VOp.mk (some 103) (.unOp .not 4 (.tmp 102)) none]).seq (VCode.cond (.tmp 103) (VCode.ops [VOp.mk (some 104) (.move (.tmp 16)) none, VOp.mk (some 105) (.binOp .add 3
  (.tmp 104) (.const (.int .i64 1)) 3) none, VOp.mk (some 14) (.assign (.tmp 105)) none]) (VCode.ops [VOp.mk (some 106) (.move (.tmp 16)) none, VOp.mk (some 15) (.assign (.tmp
  106)) none])))))).loop).seq (((VCode.ops [VOp.mk (some 107) (.move (.tmp 2)) none, VOp.mk (some 17) (.assign (.tmp 107)) none]).seq (VCode.block 6 (((VCode.ops [VOp.mk (some
  108) (.move (.tmp 17)) none, VOp.mk (some 109) (.move (.tmp 14)) none, VOp.mk (some 110) (.binOp .gtr 3 (.tmp 108) (.tmp 109) 3) none]).seq (VCode.cond (.tmp 110) VCode.skip
  (VCode.exit 6))).seq ((VCode.block 7 (VCode.ops [VOp.mk (some 113) (.move (.tmp 0)) none, VOp.mk (some 114) (.move (.tmp 17)) none, VOp.mk (some 115) (.move (.tmp 0)) none,
  VOp.mk (some 116) (.move (.tmp 17)) none, VOp.mk (some 117) (.binOp .sub 3 (.tmp 116) (.const (.int .i64 1)) 3) none, VOp.mk (some 118) (.move (.tmp 0)) none, VOp.mk (some
  119) (.move (.tmp 17)) none, VOp.mk (some 120) (.binOp .sub 3 (.tmp 119) (.const (.int .i64 1)) 3) none, VOp.mk (some 121) (.indexAddr tS (.tmp 118) (.tmp 120)) none, VOp.mk
  (some 122) (.load tE (.tmp 121)) none, VOp.mk (some 123) (.move (.tmp 0)) none, VOp.mk (some 124) (.move (.tmp 17)) none, VOp.mk (some 125) (.indexAddr tS (.tmp 123) (.tmp
  124)) none, VOp.mk (some 126) (.load tE (.tmp 125)) none, VOp.mk (some 127) (.indexAddr tS (.tmp 113) (.tmp 114)) none, VOp.mk none (.store tE (.tmp 127) (.tmp 122)) none,
  VOp.mk (some 128) (.indexAddr tS (.tmp 115) (.tmp 117)) none, VOp.mk none (.store tE (.tmp 128) (.tmp 126)) none])).seq (VCode.ops [VOp.mk (some 111) (.move (.tmp 17)) none,
  VOp.mk (some 112) (.binOp .sub 3 (.tmp 111) (.const (.int .i64 1)) 3) none, VOp.mk (some 17) (.assign (.tmp 112)) none]))).loop)).seq VCode.ret)))) VCode.skip)).seq
  ((VCode.ops [VOp.mk (some 129) (.move (.tmp 1)) none, VOp.mk (some 130) (.move (.tmp 3)) none, VOp.mk (some 131) (.binOp .add 3 (.tmp 129) (.tmp 130) 3) none, VOp.mk (some
  132) (.convert 3 357 (.tmp 131)) none, VOp.mk (some 133) (.binOp .shr 357 (.tmp 132) (.const (.int .u64 1)) 357) none, VOp.mk (some 134) (.convert 357 3 (.tmp 133)) none,
  VOp.mk (some 18) (.assign (.tmp 134)) none]).seq ((VCode.ops [VOp.mk (some 135) (.move (.tmp 18)) none, VOp.mk (some 136) (.move (.tmp 2)) none, VOp.mk (some 137) (.binOp .add
  3 (.tmp 135) (.tmp 136) 3) none, VOp.mk (some 19) (.assign (.tmp 137)) none]).seq ((VCode.ops [VOp.mk (some 20) (.assign (.const (.int .i64 0))) none, VOp.mk (some 21)
  (.assign (.const (.int .i64 0))) none]).seq (((VCode.ops [VOp.mk (some 138) (.move (.tmp 2)) none, VOp.mk (some 139) (.move (.tmp 18)) none, VOp.mk (some 140) (.binOp .gtr 3
  (.tmp 138) (.tmp 139) 3) none]).seq (VCode.cond (.tmp 140) ((VCode.ops [VOp.mk (some 141) (.move (.tmp 19)) none, VOp.mk (some 142) (.move (.tmp 3)) none, VOp.mk (some 143)
  (.binOp .sub 3 (.tmp 141) (.tmp 142) 3) none, VOp.mk (some 20) (.assign (.tmp 143)) none]).seq (VCode.ops [VOp.mk (some 144) (.move (.tmp 18)) none, VOp.mk (some 21) (.assign
  (.tmp 144)) none])) ((VCode.ops [VOp.mk (some 145) (.move (.tmp 1)) none, VOp.mk (some 20) (.assign (.tmp 145)) none]).seq (VCode.ops [VOp.mk (some 146) (.move (.tmp 2)) none,
  VOp.mk (some 21) (.assign (.tmp 146)) none])))).seq ((VCode.ops [VOp.mk (some 147) (.move (.tmp 19)) none, VOp.mk (some 148) (.binOp .sub 3 (.tmp 147) (.const (.int .i64 1))
  3) none, VOp.mk (some 22) (.assign (.tmp 148)) none]).seq ((VCode.block 8 (((VCode.ops [VOp.mk (some 149) (.move (.tmp 20)) none, VOp.mk (some 150) (.move (.tmp 21)) none,
  VOp.mk (some 151) (.binOp .lss 3 (.tmp 149) (.tmp 150) 3) none]).seq (VCode.cond (.tmp 151) VCode.skip (VCode.exit 8))).seq (VCode.block 9 ((VCode.ops [VOp.mk (some 152)
  (.move (.tmp 20)) none, VOp.mk (some 153) (.move (.tmp 21)) none, VOp.mk (some 154) (.binOp .add 3 (.tmp 152) (.tmp 153) 3) none, VOp.mk (some 155) (.convert 3 357 (.tmp 154))
  none, VOp.mk (some 156) (.binOp .shr 357 (.tmp 155) (.const (.int .u64 1)) 357) none, VOp.mk (some 157) (.convert 357 3 (.tmp 156)) none, VOp.mk (some 23) (.assign (.tmp 157))
  none]).seq ((VCode.ops [VOp.mk (some 158) (.move (.tmp 4)) none, VOp.mk (some 159) (.move (.tmp 0)) none, VOp.mk (some 160) (.move (.tmp 22)) none, VOp.mk (some 161) (.move
  (.tmp 23)) none, VOp.mk (some 162) (.binOp .sub 3 (.tmp 160) (.tmp 161) 3) none, VOp.mk (some 163) (.indexAddr tS (.tmp 159) (.tmp 162)) none, VOp.mk (some 164) (.load tE
  (.tmp 163)) none, VOp.mk (some 165) (.move (.tmp 0)) none, VOp.mk (some 166) (.move (.tmp 23)) none, VOp.mk (some 167) (.indexAddr tS (.tmp 165) (.tmp 166)) none, VOp.mk (some
  168) (.load tE (.tmp 167)) none, VOp.mk (some 169) (.call (.mk (.value (.tmp 158)) #[.tmp 164, .tmp 168] #[tE, tE])) none, VOp.mk (some 170) (.binOp .lss 3 (.tmp 169) (.const
  (.int .i64 0)) 3) none, VOp.mk (some 171) (.unOp .not 4 (.tmp 170)) none]).seq (VCode.cond (.tmp 171) (VCode.ops [VOp.mk (some 172) (.move (.tmp 23)) none, VOp.mk (some 173)
  (.binOp .add 3 (.tmp 172) (.const (.int .i64 1)) 3) none, VOp.mk (some 20) (.assign (.tmp 173)) none]) (VCode.ops [VOp.mk (some 174) (.move (.tmp 23)) none, VOp.mk (some 21)
  (.assign (.tmp 174)) none])))))).loop).seq ((VCode.ops [VOp.mk (some 175) (.move (.tmp 19)) none, VOp.mk (some 176) (.move (.tmp 20)) none, VOp.mk (some 177) (.binOp .sub 3
  (.tmp 175) (.tmp 176) 3) none, VOp.mk (some 24) (.assign (.tmp 177)) none]).seq ((cSymA tS tF fO).seq ((cSymB tS tF fM).seq (cSymC tS tF fM)))))))))))
def cStab (tS tF : TypeId) (fN fM : FuncId) : VCode := (VCode.ops [VOp.mk (some 6) (.assign (.const (.int .i64 20))) none]).seq ((VCode.ops [VOp.mk (some 10) (.move (.tmp 6)) none, VOp.mk (some 7) (.assign (.const (.int .i64 0)))
  none, VOp.mk (some 8) (.assign (.tmp 10)) none]).seq ((VCode.block 0 (((VCode.ops [VOp.mk (some 11) (.move (.tmp 8)) none, VOp.mk (some 12) (.move (.tmp 1)) none, VOp.mk (some
  13) (.binOp .leq 3 (.tmp 11) (.tmp 12) 3) none]).seq (VCode.cond (.tmp 13) VCode.skip (VCode.exit 0))).seq (VCode.block 1 ((VCode.ops [VOp.mk (some 14) (.move (.tmp 0)) none,
  VOp.mk (some 15) (.move (.tmp 7)) none, VOp.mk (some 16) (.move (.tmp 8)) none, VOp.mk (some 17) (.move (.tmp 2)) none, VOp.mk (some 18) (.call (.mk (.value (.func fN)) #[.tmp
  14, .tmp 15, .tmp 16, .tmp 17] #[tS, 3, 3, tF])) none]).seq ((VCode.ops [VOp.mk (some 19) (.move (.tmp 8)) none, VOp.mk (some 7) (.assign (.tmp 19)) none]).seq (VCode.ops
  [VOp.mk (some 20) (.move (.tmp 8)) none, VOp.mk (some 21) (.move (.tmp 6)) none, VOp.mk (some 22) (.binOp .add 3 (.tmp 20) (.tmp 21) 3) none, VOp.mk (some 8) (.assign (.tmp
  22)) none]))))).loop).seq ((VCode.ops [VOp.mk (some 23) (.move (.tmp 0)) none, VOp.mk (some 24) (.move (.tmp 7)) none, VOp.mk (some 25) (.move (.tmp 1)) none, VOp.mk (some 26)
  (.move (.tmp 2)) none, VOp.mk (some 27) (.call (.mk (.value (.func fN)) #[.tmp 23, .tmp 24, .tmp 25, .tmp 26] #[tS, 3, 3, tF])) none]).seq (VCode.block 2 (((VCode.ops [VOp.mk
  (some 28) (.move (.tmp 6)) none, VOp.mk (some 29) (.move (.tmp 1)) none, VOp.mk (some 30) (.binOp .lss 3 (.tmp 28) (.tmp 29) 3) none]).seq (VCode.cond (.tmp 30) VCode.skip
  (VCode.exit 2))).seq (VCode.block 3 ((VCode.ops [VOp.mk (some 31) (.move (.tmp 6)) none, VOp.mk (some 32) (.binOp .mul 3 (.const (.int .i64 2)) (.tmp 31) 3) none, VOp.mk (some
  7) (.assign (.const (.int .i64 0))) none, VOp.mk (some 8) (.assign (.tmp 32)) none]).seq ((VCode.block 4 (((VCode.ops [VOp.mk (some 33) (.move (.tmp 8)) none, VOp.mk (some 34)
  (.move (.tmp 1)) none, VOp.mk (some 35) (.binOp .leq 3 (.tmp 33) (.tmp 34) 3) none]).seq (VCode.cond (.tmp 35) VCode.skip (VCode.exit 4))).seq (VCode.block 5 ((VCode.ops
  [VOp.mk (some 36) (.move (.tmp 0)) none, VOp.mk (some 37) (.move (.tmp 7)) none, VOp.mk (some 38) (.move (.tmp 7)) none, VOp.mk (some 39) (.move (.tmp 6)) none, VOp.mk (some
  40) (.binOp .add 3 (.tmp 38) (.tmp 39) 3) none, VOp.mk (some 41) (.move (.tmp 8)) none, VOp.mk (some 42) (.move (.tmp 2)) none, VOp.mk (some 43) (.call (.mk (.value (.func
  fM)) #[.tmp 36, .tmp 37, .tmp 40, .tmp 41, .tmp 42] #[tS, 3, 3, 3, tF])) none]).seq ((VCode.ops [VOp.mk (some 44) (.move (.tmp 8)) none, VOp.mk (some 7) (.assign (.tmp 44))
  none]).seq (VCode.ops [VOp.mk (some 45) (.move (.tmp 8)) none, VOp.mk (some 46) (.move (.tmp 6)) none, VOp.mk (some 47) (.binOp .mul 3 (.const (.int .i64 2)) (.tmp 46) 3)
  none, VOp.mk (some 48) (.binOp .add 3 (.tmp 45) (.tmp 47) 3) none, VOp.mk (some 8) (.assign (.tmp 48)) none]))))).loop).seq (((VCode.ops [VOp.mk (some 49) (.move (.tmp 7))
  none, VOp.mk (some 50) (.move (.tmp 6)) none, VOp.mk (some 51) (.binOp .add 3 (.tmp 49) (.tmp 50) 3) none, VOp.mk (some 9) (.assign (.tmp 51)) none]).seq ((VCode.ops [VOp.mk
  (some 52) (.move (.tmp 9)) none, VOp.mk (some 53) (.move (.tmp 1)) none, VOp.mk (some 54) (.binOp .lss 3 (.tmp 52) (.tmp 53) 3) none]).seq (VCode.cond (.tmp 54) (VCode.ops
  [VOp.mk (some 55) (.move (.tmp 0)) none, VOp.mk (some 56) (.move (.tmp 7)) none, VOp.mk (some 57) (.move (.tmp 9)) none, VOp.mk (some 58) (.move (.tmp 1)) none, VOp.mk (some
  59) (.move (.tmp 2)) none, VOp.mk (some 60) (.call (.mk (.value (.func fM)) #[.tmp 55, .tmp 56, .tmp 57, .tmp 58, .tmp 59] #[tS, 3, 3, 3, tF])) none]) VCode.skip))).seq
  (VCode.ops [VOp.mk (some 61) (.move (.tmp 6)) none, VOp.mk (some 62) (.binOp .mul 3 (.tmp 61) (.const (.int .i64 2)) 3) none, VOp.mk (some 6) (.assign (.tmp 62))
  none])))))).loop))))
def cSort (tS tF : TypeId) (fT : FuncId) : VCode := VCode.ops [VOp.mk (some 4) (.move (.tmp 0)) none, VOp.mk (some 5) (.move (.tmp 0)) none, VOp.mk (some 6) (.call (.mk (.builtin .len) #[.tmp 5] #[tS])) none, VOp.mk (some 7)
  (.move (.tmp 1)) none, VOp.mk (some 8) (.call (.mk (.value (.func fT)) #[.tmp 4, .tmp 6, .tmp 7] #[tS, 3, tF])) none]
def cClone (tS : TypeId) : VCode := (VCode.ops [VOp.mk (some 2) (.assign (.const (.slice none 0 0))) none]).seq (((VCode.ops [VOp.mk (some 3) (.move (.tmp 0)) none, VOp.mk (some 4) (.binOp .eql tS (.tmp 3)
  (.const (.slice none 0 0)) tS) none]).seq (VCode.cond (.tmp 4) ((VCode.ops [VOp.mk (some 2) (.assign (.const (.slice none 0 0))) none]).seq VCode.ret) VCode.skip)).seq
  ((VCode.ops [VOp.mk (some 5) (.buildSlice tS 0 #[]) none, VOp.mk (some 6) (.move (.tmp 0)) none, VOp.mk (some 7) (.call (.mk (.builtin .append) #[.tmp 5, .tmp 6] #[tS, tS]))
  none, VOp.mk (some 2) (.assign (.tmp 7)) none]).seq VCode.ret))
def cSorted (tS tE tF tN : TypeId) (fC fL fS : FuncId) : VCode := (VCode.ops [VOp.mk (some 4) (.box tN (.tmp 1)) none, VOp.mk (some 6) (.assign (.const (.slice none 0 0))) none]).seq ((VCode.ops [VOp.mk (some 9) (.move (.tmp 0)) none, VOp.mk
  (some 10) (.call (.mk (.value (.func fC)) #[.tmp 9] #[tS])) none, VOp.mk (some 7) (.assign (.tmp 10)) none]).seq (((VCode.ops [VOp.mk (some 11) (.move (.tmp 7)) none, VOp.mk
  (some 12) (.call (.mk (.builtin .len) #[.tmp 11] #[tS])) none, VOp.mk (some 13) (.move (.const (.int .i64 0))) none]).seq (VCode.block 0 ((VCode.ops [VOp.mk (some 14) (.binOp
  .lss 3 (.tmp 13) (.tmp 12) 3) none]).seq ((VCode.cond (.tmp 14) VCode.skip (VCode.exit 0)).seq ((VCode.block 1 ((VCode.ops [VOp.mk (some 15) (.move (.tmp 13)) none, VOp.mk
  (some 8) (.assign (.tmp 15)) none]).seq (VCode.ops [VOp.mk (some 16) (.move (.tmp 7)) none, VOp.mk (some 17) (.move (.tmp 8)) none, VOp.mk (some 18) (.move (.tmp 2)) none,
  VOp.mk (some 19) (.move (.tmp 7)) none, VOp.mk (some 20) (.move (.tmp 8)) none, VOp.mk (some 21) (.indexAddr tS (.tmp 19) (.tmp 20)) none, VOp.mk (some 22) (.load tE (.tmp
  21)) none, VOp.mk (some 23) (.call (.mk (.value (.tmp 18)) #[.tmp 22] #[tE])) none, VOp.mk (some 24) (.indexAddr tS (.tmp 16) (.tmp 17)) none, VOp.mk none (.store tE (.tmp 24)
  (.tmp 23)) none]))).seq (VCode.ops [VOp.mk (some 25) (.binOp .add 3 (.tmp 13) (.const (.int .i64 1)) 3) none, VOp.mk (some 13) (.move (.tmp 25)) none])))).loop)).seq
  ((VCode.ops [VOp.mk (some 26) (.move (.tmp 7)) none, VOp.mk (some 27) (.makeFunc (.func fL) #[] #[.tmp 4]) none, VOp.mk (some 28) (.call (.mk (.value (.func fS)) #[.tmp 26,
  .tmp 27] #[tS, tF])) none]).seq ((VCode.ops [VOp.mk (some 29) (.move (.tmp 7)) none, VOp.mk (some 6) (.assign (.tmp 29)) none]).seq VCode.ret))))

theorem fn300 : FnOk Tryz.prog 300 38 (cSwapR 59 133) [] := ⟨Tryz.f300, _, [], Tryz.func300, rfl, rfl, rfl, by kernel_rfl, by kernel_rfl, by kernel_rfl⟩
theorem fn278 : FnOk Tryz.prog 278 58 (cRot 59 268 300) [] := ⟨Tryz.f278, _, [], Tryz.func278, rfl, rfl, rfl, by kernel_rfl, by kernel_rfl, by kernel_rfl⟩
theorem fn238 : FnOk Tryz.prog 238 53 (cIns 59 133) [] := ⟨Tryz.f238, _, [], Tryz.func238, rfl, rfl, rfl, by kernel_rfl, by kernel_rfl, by kernel_rfl⟩
theorem fn239 : FnOk Tryz.prog 239 220 (cSym 59 133 268 278 239) [] := ⟨Tryz.f239, _, [], Tryz.func239, rfl, rfl, rfl, by kernel_rfl, by kernel_rfl, by kernel_rfl⟩
theorem fn185 : FnOk Tryz.prog 185 63 (cStab 59 268 238 239) [] := ⟨Tryz.f185, _, [], Tryz.func185, rfl, rfl, rfl, by kernel_rfl, by kernel_rfl, by kernel_rfl⟩
theorem fn127 : FnOk Tryz.prog 127 9 (cSort 59 268 185) [] := ⟨Tryz.f127, _, [], Tryz.func127, rfl, rfl, rfl, by kernel_rfl, by kernel_rfl, by kernel_rfl⟩
theorem fn126 : FnOk Tryz.prog 126 8 (cClone 59) [ResultVar.tmp 2] := ⟨Tryz.f126, _, [], Tryz.func126, rfl, rfl, rfl, by kernel_rfl, by kernel_rfl, by kernel_rfl⟩
theorem fn83 : FnOk Tryz.prog 83 30 (cSorted 59 133 268 187 126 128 127) [ResultVar.tmp 6] := ⟨Tryz.f83, _, [], Tryz.func83, rfl, rfl, rfl, by kernel_rfl, by kernel_rfl, by kernel_rfl⟩
theorem fn301 : FnOk Tryz.prog 301 38 (cSwapR 60 126) [] := ⟨Tryz.f301, _, [], Tryz.func301, rfl, rfl, rfl, by kernel_rfl, by kernel_rfl, by kernel_rfl⟩
theorem fn279 : FnOk Tryz.prog 279 58 (cRot 60 271 301) [] := ⟨Tryz.f279, _, [], Tryz.func279, rfl, rfl, rfl, by kernel_rfl, by kernel_rfl, by kernel_rfl⟩
theorem fn241 : FnOk Tryz.prog 241 53 (cIns 60 126) [] := ⟨Tryz.f241, _, [], Tryz.func241, rfl, rfl, rfl, by kernel_rfl, by kernel_rfl, by kernel_rfl⟩
theorem fn242 : FnOk Tryz.prog 242 220 (cSym 60 126 271 279 242) [] := ⟨Tryz.f242, _, [], Tryz.func242, rfl, rfl, rfl, by kernel_rfl, by kernel_rfl, by kernel_rfl⟩
theorem fn187 : FnOk Tryz.prog 187 63 (cStab 60 271 241 242) [] := ⟨Tryz.f187, _, [], Tryz.func187, rfl, rfl, rfl, by kernel_rfl, by kernel_rfl, by kernel_rfl⟩
theorem fn131 : FnOk Tryz.prog 131 9 (cSort 60 271 187) [] := ⟨Tryz.f131, _, [], Tryz.func131, rfl, rfl, rfl, by kernel_rfl, by kernel_rfl, by kernel_rfl⟩
theorem fn130 : FnOk Tryz.prog 130 8 (cClone 60) [ResultVar.tmp 2] := ⟨Tryz.f130, _, [], Tryz.func130, rfl, rfl, rfl, by kernel_rfl, by kernel_rfl, by kernel_rfl⟩
theorem fn86 : FnOk Tryz.prog 86 30 (cSorted 60 126 271 190 130 132 131) [ResultVar.tmp 6] := ⟨Tryz.f86, _, [], Tryz.func86, rfl, rfl, rfl, by kernel_rfl, by kernel_rfl, by kernel_rfl⟩
theorem fn302 : FnOk Tryz.prog 302 38 (cSwapR 61 140) [] := ⟨Tryz.f302, _, [], Tryz.func302, rfl, rfl, rfl, by kernel_rfl, by kernel_rfl, by kernel_rfl⟩
theorem fn280 : FnOk Tryz.prog 280 58 (cRot 61 274 302) [] := ⟨Tryz.f280, _, [], Tryz.func280, rfl, rfl, rfl, by kernel_rfl, by kernel_rfl, by kernel_rfl⟩
theorem fn243 : FnOk Tryz.prog 243 53 (cIns 61 140) [] := ⟨Tryz.f243, _, [], Tryz.func243, rfl, rfl, rfl, by kernel_rfl, by kernel_rfl, by kernel_rfl⟩
theorem fn244 : FnOk Tryz.prog 244 220 (cSym 61 140 274 280 244) [] := ⟨Tryz.f244, _, [], Tryz.func244, rfl, rfl, rfl, by kernel_rfl, by kernel_rfl, by kernel_rfl⟩
theorem fn188 : FnOk Tryz.prog 188 63 (cStab 61 274 243 244) [] := ⟨Tryz.f188, _, [], Tryz.func188, rfl, rfl, rfl, by kernel_rfl, by kernel_rfl, by kernel_rfl⟩
theorem fn134 : FnOk Tryz.prog 134 9 (cSort 61 274 188) [] := ⟨Tryz.f134, _, [], Tryz.func134, rfl, rfl, rfl, by kernel_rfl, by kernel_rfl, by kernel_rfl⟩
theorem fn133 : FnOk Tryz.prog 133 8 (cClone 61) [ResultVar.tmp 2] := ⟨Tryz.f133, _, [], Tryz.func133, rfl, rfl, rfl, by kernel_rfl, by kernel_rfl, by kernel_rfl⟩
theorem fn89 : FnOk Tryz.prog 89 30 (cSorted 61 140 274 193 133 135 134) [ResultVar.tmp 6] := ⟨Tryz.f89, _, [], Tryz.func89, rfl, rfl, rfl, by kernel_rfl, by kernel_rfl, by kernel_rfl⟩
theorem fn303 : FnOk Tryz.prog 303 38 (cSwapR 62 161) [] := ⟨Tryz.f303, _, [], Tryz.func303, rfl, rfl, rfl, by kernel_rfl, by kernel_rfl, by kernel_rfl⟩
theorem fn281 : FnOk Tryz.prog 281 58 (cRot 62 277 303) [] := ⟨Tryz.f281, _, [], Tryz.func281, rfl, rfl, rfl, by kernel_rfl, by kernel_rfl, by kernel_rfl⟩
theorem fn245 : FnOk Tryz.prog 245 53 (cIns 62 161) [] := ⟨Tryz.f245, _, [], Tryz.func245, rfl, rfl, rfl, by kernel_rfl, by kernel_rfl, by kernel_rfl⟩
theorem fn246 : FnOk Tryz.prog 246 220 (cSym 62 161 277 281 246) [] := ⟨Tryz.f246, _, [], Tryz.func246, rfl, rfl, rfl, by kernel_rfl, by kernel_rfl, by kernel_rfl⟩
theorem fn189 : FnOk Tryz.prog 189 63 (cStab 62 277 245 246) [] := ⟨Tryz.f189, _, [], Tryz.func189, rfl, rfl, rfl, by kernel_rfl, by kernel_rfl, by kernel_rfl⟩
theorem fn137 : FnOk Tryz.prog 137 9 (cSort 62 277 189) [] := ⟨Tryz.f137, _, [], Tryz.func137, rfl, rfl, rfl, by kernel_rfl, by kernel_rfl, by kernel_rfl⟩
theorem fn136 : FnOk Tryz.prog 136 8 (cClone 62) [ResultVar.tmp 2] := ⟨Tryz.f136, _, [], Tryz.func136, rfl, rfl, rfl, by kernel_rfl, by kernel_rfl, by kernel_rfl⟩
theorem fn92 : FnOk Tryz.prog 92 30 (cSorted 62 161 277 196 136 138 137) [ResultVar.tmp 6] := ⟨Tryz.f92, _, [], Tryz.func92, rfl, rfl, rfl, by kernel_rfl, by kernel_rfl, by kernel_rfl⟩
theorem fn304 : FnOk Tryz.prog 304 38 (cSwapR 63 162) [] := ⟨Tryz.f304, _, [], Tryz.func304, rfl, rfl, rfl, by kernel_rfl, by kernel_rfl, by kernel_rfl⟩
theorem fn282 : FnOk Tryz.prog 282 58 (cRot 63 280 304) [] := ⟨Tryz.f282, _, [], Tryz.func282, rfl, rfl, rfl, by kernel_rfl, by kernel_rfl, by kernel_rfl⟩
theorem fn247 : FnOk Tryz.prog 247 53 (cIns 63 162) [] := ⟨Tryz.f247, _, [], Tryz.func247, rfl, rfl, rfl, by kernel_rfl, by kernel_rfl, by kernel_rfl⟩
theorem fn248 : FnOk Tryz.prog 248 220 (cSym 63 162 280 282 248) [] := ⟨Tryz.f248, _, [], Tryz.func248, rfl, rfl, rfl, by kernel_rfl, by kernel_rfl, by kernel_rfl⟩
theorem fn190 : FnOk Tryz.prog 190 63 (cStab 63 280 247 248) [] := ⟨Tryz.f190, _, [], Tryz.func190, rfl, rfl, rfl, by kernel_rfl, by kernel_rfl, by kernel_rfl⟩
theorem fn140 : FnOk Tryz.prog 140 9 (cSort 63 280 190) [] := ⟨Tryz.f140, _, [], Tryz.func140, rfl, rfl, rfl, by kernel_rfl, by kernel_rfl, by kernel_rfl⟩
theorem fn139 : FnOk Tryz.prog 139 8 (cClone 63) [ResultVar.tmp 2] := ⟨Tryz.f139, _, [], Tryz.func139, rfl, rfl, rfl, by kernel_rfl, by kernel_rfl, by kernel_rfl⟩
theorem fn95 : FnOk Tryz.prog 95 30 (cSorted 63 162 280 199 139 141 140) [ResultVar.tmp 6] := ⟨Tryz.f95, _, [], Tryz.func95, rfl, rfl, rfl, by kernel_rfl, by kernel_rfl, by kernel_rfl⟩

end Go.Vt.Tryz
