/- Functions that put one call off, at the level of values, in parts (printed). -/
import Derived.Test.YtladjgdhpfcmjaaGreatDoorVtX4
set_option maxRecDepth 100000
namespace Go.Vt.Tryz
open Go.Proofs

def dp116 : List VCode := [VCode.ops [VOp.mk (some 3) (.box 115 (.tmp 0)) none], VCode.ops [VOp.mk (some 7) (.load 115 (.tmp 3)) none, VOp.mk (some 8) (.nilCheck (.tmp 7)) none,
  VOp.mk (some 9) (.fieldAddr 117 (.tmp 8) 0) none, VOp.mk (some 10) (.load 22 (.tmp 9)) none, VOp.mk (some 11) (.call (.mk (.builtin .len) #[.tmp 10] #[22])) none, VOp.mk (some 6)
  (.alloc 3) none, VOp.mk none (.store 3 (.tmp 6) (.tmp 11)) none], VCode.opsW [(0, VOp.mk (some 12) (.load 115 (.tmp 3)) none), (1, VOp.mk (some 13) (.load 115 (.tmp 3)) none), (2,
  VOp.mk (some 14) (.nilCheck (.tmp 13)) none), (3, VOp.mk (some 15) (.fieldAddr 117 (.tmp 14) 0) none), (4, VOp.mk (some 16) (.load 22 (.tmp 15)) none), (5, VOp.mk (some 17) (.move
  (.tmp 1)) none), (6, VOp.mk (some 18) (.call (.mk (.builtin .append) #[.tmp 16, .tmp 17] #[22, 22])) none), (7, VOp.mk (some 19) (.nilCheck (.tmp 12)) none), (8, VOp.mk (some 20)
  (.fieldAddr 117 (.tmp 19) 0) none), (9, VOp.mk none (.store 22 (.tmp 20) (.tmp 18)) none)] [(6, [0])]]
def do116 : List VOp := [VOp.mk (some 21) (.makeFunc (.func 192) #[] #[.tmp 3, .tmp 6]) none]
def dr116 : VCode := VCode.ops [VOp.mk (some 22) (.move (.tmp 2)) none, VOp.mk (some 23) (.call (.mk (.value (.tmp 22)) #[] #[])) none]
theorem dk116 : DfOk Tryz.prog 116 (DF.mk 24 dp116 do116 21 dr116 []) := ⟨Tryz.f116, preC 3 (bodyOf Tryz.f116), tlC (tlN 3 (bodyOf Tryz.f116)), regId (hdC (tlN 3 (bodyOf
  Tryz.f116))), (regOps (hdC (tlN 3 (bodyOf Tryz.f116)))).dropLast, (regOps (hdC (tlN 3 (bodyOf Tryz.f116)))).getLast!, [(2, [([0, 1, 2, 3, 4, 5, 6, 7, 8, 9], [(6, [0])])])],
  Tryz.func116, by kernel_rfl, by kernel_rfl, by kernel_rfl, by kernel_rfl, by kernel_rfl, by kernel_rfl, by kernel_rfl, by kernel_rfl, by kernel_rfl, by kernel_rfl, by kernel_rfl,
  by kernel_rfl, by kernel_rfl⟩

def dp54 : List VCode := [VCode.ops [VOp.mk (some 4) (.box 79 (.tmp 0)) none], VCode.ops [VOp.mk (some 10) (.load 79 (.tmp 4)) none, VOp.mk (some 11) (.nilCheck (.tmp 10)) none,
  VOp.mk (some 12) (.fieldAddr 82 (.tmp 11) 0) none, VOp.mk (some 13) (.load 22 (.tmp 12)) none, VOp.mk (some 14) (.call (.mk (.builtin .len) #[.tmp 13] #[22])) none, VOp.mk (some
  8) (.alloc 3) none, VOp.mk none (.store 3 (.tmp 8) (.tmp 14)) none], VCode.ops [VOp.mk (some 15) (.load 79 (.tmp 4)) none, VOp.mk (some 16) (.nilCheck (.tmp 15)) none, VOp.mk
  (some 17) (.fieldAddr 82 (.tmp 16) 2) none, VOp.mk (some 18) (.load 80 (.tmp 17)) none, VOp.mk (some 19) (.move (.tmp 1)) none, VOp.mk (some 20) (.move (.tmp 2)) none, VOp.mk
  (some 21) (.call (.mk (.value (.tmp 18)) #[.tmp 19, .tmp 20] #[22, 22])) none, VOp.mk (some 9) (.assign (.tmp 21)) none], VCode.opsW [(0, VOp.mk (some 22) (.load 79 (.tmp 4))
  none), (1, VOp.mk (some 23) (.load 79 (.tmp 4)) none), (2, VOp.mk (some 24) (.load 79 (.tmp 4)) none), (3, VOp.mk (some 25) (.nilCheck (.tmp 24)) none), (4, VOp.mk (some 26)
  (.fieldAddr 82 (.tmp 25) 0) none), (5, VOp.mk (some 27) (.load 22 (.tmp 26)) none), (6, VOp.mk (some 28) (.move (.tmp 1)) none), (8, VOp.mk (some 30) (.load 79 (.tmp 4)) none),
  (9, VOp.mk (some 31) (.nilCheck (.tmp 30)) none), (10, VOp.mk (some 32) (.fieldAddr 82 (.tmp 31) 1) none), (11, VOp.mk (some 33) (.load 22 (.tmp 32)) none), (12, VOp.mk (some 34)
  (.move (.tmp 9)) none), (7, VOp.mk (some 29) (.call (.mk (.builtin .append) #[.tmp 27, .tmp 28] #[22, 22])) none), (13, VOp.mk (some 35) (.call (.mk (.builtin .append) #[.tmp 33,
  .tmp 34] #[22, 22])) none), (14, VOp.mk (some 36) (.nilCheck (.tmp 22)) none), (15, VOp.mk (some 37) (.fieldAddr 82 (.tmp 36) 0) none), (16, VOp.mk none (.store 22 (.tmp 37) (.tmp
  29)) none), (17, VOp.mk (some 38) (.nilCheck (.tmp 23)) none), (18, VOp.mk (some 39) (.fieldAddr 82 (.tmp 38) 1) none), (19, VOp.mk none (.store 22 (.tmp 39) (.tmp 35)) none)]
  [(7, [0, 1, 8, 9, 10, 11]), (13, [0, 1]), (16, [1])]]
def do54 : List VOp := [VOp.mk (some 40) (.makeFunc (.func 132) #[] #[.tmp 4, .tmp 8]) none]
def dr54 : VCode := VCode.ops [VOp.mk (some 41) (.move (.tmp 3)) none, VOp.mk (some 42) (.move (.tmp 9)) none, VOp.mk (some 43) (.call (.mk (.value (.tmp 41)) #[.tmp 42] #[22]))
  none]
theorem dk54 : DfOk Tryz.prog 54 (DF.mk 44 dp54 do54 40 dr54 []) := ⟨Tryz.f54, preC 4 (bodyOf Tryz.f54), tlC (tlN 4 (bodyOf Tryz.f54)), regId (hdC (tlN 4 (bodyOf Tryz.f54))),
  (regOps (hdC (tlN 4 (bodyOf Tryz.f54)))).dropLast, (regOps (hdC (tlN 4 (bodyOf Tryz.f54)))).getLast!, [(3, [([0, 1, 2, 3, 4, 5, 6, 8, 9, 10, 11, 12, 7, 13, 14, 15, 16, 17, 18,
  19], [(7, [0, 1, 8, 9, 10, 11]), (13, [0, 1]), (16, [1])])])], Tryz.func54, by kernel_rfl, by kernel_rfl, by kernel_rfl, by kernel_rfl, by kernel_rfl, by kernel_rfl, by
  kernel_rfl, by kernel_rfl, by kernel_rfl, by kernel_rfl, by kernel_rfl, by kernel_rfl, by kernel_rfl⟩

end Go.Vt.Tryz
