/-
  NARROWER THAN 'FOR EVERY INPUT', by the rows' own cells (each row's printed sentence says how): EnvBehind: loops, laid · EnvInner: loops, laid · EnvStructures: loops, laid · EnvSizes: loops, laid · EnvRenames: loops, laid · EnvCanon: loops, laid.
  DERIVED. THE GIVEN ROWS OF THIS SEAT. 6 by the template 'for every input the law returns true; each argument reads behind the call as it read before'; 0 by the template 'total and deterministic' (their statements: YtdabfkmhkoppcaaGreatDoorTotals.lean).
  GIVEN WITH THE SEED: the statements are not yours to turn. If you find one false, say at which input.
  Laid BY PROGRAM, IN A SANDBOX (cutbox-rows.mjs): the forced cells as the released guide's own fill.sh prints them over the translation e648b520665c10d3… (all of the seat's roots in one cut). By AI agents, Wed Nov 11 2026. No macro, syntax, notation, axiom, sorry.
-/
import Derived.Test.YtdabfkmhkoppcaaGreatDoorChecked
import GoSem.Claim
import GoSem.ClaimJoined
import GoSem.ClaimMapViews
import Derived.JoinedTies
import Derived.KernelRfl
namespace Go.Proofs.YtdabfkmhkoppcaaGreatDoor
/- THE CELL 'sum', in the pinned program and in every row, IS THE sha256 OF THE DUMP (.gsa) THAT YtdabfkmhkoppcaaGreatDoorProg.lean LOADS. Nothing in Lean hashes anything: it is a label: what it is worth is what the hold of that sum in a sandbox is worth. -/
noncomputable def Tryz.pinned : Pinned := { name := "ytdabfkmhkoppcaagreatdoor", sum := "e648b520665c10d38feb0c1d5242f9cdf0d831a831bcb78db8f4fc8690a693a2", checked := Tryz.checked }
namespace Rows
def none {H : Type} : Left H := { results := [], args := [] }

/- WHAT THE LISTED PACKAGE-LEVEL VARIABLES READ AS WHEN THE CALL BEGINS. Each datum BY PROGRAM (the guide's laid-datum.mjs) off the statement by which the dump's own 'gosem.cut.vars' lays the variable. In a bare row this is a premise. The card (YtdabfkmhkoppcaaGreatDoorCards.lean) ties it to the program's text. -/
def laid_math_bits_deBruijn32tab {H : Type} : DataW H := .agg [.lit (.int .u8 0), .lit (.int .u8 1), .lit (.int .u8 28), .lit (.int .u8 2), .lit (.int .u8 29), .lit (.int .u8 14), .lit (.int .u8 24), .lit (.int .u8 3), .lit (.int .u8 30), .lit (.int .u8 22), .lit (.int .u8 20), .lit (.int .u8 15), .lit (.int .u8 25), .lit (.int .u8 17), .lit (.int .u8 4), .lit (.int .u8 8), .lit (.int .u8 31), .lit (.int .u8 27), .lit (.int .u8 13), .lit (.int .u8 23), .lit (.int .u8 21), .lit (.int .u8 19), .lit (.int .u8 16), .lit (.int .u8 7), .lit (.int .u8 26), .lit (.int .u8 12), .lit (.int .u8 18), .lit (.int .u8 6), .lit (.int .u8 11), .lit (.int .u8 5), .lit (.int .u8 10), .lit (.int .u8 9)]
def laid_math_bits_deBruijn64tab {H : Type} : DataW H := .agg [.lit (.int .u8 0), .lit (.int .u8 1), .lit (.int .u8 56), .lit (.int .u8 2), .lit (.int .u8 57), .lit (.int .u8 49), .lit (.int .u8 28), .lit (.int .u8 3), .lit (.int .u8 61), .lit (.int .u8 58), .lit (.int .u8 42), .lit (.int .u8 50), .lit (.int .u8 38), .lit (.int .u8 29), .lit (.int .u8 17), .lit (.int .u8 4), .lit (.int .u8 62), .lit (.int .u8 47), .lit (.int .u8 59), .lit (.int .u8 36), .lit (.int .u8 45), .lit (.int .u8 43), .lit (.int .u8 51), .lit (.int .u8 22), .lit (.int .u8 53), .lit (.int .u8 39), .lit (.int .u8 33), .lit (.int .u8 30), .lit (.int .u8 24), .lit (.int .u8 18), .lit (.int .u8 12), .lit (.int .u8 5), .lit (.int .u8 63), .lit (.int .u8 55), .lit (.int .u8 48), .lit (.int .u8 27), .lit (.int .u8 60), .lit (.int .u8 41), .lit (.int .u8 37), .lit (.int .u8 16), .lit (.int .u8 46), .lit (.int .u8 35), .lit (.int .u8 44), .lit (.int .u8 21), .lit (.int .u8 52), .lit (.int .u8 32), .lit (.int .u8 23), .lit (.int .u8 11), .lit (.int .u8 54), .lit (.int .u8 26), .lit (.int .u8 40), .lit (.int .u8 15), .lit (.int .u8 34), .lit (.int .u8 20), .lit (.int .u8 31), .lit (.int .u8 10), .lit (.int .u8 25), .lit (.int .u8 14), .lit (.int .u8 19), .lit (.int .u8 9), .lit (.int .u8 13), .lit (.int .u8 8), .lit (.int .u8 7), .lit (.int .u8 6)]
def laid_internal_strconv_uint64pow10 {H : Type} : DataW H := .agg [.lit (.int .u64 1), .lit (.int .u64 10), .lit (.int .u64 100), .lit (.int .u64 1000), .lit (.int .u64 10000), .lit (.int .u64 100000), .lit (.int .u64 1000000), .lit (.int .u64 10000000), .lit (.int .u64 100000000), .lit (.int .u64 1000000000), .lit (.int .u64 10000000000), .lit (.int .u64 100000000000), .lit (.int .u64 1000000000000), .lit (.int .u64 10000000000000), .lit (.int .u64 100000000000000), .lit (.int .u64 1000000000000000), .lit (.int .u64 10000000000000000), .lit (.int .u64 100000000000000000), .lit (.int .u64 1000000000000000000), .lit (.int .u64 10000000000000000000)]

/-- 'waferlaw13.EnvBehind': WHATEVER THE INPUT: true; the input reads as it did. -/
def envBehindSpec : ChangeSpec := { name := "envBehind", fn := fun _ => fun
  | [d1, d2, d3] => { results := [.lit (.bool true)], args := [d1, d2, d3] }
  | _ => none }
def envBehindRow : OpenClaim := { program := "ytdabfkmhkoppcaagreatdoor", sum := "e648b520665c10d38feb0c1d5242f9cdf0d831a831bcb78db8f4fc8690a693a2", func := "wafer/waferlaw13.EnvBehind", spec := "envBehind", inPlace := ["internal/abi.NoEscape", "internal/bytealg.MakeNoZero"], unfollowed := true, recurses := true, named := ["internal/strconv.uint64pow10", "math/bits.deBruijn32tab", "math/bits.deBruijn64tab"], loops := true, apart := false, laid := [("math/bits.deBruijn32tab", laid_math_bits_deBruijn32tab), ("math/bits.deBruijn64tab", laid_math_bits_deBruijn64tab), ("internal/strconv.uint64pow10", laid_internal_strconv_uint64pow10)] }
def EnvBehindSaid : Prop := envBehindRow.holds Tryz.pinned (OpenSpec.ofChange envBehindSpec)

/-- ITS FALSE NEIGHBOUR: 'it returns false'. Refute it at one input. -/
def envBehindWrong : ChangeSpec := { name := "envBehind", fn := fun _ => fun
  | [d1, d2, d3] => { results := [.lit (.bool false)], args := [d1, d2, d3] }
  | _ => none }
def EnvBehindWrongFalsely : Prop := envBehindRow.holds Tryz.pinned (OpenSpec.ofChange envBehindWrong)

/-- 'waferlaw13.EnvInner': WHATEVER THE INPUT: true; the input reads as it did. -/
def envInnerSpec : ChangeSpec := { name := "envInner", fn := fun _ => fun
  | [d1, d2, d3] => { results := [.lit (.bool true)], args := [d1, d2, d3] }
  | _ => none }
def envInnerRow : OpenClaim := { program := "ytdabfkmhkoppcaagreatdoor", sum := "e648b520665c10d38feb0c1d5242f9cdf0d831a831bcb78db8f4fc8690a693a2", func := "wafer/waferlaw13.EnvInner", spec := "envInner", inPlace := ["internal/abi.NoEscape", "internal/bytealg.MakeNoZero"], unfollowed := true, recurses := true, named := ["internal/strconv.uint64pow10", "math/bits.deBruijn32tab", "math/bits.deBruijn64tab"], loops := true, apart := false, laid := [("math/bits.deBruijn32tab", laid_math_bits_deBruijn32tab), ("math/bits.deBruijn64tab", laid_math_bits_deBruijn64tab), ("internal/strconv.uint64pow10", laid_internal_strconv_uint64pow10)] }
def EnvInnerSaid : Prop := envInnerRow.holds Tryz.pinned (OpenSpec.ofChange envInnerSpec)

/-- ITS FALSE NEIGHBOUR: 'it returns false'. Refute it at one input. -/
def envInnerWrong : ChangeSpec := { name := "envInner", fn := fun _ => fun
  | [d1, d2, d3] => { results := [.lit (.bool false)], args := [d1, d2, d3] }
  | _ => none }
def EnvInnerWrongFalsely : Prop := envInnerRow.holds Tryz.pinned (OpenSpec.ofChange envInnerWrong)

/-- 'waferlaw13.EnvStructures': WHATEVER THE INPUT: true; the input reads as it did. -/
def envStructuresSpec : ChangeSpec := { name := "envStructures", fn := fun _ => fun
  | [d1, d2] => { results := [.lit (.bool true)], args := [d1, d2] }
  | _ => none }
def envStructuresRow : OpenClaim := { program := "ytdabfkmhkoppcaagreatdoor", sum := "e648b520665c10d38feb0c1d5242f9cdf0d831a831bcb78db8f4fc8690a693a2", func := "wafer/waferlaw13.EnvStructures", spec := "envStructures", inPlace := ["internal/abi.NoEscape", "internal/bytealg.MakeNoZero"], unfollowed := true, recurses := true, named := ["internal/strconv.uint64pow10", "math/bits.deBruijn32tab", "math/bits.deBruijn64tab"], loops := true, apart := false, laid := [("math/bits.deBruijn32tab", laid_math_bits_deBruijn32tab), ("math/bits.deBruijn64tab", laid_math_bits_deBruijn64tab), ("internal/strconv.uint64pow10", laid_internal_strconv_uint64pow10)] }
def EnvStructuresSaid : Prop := envStructuresRow.holds Tryz.pinned (OpenSpec.ofChange envStructuresSpec)

/-- ITS FALSE NEIGHBOUR: 'it returns false'. Refute it at one input. -/
def envStructuresWrong : ChangeSpec := { name := "envStructures", fn := fun _ => fun
  | [d1, d2] => { results := [.lit (.bool false)], args := [d1, d2] }
  | _ => none }
def EnvStructuresWrongFalsely : Prop := envStructuresRow.holds Tryz.pinned (OpenSpec.ofChange envStructuresWrong)

/-- 'waferlaw13.EnvSizes': WHATEVER THE INPUT: true; the input reads as it did. -/
def envSizesSpec : ChangeSpec := { name := "envSizes", fn := fun _ => fun
  | [d] => { results := [.lit (.bool true)], args := [d] }
  | _ => none }
def envSizesRow : OpenClaim := { program := "ytdabfkmhkoppcaagreatdoor", sum := "e648b520665c10d38feb0c1d5242f9cdf0d831a831bcb78db8f4fc8690a693a2", func := "wafer/waferlaw13.EnvSizes", spec := "envSizes", inPlace := ["internal/abi.NoEscape", "internal/bytealg.MakeNoZero"], unfollowed := true, recurses := true, named := ["internal/strconv.uint64pow10", "math/bits.deBruijn32tab", "math/bits.deBruijn64tab"], loops := true, apart := false, laid := [("math/bits.deBruijn32tab", laid_math_bits_deBruijn32tab), ("math/bits.deBruijn64tab", laid_math_bits_deBruijn64tab), ("internal/strconv.uint64pow10", laid_internal_strconv_uint64pow10)] }
def EnvSizesSaid : Prop := envSizesRow.holds Tryz.pinned (OpenSpec.ofChange envSizesSpec)

/-- ITS FALSE NEIGHBOUR: 'it returns false'. Refute it at one input. -/
def envSizesWrong : ChangeSpec := { name := "envSizes", fn := fun _ => fun
  | [d] => { results := [.lit (.bool false)], args := [d] }
  | _ => none }
def EnvSizesWrongFalsely : Prop := envSizesRow.holds Tryz.pinned (OpenSpec.ofChange envSizesWrong)

/-- 'waferlaw13.EnvRenames': WHATEVER THE INPUT: true; the input reads as it did. -/
def envRenamesSpec : ChangeSpec := { name := "envRenames", fn := fun _ => fun
  | [d1, d2, d3, d4] => { results := [.lit (.bool true)], args := [d1, d2, d3, d4] }
  | _ => none }
def envRenamesRow : OpenClaim := { program := "ytdabfkmhkoppcaagreatdoor", sum := "e648b520665c10d38feb0c1d5242f9cdf0d831a831bcb78db8f4fc8690a693a2", func := "wafer/waferlaw13.EnvRenames", spec := "envRenames", inPlace := ["internal/abi.NoEscape", "internal/bytealg.MakeNoZero"], unfollowed := true, recurses := true, named := ["internal/strconv.uint64pow10", "math/bits.deBruijn32tab", "math/bits.deBruijn64tab"], loops := true, apart := false, laid := [("math/bits.deBruijn32tab", laid_math_bits_deBruijn32tab), ("math/bits.deBruijn64tab", laid_math_bits_deBruijn64tab), ("internal/strconv.uint64pow10", laid_internal_strconv_uint64pow10)] }
def EnvRenamesSaid : Prop := envRenamesRow.holds Tryz.pinned (OpenSpec.ofChange envRenamesSpec)

/-- ITS FALSE NEIGHBOUR: 'it returns false'. Refute it at one input. -/
def envRenamesWrong : ChangeSpec := { name := "envRenames", fn := fun _ => fun
  | [d1, d2, d3, d4] => { results := [.lit (.bool false)], args := [d1, d2, d3, d4] }
  | _ => none }
def EnvRenamesWrongFalsely : Prop := envRenamesRow.holds Tryz.pinned (OpenSpec.ofChange envRenamesWrong)

/-- 'waferlaw13.EnvCanon': WHATEVER THE INPUT: true; the input reads as it did. -/
def envCanonSpec : ChangeSpec := { name := "envCanon", fn := fun _ => fun
  | [d1, d2] => { results := [.lit (.bool true)], args := [d1, d2] }
  | _ => none }
def envCanonRow : OpenClaim := { program := "ytdabfkmhkoppcaagreatdoor", sum := "e648b520665c10d38feb0c1d5242f9cdf0d831a831bcb78db8f4fc8690a693a2", func := "wafer/waferlaw13.EnvCanon", spec := "envCanon", inPlace := ["internal/abi.NoEscape", "internal/bytealg.MakeNoZero"], unfollowed := true, recurses := true, named := ["internal/strconv.uint64pow10", "math/bits.deBruijn32tab", "math/bits.deBruijn64tab"], loops := true, apart := false, laid := [("math/bits.deBruijn32tab", laid_math_bits_deBruijn32tab), ("math/bits.deBruijn64tab", laid_math_bits_deBruijn64tab), ("internal/strconv.uint64pow10", laid_internal_strconv_uint64pow10)] }
def EnvCanonSaid : Prop := envCanonRow.holds Tryz.pinned (OpenSpec.ofChange envCanonSpec)

/-- ITS FALSE NEIGHBOUR: 'it returns false'. Refute it at one input. -/
def envCanonWrong : ChangeSpec := { name := "envCanon", fn := fun _ => fun
  | [d1, d2] => { results := [.lit (.bool false)], args := [d1, d2] }
  | _ => none }
def EnvCanonWrongFalsely : Prop := envCanonRow.holds Tryz.pinned (OpenSpec.ofChange envCanonWrong)

/- THE SECOND FORM. 'bulk': how many values and letters a reading holds, each counted each time it is reached (what is shared counts as often as it is met; a slice's spare places count too). A statement '..UptoSaid' is the law's where the arguments, and the package variables that the reading takes, are together of bulk at most 1048576: NARROWER than '..Said'. Prove '..Said' where nothing that the law and all that it calls make is longer than what came in: it says more and counts as full. Else prove '..UptoSaid'. A law counts once. -/
mutual
def uptoBulk {H : Type} : DataW H → Nat
  | .lit (.string bytes) => bytes.length + 1
  | .lit _ => 1
  | .nil => 1
  | .ptr d => uptoBulk d + 1
  | .slice elems spare => uptoBulkAll elems + uptoBulkAll spare + 1
  | .agg parts => uptoBulkAll parts + 1
  | .iface _ d => uptoBulk d + 1
  | .map entries => uptoBulkEntries entries + 1
  | .held _ => 1
def uptoBulkAll {H : Type} : List (DataW H) → Nat
  | [] => 0
  | d :: r => uptoBulk d + uptoBulkAll r
def uptoBulkEntries {H : Type} : List (Lit × DataW H) → Nat
  | [] => 0
  | x :: r => uptoBulkEntry x + uptoBulkEntries r
def uptoBulkEntry {H : Type} : Lit × DataW H → Nat
  | (.string bytes, d) => bytes.length + uptoBulk d + 1
  | (_, d) => uptoBulk d + 1
 end
def uptoSmall : (H : Type) → List (DataW H) → Bool := fun _ ds => decide (uptoBulkAll ds ≤ 1048576)
def OpenSpec.upto (s : _root_.Go.ChangeSpec) : _root_.Go.OpenSpec := { _root_.Go.OpenSpec.ofChange s with cond := some uptoSmall }

/-- 'waferlaw13.EnvBehind', WHERE WHAT IT READS IS OF BULK AT MOST 1048576: true; the input reads as it did. -/
def envBehindUptoRow : OpenClaim := { program := "ytdabfkmhkoppcaagreatdoor", sum := "e648b520665c10d38feb0c1d5242f9cdf0d831a831bcb78db8f4fc8690a693a2", func := "wafer/waferlaw13.EnvBehind", spec := "envBehind", inPlace := ["internal/abi.NoEscape", "internal/bytealg.MakeNoZero"], unfollowed := true, recurses := true, named := ["internal/strconv.uint64pow10", "math/bits.deBruijn32tab", "math/bits.deBruijn64tab"], loops := true, apart := false, laid := [("math/bits.deBruijn32tab", laid_math_bits_deBruijn32tab), ("math/bits.deBruijn64tab", laid_math_bits_deBruijn64tab), ("internal/strconv.uint64pow10", laid_internal_strconv_uint64pow10)], narrowed := true }
def EnvBehindUptoSaid : Prop := envBehindUptoRow.holds Tryz.pinned (OpenSpec.upto envBehindSpec)

/-- 'waferlaw13.EnvInner', WHERE WHAT IT READS IS OF BULK AT MOST 1048576: true; the input reads as it did. -/
def envInnerUptoRow : OpenClaim := { program := "ytdabfkmhkoppcaagreatdoor", sum := "e648b520665c10d38feb0c1d5242f9cdf0d831a831bcb78db8f4fc8690a693a2", func := "wafer/waferlaw13.EnvInner", spec := "envInner", inPlace := ["internal/abi.NoEscape", "internal/bytealg.MakeNoZero"], unfollowed := true, recurses := true, named := ["internal/strconv.uint64pow10", "math/bits.deBruijn32tab", "math/bits.deBruijn64tab"], loops := true, apart := false, laid := [("math/bits.deBruijn32tab", laid_math_bits_deBruijn32tab), ("math/bits.deBruijn64tab", laid_math_bits_deBruijn64tab), ("internal/strconv.uint64pow10", laid_internal_strconv_uint64pow10)], narrowed := true }
def EnvInnerUptoSaid : Prop := envInnerUptoRow.holds Tryz.pinned (OpenSpec.upto envInnerSpec)

/-- 'waferlaw13.EnvStructures', WHERE WHAT IT READS IS OF BULK AT MOST 1048576: true; the input reads as it did. -/
def envStructuresUptoRow : OpenClaim := { program := "ytdabfkmhkoppcaagreatdoor", sum := "e648b520665c10d38feb0c1d5242f9cdf0d831a831bcb78db8f4fc8690a693a2", func := "wafer/waferlaw13.EnvStructures", spec := "envStructures", inPlace := ["internal/abi.NoEscape", "internal/bytealg.MakeNoZero"], unfollowed := true, recurses := true, named := ["internal/strconv.uint64pow10", "math/bits.deBruijn32tab", "math/bits.deBruijn64tab"], loops := true, apart := false, laid := [("math/bits.deBruijn32tab", laid_math_bits_deBruijn32tab), ("math/bits.deBruijn64tab", laid_math_bits_deBruijn64tab), ("internal/strconv.uint64pow10", laid_internal_strconv_uint64pow10)], narrowed := true }
def EnvStructuresUptoSaid : Prop := envStructuresUptoRow.holds Tryz.pinned (OpenSpec.upto envStructuresSpec)

/-- 'waferlaw13.EnvSizes', WHERE WHAT IT READS IS OF BULK AT MOST 1048576: true; the input reads as it did. -/
def envSizesUptoRow : OpenClaim := { program := "ytdabfkmhkoppcaagreatdoor", sum := "e648b520665c10d38feb0c1d5242f9cdf0d831a831bcb78db8f4fc8690a693a2", func := "wafer/waferlaw13.EnvSizes", spec := "envSizes", inPlace := ["internal/abi.NoEscape", "internal/bytealg.MakeNoZero"], unfollowed := true, recurses := true, named := ["internal/strconv.uint64pow10", "math/bits.deBruijn32tab", "math/bits.deBruijn64tab"], loops := true, apart := false, laid := [("math/bits.deBruijn32tab", laid_math_bits_deBruijn32tab), ("math/bits.deBruijn64tab", laid_math_bits_deBruijn64tab), ("internal/strconv.uint64pow10", laid_internal_strconv_uint64pow10)], narrowed := true }
def EnvSizesUptoSaid : Prop := envSizesUptoRow.holds Tryz.pinned (OpenSpec.upto envSizesSpec)

/-- 'waferlaw13.EnvRenames', WHERE WHAT IT READS IS OF BULK AT MOST 1048576: true; the input reads as it did. -/
def envRenamesUptoRow : OpenClaim := { program := "ytdabfkmhkoppcaagreatdoor", sum := "e648b520665c10d38feb0c1d5242f9cdf0d831a831bcb78db8f4fc8690a693a2", func := "wafer/waferlaw13.EnvRenames", spec := "envRenames", inPlace := ["internal/abi.NoEscape", "internal/bytealg.MakeNoZero"], unfollowed := true, recurses := true, named := ["internal/strconv.uint64pow10", "math/bits.deBruijn32tab", "math/bits.deBruijn64tab"], loops := true, apart := false, laid := [("math/bits.deBruijn32tab", laid_math_bits_deBruijn32tab), ("math/bits.deBruijn64tab", laid_math_bits_deBruijn64tab), ("internal/strconv.uint64pow10", laid_internal_strconv_uint64pow10)], narrowed := true }
def EnvRenamesUptoSaid : Prop := envRenamesUptoRow.holds Tryz.pinned (OpenSpec.upto envRenamesSpec)

/-- 'waferlaw13.EnvCanon', WHERE WHAT IT READS IS OF BULK AT MOST 1048576: true; the input reads as it did. -/
def envCanonUptoRow : OpenClaim := { program := "ytdabfkmhkoppcaagreatdoor", sum := "e648b520665c10d38feb0c1d5242f9cdf0d831a831bcb78db8f4fc8690a693a2", func := "wafer/waferlaw13.EnvCanon", spec := "envCanon", inPlace := ["internal/abi.NoEscape", "internal/bytealg.MakeNoZero"], unfollowed := true, recurses := true, named := ["internal/strconv.uint64pow10", "math/bits.deBruijn32tab", "math/bits.deBruijn64tab"], loops := true, apart := false, laid := [("math/bits.deBruijn32tab", laid_math_bits_deBruijn32tab), ("math/bits.deBruijn64tab", laid_math_bits_deBruijn64tab), ("internal/strconv.uint64pow10", laid_internal_strconv_uint64pow10)], narrowed := true }
def EnvCanonUptoSaid : Prop := envCanonUptoRow.holds Tryz.pinned (OpenSpec.upto envCanonSpec)

end Rows
end Go.Proofs.YtdabfkmhkoppcaaGreatDoor
