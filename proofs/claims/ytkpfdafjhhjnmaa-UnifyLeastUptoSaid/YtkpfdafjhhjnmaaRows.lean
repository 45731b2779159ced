/-
  NARROWER THAN 'FOR EVERY INPUT', by the rows' own cells (each row's printed sentence says how): UnifyOrder: loops · UnifyLeast: loops · UnifyGrows: loops · UnifyClones: loops · UnifyNils: loops.
  DERIVED. THE GIVEN ROWS OF THIS SEAT. 5 by the template 'for every input the law returns true; each argument reads behind the call as it read before'; 0 by the template 'total and deterministic' (their statements: YtkpfdafjhhjnmaaTotals.lean).
  GIVEN WITH THE SEED: the statements are not yours to turn. If you find one false, say at which input.
  Laid BY PROGRAM, IN A SANDBOX (cutbox-rows.mjs): the forced cells as the released guide's own fill.sh prints them over the translation a600e071771a8fa3… (all of the seat's roots in one cut). By AI agents, Wed Nov 11 2026. No macro, syntax, notation, axiom, sorry.
-/
import Derived.Test.YtkpfdafjhhjnmaaChecked
import GoSem.Claim
import GoSem.ClaimJoined
import GoSem.ClaimMapViews
import Derived.JoinedTies
import Derived.KernelRfl
namespace Go.Proofs.Ytkpfdafjhhjnmaa
/- THE CELL 'sum', in the pinned program and in every row, IS THE sha256 OF THE DUMP (.gsa) THAT YtkpfdafjhhjnmaaProg.lean LOADS. Nothing in Lean hashes anything: it is a label: what it is worth is what the hold of that sum in a sandbox is worth. -/
noncomputable def Try.pinned : Pinned := { name := "ytkpfdafjhhjnmaa", sum := "a600e071771a8fa3bc8ccb87f21092d06b5ac3e6b0e10398385b6d2b7ecd4117", checked := Try.checked }
namespace Rows
def none {H : Type} : Left H := { results := [], args := [] }

/-- 'waferlaw11.UnifyOrder': WHATEVER THE INPUT: true; the input reads as it did. -/
def unifyOrderSpec : ChangeSpec := { name := "unifyOrder", fn := fun _ => fun
  | [d1, d2] => { results := [.lit (.bool true)], args := [d1, d2] }
  | _ => none }
def unifyOrderRow : OpenClaim := { program := "ytkpfdafjhhjnmaa", sum := "a600e071771a8fa3bc8ccb87f21092d06b5ac3e6b0e10398385b6d2b7ecd4117", func := "wafer/waferlaw11.UnifyOrder", spec := "unifyOrder", recurses := true, loops := true, apart := false }
def UnifyOrderSaid : Prop := unifyOrderRow.holds Try.pinned (OpenSpec.ofChange unifyOrderSpec)

/-- ITS FALSE NEIGHBOUR: 'it returns false'. Refute it at one input. -/
def unifyOrderWrong : ChangeSpec := { name := "unifyOrder", fn := fun _ => fun
  | [d1, d2] => { results := [.lit (.bool false)], args := [d1, d2] }
  | _ => none }
def UnifyOrderWrongFalsely : Prop := unifyOrderRow.holds Try.pinned (OpenSpec.ofChange unifyOrderWrong)

/-- 'waferlaw11.UnifyLeast': WHATEVER THE INPUT: true; the input reads as it did. -/
def unifyLeastSpec : ChangeSpec := { name := "unifyLeast", fn := fun _ => fun
  | [d1, d2] => { results := [.lit (.bool true)], args := [d1, d2] }
  | _ => none }
def unifyLeastRow : OpenClaim := { program := "ytkpfdafjhhjnmaa", sum := "a600e071771a8fa3bc8ccb87f21092d06b5ac3e6b0e10398385b6d2b7ecd4117", func := "wafer/waferlaw11.UnifyLeast", spec := "unifyLeast", recurses := true, loops := true, apart := false }
def UnifyLeastSaid : Prop := unifyLeastRow.holds Try.pinned (OpenSpec.ofChange unifyLeastSpec)

/-- ITS FALSE NEIGHBOUR: 'it returns false'. Refute it at one input. -/
def unifyLeastWrong : ChangeSpec := { name := "unifyLeast", fn := fun _ => fun
  | [d1, d2] => { results := [.lit (.bool false)], args := [d1, d2] }
  | _ => none }
def UnifyLeastWrongFalsely : Prop := unifyLeastRow.holds Try.pinned (OpenSpec.ofChange unifyLeastWrong)

/-- 'waferlaw11.UnifyGrows': WHATEVER THE INPUT: true; the input reads as it did. -/
def unifyGrowsSpec : ChangeSpec := { name := "unifyGrows", fn := fun _ => fun
  | [d1, d2] => { results := [.lit (.bool true)], args := [d1, d2] }
  | _ => none }
def unifyGrowsRow : OpenClaim := { program := "ytkpfdafjhhjnmaa", sum := "a600e071771a8fa3bc8ccb87f21092d06b5ac3e6b0e10398385b6d2b7ecd4117", func := "wafer/waferlaw11.UnifyGrows", spec := "unifyGrows", recurses := true, loops := true, apart := false }
def UnifyGrowsSaid : Prop := unifyGrowsRow.holds Try.pinned (OpenSpec.ofChange unifyGrowsSpec)

/-- ITS FALSE NEIGHBOUR: 'it returns false'. Refute it at one input. -/
def unifyGrowsWrong : ChangeSpec := { name := "unifyGrows", fn := fun _ => fun
  | [d1, d2] => { results := [.lit (.bool false)], args := [d1, d2] }
  | _ => none }
def UnifyGrowsWrongFalsely : Prop := unifyGrowsRow.holds Try.pinned (OpenSpec.ofChange unifyGrowsWrong)

/-- 'waferlaw11.UnifyClones': WHATEVER THE INPUT: true; the input reads as it did. -/
def unifyClonesSpec : ChangeSpec := { name := "unifyClones", fn := fun _ => fun
  | [d1, d2] => { results := [.lit (.bool true)], args := [d1, d2] }
  | _ => none }
def unifyClonesRow : OpenClaim := { program := "ytkpfdafjhhjnmaa", sum := "a600e071771a8fa3bc8ccb87f21092d06b5ac3e6b0e10398385b6d2b7ecd4117", func := "wafer/waferlaw11.UnifyClones", spec := "unifyClones", recurses := true, loops := true, apart := false }
def UnifyClonesSaid : Prop := unifyClonesRow.holds Try.pinned (OpenSpec.ofChange unifyClonesSpec)

/-- ITS FALSE NEIGHBOUR: 'it returns false'. Refute it at one input. -/
def unifyClonesWrong : ChangeSpec := { name := "unifyClones", fn := fun _ => fun
  | [d1, d2] => { results := [.lit (.bool false)], args := [d1, d2] }
  | _ => none }
def UnifyClonesWrongFalsely : Prop := unifyClonesRow.holds Try.pinned (OpenSpec.ofChange unifyClonesWrong)

/-- 'waferlaw11.UnifyNils': WHATEVER THE INPUT: true; the input reads as it did. -/
def unifyNilsSpec : ChangeSpec := { name := "unifyNils", fn := fun _ => fun
  | [d1, d2] => { results := [.lit (.bool true)], args := [d1, d2] }
  | _ => none }
def unifyNilsRow : OpenClaim := { program := "ytkpfdafjhhjnmaa", sum := "a600e071771a8fa3bc8ccb87f21092d06b5ac3e6b0e10398385b6d2b7ecd4117", func := "wafer/waferlaw11.UnifyNils", spec := "unifyNils", recurses := true, loops := true, apart := false }
def UnifyNilsSaid : Prop := unifyNilsRow.holds Try.pinned (OpenSpec.ofChange unifyNilsSpec)

/-- ITS FALSE NEIGHBOUR: 'it returns false'. Refute it at one input. -/
def unifyNilsWrong : ChangeSpec := { name := "unifyNils", fn := fun _ => fun
  | [d1, d2] => { results := [.lit (.bool false)], args := [d1, d2] }
  | _ => none }
def UnifyNilsWrongFalsely : Prop := unifyNilsRow.holds Try.pinned (OpenSpec.ofChange unifyNilsWrong)

/- THE SECOND FORM. 'bulk': how many values and letters a reading holds, each counted each time it is reached (what is shared counts as often as it is met; a slice's spare places count too). A statement '..UptoSaid' is the law's where the arguments, and the package variables that the reading takes, are together of bulk at most 1048576: NARROWER than '..Said'. Prove '..Said' where nothing that the law and all that it calls make is longer than what came in: it says more and counts as full. Else prove '..UptoSaid'. A law counts once. -/
mutual
def uptoBulk {H : Type} : DataW H → Nat
  | .lit (.string bytes) => bytes.length + 1
  | .lit _ => 1
  | .nil => 1
  | .ptr d => uptoBulk d + 1
  | .slice elems spare => uptoBulkAll elems + uptoBulkAll spare + 1
  | .agg parts => uptoBulkAll parts + 1
  | .iface _ d => uptoBulk d + 1
  | .map entries => uptoBulkEntries entries + 1
  | .held _ => 1
def uptoBulkAll {H : Type} : List (DataW H) → Nat
  | [] => 0
  | d :: r => uptoBulk d + uptoBulkAll r
def uptoBulkEntries {H : Type} : List (Lit × DataW H) → Nat
  | [] => 0
  | x :: r => uptoBulkEntry x + uptoBulkEntries r
def uptoBulkEntry {H : Type} : Lit × DataW H → Nat
  | (.string bytes, d) => bytes.length + uptoBulk d + 1
  | (_, d) => uptoBulk d + 1
 end
def uptoSmall : (H : Type) → List (DataW H) → Bool := fun _ ds => decide (uptoBulkAll ds ≤ 1048576)
def OpenSpec.upto (s : _root_.Go.ChangeSpec) : _root_.Go.OpenSpec := { _root_.Go.OpenSpec.ofChange s with cond := some uptoSmall }

/-- 'waferlaw11.UnifyOrder', WHERE WHAT IT READS IS OF BULK AT MOST 1048576: true; the input reads as it did. -/
def unifyOrderUptoRow : OpenClaim := { program := "ytkpfdafjhhjnmaa", sum := "a600e071771a8fa3bc8ccb87f21092d06b5ac3e6b0e10398385b6d2b7ecd4117", func := "wafer/waferlaw11.UnifyOrder", spec := "unifyOrder", recurses := true, loops := true, apart := false, narrowed := true }
def UnifyOrderUptoSaid : Prop := unifyOrderUptoRow.holds Try.pinned (OpenSpec.upto unifyOrderSpec)

/-- 'waferlaw11.UnifyLeast', WHERE WHAT IT READS IS OF BULK AT MOST 1048576: true; the input reads as it did. -/
def unifyLeastUptoRow : OpenClaim := { program := "ytkpfdafjhhjnmaa", sum := "a600e071771a8fa3bc8ccb87f21092d06b5ac3e6b0e10398385b6d2b7ecd4117", func := "wafer/waferlaw11.UnifyLeast", spec := "unifyLeast", recurses := true, loops := true, apart := false, narrowed := true }
def UnifyLeastUptoSaid : Prop := unifyLeastUptoRow.holds Try.pinned (OpenSpec.upto unifyLeastSpec)

/-- 'waferlaw11.UnifyGrows', WHERE WHAT IT READS IS OF BULK AT MOST 1048576: true; the input reads as it did. -/
def unifyGrowsUptoRow : OpenClaim := { program := "ytkpfdafjhhjnmaa", sum := "a600e071771a8fa3bc8ccb87f21092d06b5ac3e6b0e10398385b6d2b7ecd4117", func := "wafer/waferlaw11.UnifyGrows", spec := "unifyGrows", recurses := true, loops := true, apart := false, narrowed := true }
def UnifyGrowsUptoSaid : Prop := unifyGrowsUptoRow.holds Try.pinned (OpenSpec.upto unifyGrowsSpec)

/-- 'waferlaw11.UnifyClones', WHERE WHAT IT READS IS OF BULK AT MOST 1048576: true; the input reads as it did. -/
def unifyClonesUptoRow : OpenClaim := { program := "ytkpfdafjhhjnmaa", sum := "a600e071771a8fa3bc8ccb87f21092d06b5ac3e6b0e10398385b6d2b7ecd4117", func := "wafer/waferlaw11.UnifyClones", spec := "unifyClones", recurses := true, loops := true, apart := false, narrowed := true }
def UnifyClonesUptoSaid : Prop := unifyClonesUptoRow.holds Try.pinned (OpenSpec.upto unifyClonesSpec)

/-- 'waferlaw11.UnifyNils', WHERE WHAT IT READS IS OF BULK AT MOST 1048576: true; the input reads as it did. -/
def unifyNilsUptoRow : OpenClaim := { program := "ytkpfdafjhhjnmaa", sum := "a600e071771a8fa3bc8ccb87f21092d06b5ac3e6b0e10398385b6d2b7ecd4117", func := "wafer/waferlaw11.UnifyNils", spec := "unifyNils", recurses := true, loops := true, apart := false, narrowed := true }
def UnifyNilsUptoSaid : Prop := unifyNilsUptoRow.holds Try.pinned (OpenSpec.upto unifyNilsSpec)

end Rows
end Go.Proofs.Ytkpfdafjhhjnmaa
