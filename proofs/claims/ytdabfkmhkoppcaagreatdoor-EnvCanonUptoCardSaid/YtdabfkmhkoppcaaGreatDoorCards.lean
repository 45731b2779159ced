/-
  DERIVED. GIVEN WITH THE SEED: THE CARDS: each row of YtdabfkmhkoppcaaGreatDoorRows.lean that lists a variable, with what it lists TIED to the program's text (the seventh form; the later family's looks); each row that meets fmt, with fmt's text TOLD by the authors' own Lean function (tested against real Go, not proved from fmt's source: count such statements apart). THE CARD IS WHAT COUNTS. Prove the row's statement (the work); the ties are given (YtdabfkmhkoppcaaGreatDoorTie.lean); close each card by the builder's one call (the guide's Derived/Test/ToyasCard.lean, 'card_holds'). Laid BY PROGRAM, IN A SANDBOX (cutbox-door.mjs). By AI agents, Wed Nov 11 2026. No macro, syntax, notation, axiom, sorry.
-/
import Derived.Test.YtdabfkmhkoppcaaGreatDoorRows
import GoSem.ClaimSeven
namespace Go.Proofs.YtdabfkmhkoppcaaGreatDoor
namespace Rows

/-- THE TIED CARD OF 'waferlaw13.EnvBehind'. -/
def envBehindCard : Claim7 := { stood := { row := envBehindRow, standIns := [], harness := (true, "fe5f35bacfe5e41cd441d2f482278a84d06049a93a0b4c54af26666c9d0036e6"), looks := false }, kinds := [], alts := [], laidByText := true, laidKinds := [.data, .data, .data], laidTests := true, laidLooks := .later }
def EnvBehindCardSaid : Prop := Claim7.holds Tryz.pinned (.plain (OpenSpec.ofChange envBehindSpec)) envBehindCard

/-- THE TIED CARD OF 'waferlaw13.EnvInner'. -/
def envInnerCard : Claim7 := { stood := { row := envInnerRow, standIns := [], harness := (true, "fe5f35bacfe5e41cd441d2f482278a84d06049a93a0b4c54af26666c9d0036e6"), looks := false }, kinds := [], alts := [], laidByText := true, laidKinds := [.data, .data, .data], laidTests := true, laidLooks := .later }
def EnvInnerCardSaid : Prop := Claim7.holds Tryz.pinned (.plain (OpenSpec.ofChange envInnerSpec)) envInnerCard

/-- THE TIED CARD OF 'waferlaw13.EnvStructures'. -/
def envStructuresCard : Claim7 := { stood := { row := envStructuresRow, standIns := [], harness := (true, "fe5f35bacfe5e41cd441d2f482278a84d06049a93a0b4c54af26666c9d0036e6"), looks := false }, kinds := [], alts := [], laidByText := true, laidKinds := [.data, .data, .data], laidTests := true, laidLooks := .later }
def EnvStructuresCardSaid : Prop := Claim7.holds Tryz.pinned (.plain (OpenSpec.ofChange envStructuresSpec)) envStructuresCard

/-- THE TIED CARD OF 'waferlaw13.EnvSizes'. -/
def envSizesCard : Claim7 := { stood := { row := envSizesRow, standIns := [], harness := (true, "fe5f35bacfe5e41cd441d2f482278a84d06049a93a0b4c54af26666c9d0036e6"), looks := false }, kinds := [], alts := [], laidByText := true, laidKinds := [.data, .data, .data], laidTests := true, laidLooks := .later }
def EnvSizesCardSaid : Prop := Claim7.holds Tryz.pinned (.plain (OpenSpec.ofChange envSizesSpec)) envSizesCard

/-- THE TIED CARD OF 'waferlaw13.EnvRenames'. -/
def envRenamesCard : Claim7 := { stood := { row := envRenamesRow, standIns := [], harness := (true, "fe5f35bacfe5e41cd441d2f482278a84d06049a93a0b4c54af26666c9d0036e6"), looks := false }, kinds := [], alts := [], laidByText := true, laidKinds := [.data, .data, .data], laidTests := true, laidLooks := .later }
def EnvRenamesCardSaid : Prop := Claim7.holds Tryz.pinned (.plain (OpenSpec.ofChange envRenamesSpec)) envRenamesCard

/-- THE TIED CARD OF 'waferlaw13.EnvCanon'. -/
def envCanonCard : Claim7 := { stood := { row := envCanonRow, standIns := [], harness := (true, "fe5f35bacfe5e41cd441d2f482278a84d06049a93a0b4c54af26666c9d0036e6"), looks := false }, kinds := [], alts := [], laidByText := true, laidKinds := [.data, .data, .data], laidTests := true, laidLooks := .later }
def EnvCanonCardSaid : Prop := Claim7.holds Tryz.pinned (.plain (OpenSpec.ofChange envCanonSpec)) envCanonCard

/-- THE SECOND FORM's CARD OF 'waferlaw13.EnvBehind'. -/
def envBehindUptoCard : Claim7 := { stood := { row := envBehindUptoRow, standIns := [], harness := (true, "fe5f35bacfe5e41cd441d2f482278a84d06049a93a0b4c54af26666c9d0036e6"), looks := false }, kinds := [], alts := [], laidByText := true, laidKinds := [.data, .data, .data], laidTests := true, laidLooks := .later }
def EnvBehindUptoCardSaid : Prop := Claim7.holds Tryz.pinned (.plain (OpenSpec.upto envBehindSpec)) envBehindUptoCard

/-- THE SECOND FORM's CARD OF 'waferlaw13.EnvInner'. -/
def envInnerUptoCard : Claim7 := { stood := { row := envInnerUptoRow, standIns := [], harness := (true, "fe5f35bacfe5e41cd441d2f482278a84d06049a93a0b4c54af26666c9d0036e6"), looks := false }, kinds := [], alts := [], laidByText := true, laidKinds := [.data, .data, .data], laidTests := true, laidLooks := .later }
def EnvInnerUptoCardSaid : Prop := Claim7.holds Tryz.pinned (.plain (OpenSpec.upto envInnerSpec)) envInnerUptoCard

/-- THE SECOND FORM's CARD OF 'waferlaw13.EnvStructures'. -/
def envStructuresUptoCard : Claim7 := { stood := { row := envStructuresUptoRow, standIns := [], harness := (true, "fe5f35bacfe5e41cd441d2f482278a84d06049a93a0b4c54af26666c9d0036e6"), looks := false }, kinds := [], alts := [], laidByText := true, laidKinds := [.data, .data, .data], laidTests := true, laidLooks := .later }
def EnvStructuresUptoCardSaid : Prop := Claim7.holds Tryz.pinned (.plain (OpenSpec.upto envStructuresSpec)) envStructuresUptoCard

/-- THE SECOND FORM's CARD OF 'waferlaw13.EnvSizes'. -/
def envSizesUptoCard : Claim7 := { stood := { row := envSizesUptoRow, standIns := [], harness := (true, "fe5f35bacfe5e41cd441d2f482278a84d06049a93a0b4c54af26666c9d0036e6"), looks := false }, kinds := [], alts := [], laidByText := true, laidKinds := [.data, .data, .data], laidTests := true, laidLooks := .later }
def EnvSizesUptoCardSaid : Prop := Claim7.holds Tryz.pinned (.plain (OpenSpec.upto envSizesSpec)) envSizesUptoCard

/-- THE SECOND FORM's CARD OF 'waferlaw13.EnvRenames'. -/
def envRenamesUptoCard : Claim7 := { stood := { row := envRenamesUptoRow, standIns := [], harness := (true, "fe5f35bacfe5e41cd441d2f482278a84d06049a93a0b4c54af26666c9d0036e6"), looks := false }, kinds := [], alts := [], laidByText := true, laidKinds := [.data, .data, .data], laidTests := true, laidLooks := .later }
def EnvRenamesUptoCardSaid : Prop := Claim7.holds Tryz.pinned (.plain (OpenSpec.upto envRenamesSpec)) envRenamesUptoCard

/-- THE SECOND FORM's CARD OF 'waferlaw13.EnvCanon'. -/
def envCanonUptoCard : Claim7 := { stood := { row := envCanonUptoRow, standIns := [], harness := (true, "fe5f35bacfe5e41cd441d2f482278a84d06049a93a0b4c54af26666c9d0036e6"), looks := false }, kinds := [], alts := [], laidByText := true, laidKinds := [.data, .data, .data], laidTests := true, laidLooks := .later }
def EnvCanonUptoCardSaid : Prop := Claim7.holds Tryz.pinned (.plain (OpenSpec.upto envCanonSpec)) envCanonUptoCard
end Rows
end Go.Proofs.YtdabfkmhkoppcaaGreatDoor
