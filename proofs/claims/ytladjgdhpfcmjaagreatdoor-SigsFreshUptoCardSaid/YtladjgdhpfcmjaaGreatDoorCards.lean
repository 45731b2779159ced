/-
  DERIVED. GIVEN WITH THE SEED: THE CARDS: each row of YtladjgdhpfcmjaaGreatDoorRows.lean that lists a variable, with what it lists TIED to the program's text (the seventh form; the later family's looks); each row that meets fmt, with fmt's text TOLD by the authors' own Lean function (tested against real Go, not proved from fmt's source: count such statements apart). THE CARD IS WHAT COUNTS. Prove the row's statement (the work); the ties are given (YtladjgdhpfcmjaaGreatDoorTie.lean); close each card by the builder's one call (the guide's Derived/Test/ToyasCard.lean, 'card_holds'). Laid BY PROGRAM, IN A SANDBOX (cutbox-door.mjs). By AI agents, Wed Nov 11 2026. No macro, syntax, notation, axiom, sorry.
-/
import Derived.Test.YtladjgdhpfcmjaaGreatDoorRows
import GoSem.ClaimSeven
namespace Go.Proofs.YtladjgdhpfcmjaaGreatDoor
namespace Rows

/-- THE TIED CARD OF 'waferlaw17.SigsFresh'. -/
def sigsFreshCard : Claim7 := { stood := { row := sigsFreshRow, standIns := [], harness := (true, "9aafd84731a226bae8b05052e8389b6665e139bb929eca23fb3c49fd883f5d07"), looks := true }, kinds := [], alts := [], laidByText := true, laidKinds := [.data, .data, .data], laidTests := true, laidLooks := .later }
def SigsFreshCardSaid : Prop := Claim7.holds Tryz.pinned (.plain (OpenSpec.ofChange sigsFreshSpec)) sigsFreshCard

/-- THE SECOND FORM's CARD OF 'waferlaw17.SigsFresh'. -/
def sigsFreshUptoCard : Claim7 := { stood := { row := sigsFreshUptoRow, standIns := [], harness := (true, "9aafd84731a226bae8b05052e8389b6665e139bb929eca23fb3c49fd883f5d07"), looks := true }, kinds := [], alts := [], laidByText := true, laidKinds := [.data, .data, .data], laidTests := true, laidLooks := .later }
def SigsFreshUptoCardSaid : Prop := Claim7.holds Tryz.pinned (.plain (OpenSpec.upto sigsFreshSpec)) sigsFreshUptoCard
end Rows
end Go.Proofs.YtladjgdhpfcmjaaGreatDoor
