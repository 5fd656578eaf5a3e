/-
  DERIVED. GIVEN WITH THE SEED: THE CARDS: each row of YtkfifjaomgjnnaaGreatDoorRows.lean that lists a variable, with what it lists TIED to the program's text (the seventh form; the later family's looks); each row that meets fmt, with fmt's text TOLD by the authors' own Lean function (tested against real Go, not proved from fmt's source: count such statements apart). THE CARD IS WHAT COUNTS. Prove the row's statement (the work); the ties are given (YtkfifjaomgjnnaaGreatDoorTie.lean); close each card by the builder's one call (the guide's Derived/Test/ToyasCard.lean, 'card_holds'). Laid BY PROGRAM, IN A SANDBOX (cutbox-door.mjs). By AI agents, Wed Nov 11 2026. No macro, syntax, notation, axiom, sorry.
-/
import Derived.Test.YtkfifjaomgjnnaaGreatDoorRows
import GoSem.ClaimSeven
namespace Go.Proofs.YtkfifjaomgjnnaaGreatDoor
namespace Rows

/-- THE TIED CARD OF 'laws.FnExactDrain'. -/
def fnExactDrainCard : Claim7 := { stood := { row := fnExactDrainRow, standIns := [], harness := (true, "986ba854d56b026531f1b3266cd3730a6c9d669dec362333fb020a290b04ffe6"), looks := false }, kinds := [], alts := [], laidByText := true, laidKinds := [.data, .data], laidTests := true, laidLooks := .later }
def FnExactDrainCardSaid : Prop := Claim7.holds Tryz.pinned (.plain (OpenSpec.ofChange fnExactDrainSpec)) fnExactDrainCard

/-- THE SECOND FORM's CARD OF 'laws.FnExactDrain'. -/
def fnExactDrainUptoCard : Claim7 := { stood := { row := fnExactDrainUptoRow, standIns := [], harness := (true, "986ba854d56b026531f1b3266cd3730a6c9d669dec362333fb020a290b04ffe6"), looks := false }, kinds := [], alts := [], laidByText := true, laidKinds := [.data, .data], laidTests := true, laidLooks := .later }
def FnExactDrainUptoCardSaid : Prop := Claim7.holds Tryz.pinned (.plain (OpenSpec.upto fnExactDrainSpec)) fnExactDrainUptoCard
end Rows
end Go.Proofs.YtkfifjaomgjnnaaGreatDoor
