/-
  DERIVED. GIVEN WITH THE SEED: THE CARDS: each row of YtdfbhjpmdjmdaaaGreatDoorRows.lean that lists a variable, with what it lists TIED to the program's text (the seventh form; the later family's looks); each row that meets fmt, with fmt's text TOLD by the authors' own Lean function (tested against real Go, not proved from fmt's source: count such statements apart). THE CARD IS WHAT COUNTS. Prove the row's statement (the work); the ties are given (YtdfbhjpmdjmdaaaGreatDoorTie.lean); close each card by the builder's one call (the guide's Derived/Test/ToyasCard.lean, 'card_holds'). Laid BY PROGRAM, IN A SANDBOX (cutbox-door.mjs). By AI agents, Wed Nov 11 2026. No macro, syntax, notation, axiom, sorry.
-/
import Derived.Test.YtdfbhjpmdjmdaaaGreatDoorRows
import GoSem.ClaimSeven
namespace Go.Proofs.YtdfbhjpmdjmdaaaGreatDoor
namespace Rows

/-- THE TIED CARD OF 'laws.FnAsksTold'. -/
def fnAsksToldCard : Claim7 := { stood := { row := fnAsksToldRow, standIns := [], harness := (true, "f3f670f343767d1eb0f9cfa7c91f99f138b2949c4dee4fbb6afae4818f6229ce"), looks := false }, kinds := [], alts := [], laidByText := true, laidKinds := [.data, .data], laidTests := true, laidLooks := .later }
def FnAsksToldCardSaid : Prop := Claim7.holds Tryz.pinned (.plain (OpenSpec.ofChange fnAsksToldSpec)) fnAsksToldCard

/-- THE TIED CARD OF 'laws.FnAsks'. -/
def fnAsksCard : Claim7 := { stood := { row := fnAsksRow, standIns := [], harness := (true, "f3f670f343767d1eb0f9cfa7c91f99f138b2949c4dee4fbb6afae4818f6229ce"), looks := false }, kinds := [], alts := [], laidByText := true, laidKinds := [.data, .data], laidTests := true, laidLooks := .later }
def FnAsksCardSaid : Prop := Claim7.holds Tryz.pinned (.plain (OpenSpec.ofChange fnAsksSpec)) fnAsksCard

/-- THE SECOND FORM's CARD OF 'laws.FnAsksTold'. -/
def fnAsksToldUptoCard : Claim7 := { stood := { row := fnAsksToldUptoRow, standIns := [], harness := (true, "f3f670f343767d1eb0f9cfa7c91f99f138b2949c4dee4fbb6afae4818f6229ce"), looks := false }, kinds := [], alts := [], laidByText := true, laidKinds := [.data, .data], laidTests := true, laidLooks := .later }
def FnAsksToldUptoCardSaid : Prop := Claim7.holds Tryz.pinned (.plain (OpenSpec.upto fnAsksToldSpec)) fnAsksToldUptoCard

/-- THE SECOND FORM's CARD OF 'laws.FnAsks'. -/
def fnAsksUptoCard : Claim7 := { stood := { row := fnAsksUptoRow, standIns := [], harness := (true, "f3f670f343767d1eb0f9cfa7c91f99f138b2949c4dee4fbb6afae4818f6229ce"), looks := false }, kinds := [], alts := [], laidByText := true, laidKinds := [.data, .data], laidTests := true, laidLooks := .later }
def FnAsksUptoCardSaid : Prop := Claim7.holds Tryz.pinned (.plain (OpenSpec.upto fnAsksSpec)) fnAsksUptoCard
end Rows
end Go.Proofs.YtdfbhjpmdjmdaaaGreatDoor
