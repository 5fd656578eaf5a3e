/-
  DERIVED. GIVEN WITH THE SEED: THE CARDS: each row of YthldgfkkgmpmlaaGreatDoorRows.lean that lists a variable, with what it lists TIED to the program's text (the seventh form; the later family's looks); each row that meets fmt, with fmt's text TOLD by the authors' own Lean function (tested against real Go, not proved from fmt's source: count such statements apart). THE CARD IS WHAT COUNTS. Prove the row's statement (the work); the ties are given (YthldgfkkgmpmlaaGreatDoorTie.lean); close each card by the builder's one call (the guide's Derived/Test/ToyasCard.lean, 'card_holds'). Laid BY PROGRAM, IN A SANDBOX (cutbox-door.mjs). By AI agents, Wed Nov 11 2026. No macro, syntax, notation, axiom, sorry.
-/
import Derived.Test.YthldgfkkgmpmlaaGreatDoorRows
import GoSem.ClaimSeven
namespace Go.Proofs.YthldgfkkgmpmlaaGreatDoor
namespace Rows

/-- THE TIED CARD OF 'laws.FnExactSaysTrue'. -/
def fnExactSaysTrueCard : Claim7 := { stood := { row := fnExactSaysTrueRow, standIns := [], harness := (true, "19176476572bc5c582407c566f1aa8bdc37745de10d0a36e9bf991e1ff59af8b"), looks := false }, kinds := [], alts := [], laidByText := true, laidKinds := [.data, .data, .data, .data, .data], laidTests := true, laidLooks := .later }
def FnExactSaysTrueCardSaid : Prop := Claim7.holds Tryz.pinned (.plain (OpenSpec.ofChange fnExactSaysTrueSpec)) fnExactSaysTrueCard

/-- THE TIED CARD OF 'laws.FnExactSoundWorld'. -/
def fnExactSoundWorldCard : Claim7 := { stood := { row := fnExactSoundWorldRow, standIns := [], harness := (true, "19176476572bc5c582407c566f1aa8bdc37745de10d0a36e9bf991e1ff59af8b"), looks := false }, kinds := [], alts := [], laidByText := true, laidKinds := [.data, .data, .data, .data, .data], laidTests := true, laidLooks := .later }
def FnExactSoundWorldCardSaid : Prop := Claim7.holds Tryz.pinned (.plain (OpenSpec.ofChange fnExactSoundWorldSpec)) fnExactSoundWorldCard

/-- THE SECOND FORM's CARD OF 'laws.FnExactSaysTrue'. -/
def fnExactSaysTrueUptoCard : Claim7 := { stood := { row := fnExactSaysTrueUptoRow, standIns := [], harness := (true, "19176476572bc5c582407c566f1aa8bdc37745de10d0a36e9bf991e1ff59af8b"), looks := false }, kinds := [], alts := [], laidByText := true, laidKinds := [.data, .data, .data, .data, .data], laidTests := true, laidLooks := .later }
def FnExactSaysTrueUptoCardSaid : Prop := Claim7.holds Tryz.pinned (.plain (OpenSpec.upto fnExactSaysTrueSpec)) fnExactSaysTrueUptoCard

/-- THE SECOND FORM's CARD OF 'laws.FnExactSoundWorld'. -/
def fnExactSoundWorldUptoCard : Claim7 := { stood := { row := fnExactSoundWorldUptoRow, standIns := [], harness := (true, "19176476572bc5c582407c566f1aa8bdc37745de10d0a36e9bf991e1ff59af8b"), looks := false }, kinds := [], alts := [], laidByText := true, laidKinds := [.data, .data, .data, .data, .data], laidTests := true, laidLooks := .later }
def FnExactSoundWorldUptoCardSaid : Prop := Claim7.holds Tryz.pinned (.plain (OpenSpec.upto fnExactSoundWorldSpec)) fnExactSoundWorldUptoCard
end Rows
end Go.Proofs.YthldgfkkgmpmlaaGreatDoor
