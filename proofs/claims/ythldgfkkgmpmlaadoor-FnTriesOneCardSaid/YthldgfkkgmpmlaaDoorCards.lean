/-
  DERIVED. GIVEN WITH THE SEED: THE CARDS: each row of YthldgfkkgmpmlaaDoorRows.lean that lists a variable, with what it lists TIED to the program's text (the seventh form; the later family's looks); each row that meets fmt, with fmt's text TOLD by the authors' own Lean function (tested against real Go, not proved from fmt's source: count such statements apart). THE CARD IS WHAT COUNTS. Prove the row's statement (the work); the ties are given (YthldgfkkgmpmlaaDoorTie.lean); close each card by the builder's one call (the guide's Derived/Test/ToyasCard.lean, 'card_holds'). Laid BY PROGRAM, IN A SANDBOX (cutbox-door.mjs). By AI agents, Wed Nov 11 2026. No macro, syntax, notation, axiom, sorry.
-/
import Derived.Test.YthldgfkkgmpmlaaDoorRows
import GoSem.ClaimSeven
namespace Go.Proofs.YthldgfkkgmpmlaaDoor
namespace Rows

/-- THE TIED CARD OF 'laws.FnExactVerifyTrie'. -/
def fnExactVerifyTrieCard : Claim7 := { stood := { row := fnExactVerifyTrieRow, standIns := [], harness := (true, "66b7ee5e7afef92eacaeba187c94c4f599a4b5a839cb401186fdf13b387874f9"), looks := false }, kinds := [], alts := [], laidByText := true, laidKinds := [.data, .data], laidTests := true, laidLooks := .later }
def FnExactVerifyTrieCardSaid : Prop := Claim7.holds Tryd.pinned (.plain (OpenSpec.ofChange fnExactVerifyTrieSpec)) fnExactVerifyTrieCard

/-- THE TIED CARD OF 'laws.FnTries'. -/
def fnTriesCard : Claim7 := { stood := { row := fnTriesRow, standIns := [], harness := (true, "66b7ee5e7afef92eacaeba187c94c4f599a4b5a839cb401186fdf13b387874f9"), looks := false }, kinds := [], alts := [], laidByText := true, laidKinds := [.data, .data], laidTests := true, laidLooks := .later }
def FnTriesCardSaid : Prop := Claim7.holds Tryd.pinned (.plain (OpenSpec.ofChange fnTriesSpec)) fnTriesCard

/-- THE TIED CARD OF 'laws.FnTriesOne'. -/
def fnTriesOneCard : Claim7 := { stood := { row := fnTriesOneRow, standIns := [], harness := (true, "66b7ee5e7afef92eacaeba187c94c4f599a4b5a839cb401186fdf13b387874f9"), looks := false }, kinds := [], alts := [], laidByText := true, laidKinds := [.data, .data], laidTests := true, laidLooks := .later }
def FnTriesOneCardSaid : Prop := Claim7.holds Tryd.pinned (.plain (OpenSpec.ofChange fnTriesOneSpec)) fnTriesOneCard

/-- THE SECOND FORM's CARD OF 'laws.FnExactVerifyTrie'. -/
def fnExactVerifyTrieUptoCard : Claim7 := { stood := { row := fnExactVerifyTrieUptoRow, standIns := [], harness := (true, "66b7ee5e7afef92eacaeba187c94c4f599a4b5a839cb401186fdf13b387874f9"), looks := false }, kinds := [], alts := [], laidByText := true, laidKinds := [.data, .data], laidTests := true, laidLooks := .later }
def FnExactVerifyTrieUptoCardSaid : Prop := Claim7.holds Tryd.pinned (.plain (OpenSpec.upto fnExactVerifyTrieSpec)) fnExactVerifyTrieUptoCard

/-- THE SECOND FORM's CARD OF 'laws.FnTries'. -/
def fnTriesUptoCard : Claim7 := { stood := { row := fnTriesUptoRow, standIns := [], harness := (true, "66b7ee5e7afef92eacaeba187c94c4f599a4b5a839cb401186fdf13b387874f9"), looks := false }, kinds := [], alts := [], laidByText := true, laidKinds := [.data, .data], laidTests := true, laidLooks := .later }
def FnTriesUptoCardSaid : Prop := Claim7.holds Tryd.pinned (.plain (OpenSpec.upto fnTriesSpec)) fnTriesUptoCard

/-- THE SECOND FORM's CARD OF 'laws.FnTriesOne'. -/
def fnTriesOneUptoCard : Claim7 := { stood := { row := fnTriesOneUptoRow, standIns := [], harness := (true, "66b7ee5e7afef92eacaeba187c94c4f599a4b5a839cb401186fdf13b387874f9"), looks := false }, kinds := [], alts := [], laidByText := true, laidKinds := [.data, .data], laidTests := true, laidLooks := .later }
def FnTriesOneUptoCardSaid : Prop := Claim7.holds Tryd.pinned (.plain (OpenSpec.upto fnTriesOneSpec)) fnTriesOneUptoCard
end Rows
end Go.Proofs.YthldgfkkgmpmlaaDoor
