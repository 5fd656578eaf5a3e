/-
  DERIVED. GIVEN WITH THE SEED: THE CARDS: each row of YtoeiajpklkijgaaGreatDoorRows.lean that lists a variable, with what it lists TIED to the program's text (the seventh form; the later family's looks); each row that meets fmt, with fmt's text TOLD by the authors' own Lean function (tested against real Go, not proved from fmt's source: count such statements apart). THE CARD IS WHAT COUNTS. Prove the row's statement (the work); the ties are given (YtoeiajpklkijgaaGreatDoorTie.lean); close each card by the builder's one call (the guide's Derived/Test/ToyasCard.lean, 'card_holds'). Laid BY PROGRAM, IN A SANDBOX (cutbox-door.mjs). By AI agents, Wed Nov 11 2026. No macro, syntax, notation, axiom, sorry.
-/
import Derived.Test.YtoeiajpklkijgaaGreatDoorRows
import GoSem.ClaimSeven
namespace Go.Proofs.YtoeiajpklkijgaaGreatDoor
namespace Rows

/-- THE TIED CARD OF 'laws.FnTriesOrder'. -/
def fnTriesOrderCard : Claim7 := { stood := { row := fnTriesOrderRow, standIns := [], harness := (true, "c7fcd42be4864ab21497bde8a5835ba00c01ceea26001ad729b0f86756521e21"), looks := false }, kinds := [], alts := [], laidByText := true, laidKinds := [.data, .data], laidTests := true, laidLooks := .later }
def FnTriesOrderCardSaid : Prop := Claim7.holds Tryz.pinned (.plain (OpenSpec.ofChange fnTriesOrderSpec)) fnTriesOrderCard

/-- THE TIED CARD OF 'laws.FnTriesTurned'. -/
def fnTriesTurnedCard : Claim7 := { stood := { row := fnTriesTurnedRow, standIns := [], harness := (true, "c7fcd42be4864ab21497bde8a5835ba00c01ceea26001ad729b0f86756521e21"), looks := false }, kinds := [], alts := [], laidByText := true, laidKinds := [.data, .data], laidTests := true, laidLooks := .later }
def FnTriesTurnedCardSaid : Prop := Claim7.holds Tryz.pinned (.plain (OpenSpec.ofChange fnTriesTurnedSpec)) fnTriesTurnedCard

/-- THE TIED CARD OF 'laws.FnExactChainAsk'. -/
def fnExactChainAskCard : Claim7 := { stood := { row := fnExactChainAskRow, standIns := [], harness := (true, "c7fcd42be4864ab21497bde8a5835ba00c01ceea26001ad729b0f86756521e21"), looks := false }, kinds := [], alts := [], laidByText := true, laidKinds := [.data, .data, .data, .data, .data], laidTests := true, laidLooks := .later }
def FnExactChainAskCardSaid : Prop := Claim7.holds Tryz.pinned (.plain (OpenSpec.ofChange fnExactChainAskSpec)) fnExactChainAskCard

/-- THE SECOND FORM's CARD OF 'laws.FnTriesOrder'. -/
def fnTriesOrderUptoCard : Claim7 := { stood := { row := fnTriesOrderUptoRow, standIns := [], harness := (true, "c7fcd42be4864ab21497bde8a5835ba00c01ceea26001ad729b0f86756521e21"), looks := false }, kinds := [], alts := [], laidByText := true, laidKinds := [.data, .data], laidTests := true, laidLooks := .later }
def FnTriesOrderUptoCardSaid : Prop := Claim7.holds Tryz.pinned (.plain (OpenSpec.upto fnTriesOrderSpec)) fnTriesOrderUptoCard

/-- THE SECOND FORM's CARD OF 'laws.FnTriesTurned'. -/
def fnTriesTurnedUptoCard : Claim7 := { stood := { row := fnTriesTurnedUptoRow, standIns := [], harness := (true, "c7fcd42be4864ab21497bde8a5835ba00c01ceea26001ad729b0f86756521e21"), looks := false }, kinds := [], alts := [], laidByText := true, laidKinds := [.data, .data], laidTests := true, laidLooks := .later }
def FnTriesTurnedUptoCardSaid : Prop := Claim7.holds Tryz.pinned (.plain (OpenSpec.upto fnTriesTurnedSpec)) fnTriesTurnedUptoCard

/-- THE SECOND FORM's CARD OF 'laws.FnExactChainAsk'. -/
def fnExactChainAskUptoCard : Claim7 := { stood := { row := fnExactChainAskUptoRow, standIns := [], harness := (true, "c7fcd42be4864ab21497bde8a5835ba00c01ceea26001ad729b0f86756521e21"), looks := false }, kinds := [], alts := [], laidByText := true, laidKinds := [.data, .data, .data, .data, .data], laidTests := true, laidLooks := .later }
def FnExactChainAskUptoCardSaid : Prop := Claim7.holds Tryz.pinned (.plain (OpenSpec.upto fnExactChainAskSpec)) fnExactChainAskUptoCard
end Rows
end Go.Proofs.YtoeiajpklkijgaaGreatDoor
