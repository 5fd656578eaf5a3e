/-
  DERIVED. GIVEN WITH THE SEED: THE CARDS: each row of YtpnodjpefkcflaaGreatDoorRows.lean that lists a variable, with what it lists TIED to the program's text (the seventh form; the later family's looks); each row that meets fmt, with fmt's text TOLD by the authors' own Lean function (tested against real Go, not proved from fmt's source: count such statements apart). THE CARD IS WHAT COUNTS. Prove the row's statement (the work); the ties are given (YtpnodjpefkcflaaGreatDoorTie.lean); close each card by the builder's one call (the guide's Derived/Test/ToyasCard.lean, 'card_holds'). Laid BY PROGRAM, IN A SANDBOX (cutbox-door.mjs). By AI agents, Wed Nov 11 2026. No macro, syntax, notation, axiom, sorry.
-/
import Derived.Test.YtpnodjpefkcflaaGreatDoorRows
import GoSem.ClaimSeven
namespace Go.Proofs.YtpnodjpefkcflaaGreatDoor
namespace Rows

/-- THE TIED CARD OF 'laws.FnExactChainHead'. -/
def fnExactChainHeadCard : Claim7 := { stood := { row := fnExactChainHeadRow, standIns := [], harness := (true, "f3dd9c4c28046e80f03db3909f984e6b53f28c1511333640964a9969cf74f9cf"), looks := false }, kinds := [], alts := [], laidByText := true, laidKinds := [.data, .data, .data, .data, .data], laidTests := true, laidLooks := .later }
def FnExactChainHeadCardSaid : Prop := Claim7.holds Tryz.pinned (.plain (OpenSpec.ofChange fnExactChainHeadSpec)) fnExactChainHeadCard

/-- THE TIED CARD OF 'laws.FnExactOnChain'. -/
def fnExactOnChainCard : Claim7 := { stood := { row := fnExactOnChainRow, standIns := [], harness := (true, "f3dd9c4c28046e80f03db3909f984e6b53f28c1511333640964a9969cf74f9cf"), looks := false }, kinds := [], alts := [], laidByText := true, laidKinds := [.data, .data, .data, .data, .data], laidTests := true, laidLooks := .later }
def FnExactOnChainCardSaid : Prop := Claim7.holds Tryz.pinned (.plain (OpenSpec.ofChange fnExactOnChainSpec)) fnExactOnChainCard

/-- THE TIED CARD OF 'laws.FnExactChainStart'. -/
def fnExactChainStartCard : Claim7 := { stood := { row := fnExactChainStartRow, standIns := [], harness := (true, "f3dd9c4c28046e80f03db3909f984e6b53f28c1511333640964a9969cf74f9cf"), looks := false }, kinds := [], alts := [], laidByText := true, laidKinds := [.data, .data, .data, .data, .data], laidTests := true, laidLooks := .later }
def FnExactChainStartCardSaid : Prop := Claim7.holds Tryz.pinned (.plain (OpenSpec.ofChange fnExactChainStartSpec)) fnExactChainStartCard

/-- THE TIED CARD OF 'laws.FnExactBelieved'. -/
def fnExactBelievedCard : Claim7 := { stood := { row := fnExactBelievedRow, standIns := [], harness := (true, "f3dd9c4c28046e80f03db3909f984e6b53f28c1511333640964a9969cf74f9cf"), looks := false }, kinds := [], alts := [], laidByText := true, laidKinds := [.data, .data, .data, .data, .data], laidTests := true, laidLooks := .later }
def FnExactBelievedCardSaid : Prop := Claim7.holds Tryz.pinned (.plain (OpenSpec.ofChange fnExactBelievedSpec)) fnExactBelievedCard

/-- THE TIED CARD OF 'laws.FnExactWorldNew'. -/
def fnExactWorldNewCard : Claim7 := { stood := { row := fnExactWorldNewRow, standIns := [], harness := (true, "f3dd9c4c28046e80f03db3909f984e6b53f28c1511333640964a9969cf74f9cf"), looks := false }, kinds := [], alts := [], laidByText := true, laidKinds := [.data, .data, .data, .data, .data], laidTests := true, laidLooks := .later }
def FnExactWorldNewCardSaid : Prop := Claim7.holds Tryz.pinned (.plain (OpenSpec.ofChange fnExactWorldNewSpec)) fnExactWorldNewCard

/-- THE SECOND FORM's CARD OF 'laws.FnExactChainHead'. -/
def fnExactChainHeadUptoCard : Claim7 := { stood := { row := fnExactChainHeadUptoRow, standIns := [], harness := (true, "f3dd9c4c28046e80f03db3909f984e6b53f28c1511333640964a9969cf74f9cf"), looks := false }, kinds := [], alts := [], laidByText := true, laidKinds := [.data, .data, .data, .data, .data], laidTests := true, laidLooks := .later }
def FnExactChainHeadUptoCardSaid : Prop := Claim7.holds Tryz.pinned (.plain (OpenSpec.upto fnExactChainHeadSpec)) fnExactChainHeadUptoCard

/-- THE SECOND FORM's CARD OF 'laws.FnExactOnChain'. -/
def fnExactOnChainUptoCard : Claim7 := { stood := { row := fnExactOnChainUptoRow, standIns := [], harness := (true, "f3dd9c4c28046e80f03db3909f984e6b53f28c1511333640964a9969cf74f9cf"), looks := false }, kinds := [], alts := [], laidByText := true, laidKinds := [.data, .data, .data, .data, .data], laidTests := true, laidLooks := .later }
def FnExactOnChainUptoCardSaid : Prop := Claim7.holds Tryz.pinned (.plain (OpenSpec.upto fnExactOnChainSpec)) fnExactOnChainUptoCard

/-- THE SECOND FORM's CARD OF 'laws.FnExactChainStart'. -/
def fnExactChainStartUptoCard : Claim7 := { stood := { row := fnExactChainStartUptoRow, standIns := [], harness := (true, "f3dd9c4c28046e80f03db3909f984e6b53f28c1511333640964a9969cf74f9cf"), looks := false }, kinds := [], alts := [], laidByText := true, laidKinds := [.data, .data, .data, .data, .data], laidTests := true, laidLooks := .later }
def FnExactChainStartUptoCardSaid : Prop := Claim7.holds Tryz.pinned (.plain (OpenSpec.upto fnExactChainStartSpec)) fnExactChainStartUptoCard

/-- THE SECOND FORM's CARD OF 'laws.FnExactBelieved'. -/
def fnExactBelievedUptoCard : Claim7 := { stood := { row := fnExactBelievedUptoRow, standIns := [], harness := (true, "f3dd9c4c28046e80f03db3909f984e6b53f28c1511333640964a9969cf74f9cf"), looks := false }, kinds := [], alts := [], laidByText := true, laidKinds := [.data, .data, .data, .data, .data], laidTests := true, laidLooks := .later }
def FnExactBelievedUptoCardSaid : Prop := Claim7.holds Tryz.pinned (.plain (OpenSpec.upto fnExactBelievedSpec)) fnExactBelievedUptoCard

/-- THE SECOND FORM's CARD OF 'laws.FnExactWorldNew'. -/
def fnExactWorldNewUptoCard : Claim7 := { stood := { row := fnExactWorldNewUptoRow, standIns := [], harness := (true, "f3dd9c4c28046e80f03db3909f984e6b53f28c1511333640964a9969cf74f9cf"), looks := false }, kinds := [], alts := [], laidByText := true, laidKinds := [.data, .data, .data, .data, .data], laidTests := true, laidLooks := .later }
def FnExactWorldNewUptoCardSaid : Prop := Claim7.holds Tryz.pinned (.plain (OpenSpec.upto fnExactWorldNewSpec)) fnExactWorldNewUptoCard
end Rows
end Go.Proofs.YtpnodjpefkcflaaGreatDoor
