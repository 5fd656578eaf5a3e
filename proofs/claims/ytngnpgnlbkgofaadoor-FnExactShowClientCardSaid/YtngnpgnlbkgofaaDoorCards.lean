/-
  DERIVED. GIVEN WITH THE SEED: THE CARDS: each row of YtngnpgnlbkgofaaDoorRows.lean that lists a variable, with what it lists TIED to the program's text (the seventh form; the later family's looks); each row that meets fmt, with fmt's text TOLD by the authors' own Lean function (tested against real Go, not proved from fmt's source: count such statements apart). THE CARD IS WHAT COUNTS. Prove the row's statement (the work); the ties are given (YtngnpgnlbkgofaaDoorTie.lean); close each card by the builder's one call (the guide's Derived/Test/ToyasCard.lean, 'card_holds'). Laid BY PROGRAM, IN A SANDBOX (cutbox-door.mjs). By AI agents, Wed Nov 11 2026. No macro, syntax, notation, axiom, sorry.
-/
import Derived.Test.YtngnpgnlbkgofaaDoorRows
import GoSem.ClaimSeven
namespace Go.Proofs.YtngnpgnlbkgofaaDoor
namespace Rows

/-- THE TIED CARD OF 'laws.FnExactShowClient'. -/
def fnExactShowClientCard : Claim7 := { stood := { row := fnExactShowClientRow, standIns := [], harness := (true, "43ad6ec0b3acc4fbdedc1d879fff6f6887d35b9913a24ced282be88c7bb4b888"), looks := false }, kinds := [], alts := [], laidByText := true, laidKinds := [.data, .data, .data, .data, .data], laidTests := true, laidLooks := .later }
def FnExactShowClientCardSaid : Prop := Claim7.holds Tryd.pinned (.plain (OpenSpec.ofChange fnExactShowClientSpec)) fnExactShowClientCard

/-- THE TIED CARD OF 'laws.FnExactVerifyTrie'. -/
def fnExactVerifyTrieCard : Claim7 := { stood := { row := fnExactVerifyTrieRow, standIns := [], harness := (true, "43ad6ec0b3acc4fbdedc1d879fff6f6887d35b9913a24ced282be88c7bb4b888"), looks := false }, kinds := [], alts := [], laidByText := true, laidKinds := [.data, .data], laidTests := true, laidLooks := .later }
def FnExactVerifyTrieCardSaid : Prop := Claim7.holds Tryd.pinned (.plain (OpenSpec.ofChange fnExactVerifyTrieSpec)) fnExactVerifyTrieCard

/-- THE TIED CARD OF 'laws.FnExactReadScript'. -/
def fnExactReadScriptCard : Claim7 := { stood := { row := fnExactReadScriptRow, standIns := [], harness := (true, "43ad6ec0b3acc4fbdedc1d879fff6f6887d35b9913a24ced282be88c7bb4b888"), looks := false }, kinds := [], alts := [], laidByText := true, laidKinds := [.data, .data, .data, .data, .pinned], laidTests := true, laidLooks := .later }
def FnExactReadScriptCardSaid : Prop := Claim7.holds Tryd.pinned (.plain (OpenSpec.ofChange fnExactReadScriptSpec)) fnExactReadScriptCard

/-- THE SECOND FORM's CARD OF 'laws.FnExactShowClient'. -/
def fnExactShowClientUptoCard : Claim7 := { stood := { row := fnExactShowClientUptoRow, standIns := [], harness := (true, "43ad6ec0b3acc4fbdedc1d879fff6f6887d35b9913a24ced282be88c7bb4b888"), looks := false }, kinds := [], alts := [], laidByText := true, laidKinds := [.data, .data, .data, .data, .data], laidTests := true, laidLooks := .later }
def FnExactShowClientUptoCardSaid : Prop := Claim7.holds Tryd.pinned (.plain (OpenSpec.upto fnExactShowClientSpec)) fnExactShowClientUptoCard

/-- THE SECOND FORM's CARD OF 'laws.FnExactVerifyTrie'. -/
def fnExactVerifyTrieUptoCard : Claim7 := { stood := { row := fnExactVerifyTrieUptoRow, standIns := [], harness := (true, "43ad6ec0b3acc4fbdedc1d879fff6f6887d35b9913a24ced282be88c7bb4b888"), looks := false }, kinds := [], alts := [], laidByText := true, laidKinds := [.data, .data], laidTests := true, laidLooks := .later }
def FnExactVerifyTrieUptoCardSaid : Prop := Claim7.holds Tryd.pinned (.plain (OpenSpec.upto fnExactVerifyTrieSpec)) fnExactVerifyTrieUptoCard

/-- THE SECOND FORM's CARD OF 'laws.FnExactReadScript'. -/
def fnExactReadScriptUptoCard : Claim7 := { stood := { row := fnExactReadScriptUptoRow, standIns := [], harness := (true, "43ad6ec0b3acc4fbdedc1d879fff6f6887d35b9913a24ced282be88c7bb4b888"), looks := false }, kinds := [], alts := [], laidByText := true, laidKinds := [.data, .data, .data, .data, .pinned], laidTests := true, laidLooks := .later }
def FnExactReadScriptUptoCardSaid : Prop := Claim7.holds Tryd.pinned (.plain (OpenSpec.upto fnExactReadScriptSpec)) fnExactReadScriptUptoCard
end Rows
end Go.Proofs.YtngnpgnlbkgofaaDoor
