/-
  DERIVED. GIVEN WITH THE SEED: THE CARDS: each row of YtgbdombjahllcaaDoorRows.lean that lists a variable, with what it lists TIED to the program's text (the seventh form; the later family's looks); each row that meets fmt, with fmt's text TOLD by the authors' own Lean function (tested against real Go, not proved from fmt's source: count such statements apart). THE CARD IS WHAT COUNTS. Prove the row's statement (the work); the ties are given (YtgbdombjahllcaaDoorTie.lean); close each card by the builder's one call (the guide's Derived/Test/ToyasCard.lean, 'card_holds'). Laid BY PROGRAM, IN A SANDBOX (cutbox-door.mjs). By AI agents, Wed Nov 11 2026. No macro, syntax, notation, axiom, sorry.
-/
import Derived.Test.YtgbdombjahllcaaDoorRows
import GoSem.ClaimSeven
namespace Go.Proofs.YtgbdombjahllcaaDoor
namespace Rows

/-- THE TIED CARD OF 'laws.FnExactVerifyTrie'. -/
def fnExactVerifyTrieCard : Claim7 := { stood := { row := fnExactVerifyTrieRow, standIns := [], harness := (true, "ee254e7feb5784af82e673650de0970f60fdb4e4c586d2343368f29b0e63347f"), looks := false }, kinds := [], alts := [], laidByText := true, laidKinds := [.data, .data], laidTests := true, laidLooks := .later }
def FnExactVerifyTrieCardSaid : Prop := Claim7.holds Tryd.pinned (.plain (OpenSpec.ofChange fnExactVerifyTrieSpec)) fnExactVerifyTrieCard

/-- THE SECOND FORM's CARD OF 'laws.FnExactVerifyTrie'. -/
def fnExactVerifyTrieUptoCard : Claim7 := { stood := { row := fnExactVerifyTrieUptoRow, standIns := [], harness := (true, "ee254e7feb5784af82e673650de0970f60fdb4e4c586d2343368f29b0e63347f"), looks := false }, kinds := [], alts := [], laidByText := true, laidKinds := [.data, .data], laidTests := true, laidLooks := .later }
def FnExactVerifyTrieUptoCardSaid : Prop := Claim7.holds Tryd.pinned (.plain (OpenSpec.upto fnExactVerifyTrieSpec)) fnExactVerifyTrieUptoCard
end Rows
end Go.Proofs.YtgbdombjahllcaaDoor
