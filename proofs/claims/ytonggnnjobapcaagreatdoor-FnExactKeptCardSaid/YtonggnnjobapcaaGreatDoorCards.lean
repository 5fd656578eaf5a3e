/-
  DERIVED. GIVEN WITH THE SEED: THE CARDS: each row of YtonggnnjobapcaaGreatDoorRows.lean that lists a variable, with what it lists TIED to the program's text (the seventh form; the later family's looks); each row that meets fmt, with fmt's text TOLD by the authors' own Lean function (tested against real Go, not proved from fmt's source: count such statements apart). THE CARD IS WHAT COUNTS. Prove the row's statement (the work); the ties are given (YtonggnnjobapcaaGreatDoorTie.lean); close each card by the builder's one call (the guide's Derived/Test/ToyasCard.lean, 'card_holds'). Laid BY PROGRAM, IN A SANDBOX (cutbox-door.mjs). By AI agents, Wed Nov 11 2026. No macro, syntax, notation, axiom, sorry.
-/
import Derived.Test.YtonggnnjobapcaaGreatDoorRows
import GoSem.ClaimSeven
namespace Go.Proofs.YtonggnnjobapcaaGreatDoor
namespace Rows

/-- THE TIED CARD OF 'laws.FnExactShowBridge'. -/
def fnExactShowBridgeCard : Claim7 := { stood := { row := fnExactShowBridgeRow, standIns := [], harness := (true, "d67a95789c1cb8c58d8d11c2374928f474b572f01721a8d05b313e8d5ebba878"), looks := false }, kinds := [], alts := [], laidByText := true, laidKinds := [.data, .data, .data, .data, .data], laidTests := true, laidLooks := .later }
def FnExactShowBridgeCardSaid : Prop := Claim7.holds Tryz.pinned (.plain (OpenSpec.ofChange fnExactShowBridgeSpec)) fnExactShowBridgeCard

/-- THE TIED CARD OF 'laws.FnExactReplay'. -/
def fnExactReplayCard : Claim7 := { stood := { row := fnExactReplayRow, standIns := [], harness := (true, "d67a95789c1cb8c58d8d11c2374928f474b572f01721a8d05b313e8d5ebba878"), looks := false }, kinds := [], alts := [], laidByText := true, laidKinds := [.data, .data], laidTests := true, laidLooks := .later }
def FnExactReplayCardSaid : Prop := Claim7.holds Tryz.pinned (.plain (OpenSpec.ofChange fnExactReplaySpec)) fnExactReplayCard

/-- THE TIED CARD OF 'laws.FnExactBridgeOk'. -/
def fnExactBridgeOkCard : Claim7 := { stood := { row := fnExactBridgeOkRow, standIns := [], harness := (true, "d67a95789c1cb8c58d8d11c2374928f474b572f01721a8d05b313e8d5ebba878"), looks := false }, kinds := [], alts := [], laidByText := true, laidKinds := [.data, .data], laidTests := true, laidLooks := .later }
def FnExactBridgeOkCardSaid : Prop := Claim7.holds Tryz.pinned (.plain (OpenSpec.ofChange fnExactBridgeOkSpec)) fnExactBridgeOkCard

/-- THE TIED CARD OF 'laws.FnExactDrain'. -/
def fnExactDrainCard : Claim7 := { stood := { row := fnExactDrainRow, standIns := [], harness := (true, "d67a95789c1cb8c58d8d11c2374928f474b572f01721a8d05b313e8d5ebba878"), looks := false }, kinds := [], alts := [], laidByText := true, laidKinds := [.data, .data], laidTests := true, laidLooks := .later }
def FnExactDrainCardSaid : Prop := Claim7.holds Tryz.pinned (.plain (OpenSpec.ofChange fnExactDrainSpec)) fnExactDrainCard

/-- THE TIED CARD OF 'laws.FnExactCrash'. -/
def fnExactCrashCard : Claim7 := { stood := { row := fnExactCrashRow, standIns := [], harness := (true, "d67a95789c1cb8c58d8d11c2374928f474b572f01721a8d05b313e8d5ebba878"), looks := false }, kinds := [], alts := [], laidByText := true, laidKinds := [.data, .data], laidTests := true, laidLooks := .later }
def FnExactCrashCardSaid : Prop := Claim7.holds Tryz.pinned (.plain (OpenSpec.ofChange fnExactCrashSpec)) fnExactCrashCard

/-- THE TIED CARD OF 'laws.FnExactKept'. -/
def fnExactKeptCard : Claim7 := { stood := { row := fnExactKeptRow, standIns := [], harness := (true, "d67a95789c1cb8c58d8d11c2374928f474b572f01721a8d05b313e8d5ebba878"), looks := false }, kinds := [], alts := [], laidByText := true, laidKinds := [.data, .data], laidTests := true, laidLooks := .later }
def FnExactKeptCardSaid : Prop := Claim7.holds Tryz.pinned (.plain (OpenSpec.ofChange fnExactKeptSpec)) fnExactKeptCard

/-- THE SECOND FORM's CARD OF 'laws.FnExactShowBridge'. -/
def fnExactShowBridgeUptoCard : Claim7 := { stood := { row := fnExactShowBridgeUptoRow, standIns := [], harness := (true, "d67a95789c1cb8c58d8d11c2374928f474b572f01721a8d05b313e8d5ebba878"), looks := false }, kinds := [], alts := [], laidByText := true, laidKinds := [.data, .data, .data, .data, .data], laidTests := true, laidLooks := .later }
def FnExactShowBridgeUptoCardSaid : Prop := Claim7.holds Tryz.pinned (.plain (OpenSpec.upto fnExactShowBridgeSpec)) fnExactShowBridgeUptoCard

/-- THE SECOND FORM's CARD OF 'laws.FnExactReplay'. -/
def fnExactReplayUptoCard : Claim7 := { stood := { row := fnExactReplayUptoRow, standIns := [], harness := (true, "d67a95789c1cb8c58d8d11c2374928f474b572f01721a8d05b313e8d5ebba878"), looks := false }, kinds := [], alts := [], laidByText := true, laidKinds := [.data, .data], laidTests := true, laidLooks := .later }
def FnExactReplayUptoCardSaid : Prop := Claim7.holds Tryz.pinned (.plain (OpenSpec.upto fnExactReplaySpec)) fnExactReplayUptoCard

/-- THE SECOND FORM's CARD OF 'laws.FnExactBridgeOk'. -/
def fnExactBridgeOkUptoCard : Claim7 := { stood := { row := fnExactBridgeOkUptoRow, standIns := [], harness := (true, "d67a95789c1cb8c58d8d11c2374928f474b572f01721a8d05b313e8d5ebba878"), looks := false }, kinds := [], alts := [], laidByText := true, laidKinds := [.data, .data], laidTests := true, laidLooks := .later }
def FnExactBridgeOkUptoCardSaid : Prop := Claim7.holds Tryz.pinned (.plain (OpenSpec.upto fnExactBridgeOkSpec)) fnExactBridgeOkUptoCard

/-- THE SECOND FORM's CARD OF 'laws.FnExactDrain'. -/
def fnExactDrainUptoCard : Claim7 := { stood := { row := fnExactDrainUptoRow, standIns := [], harness := (true, "d67a95789c1cb8c58d8d11c2374928f474b572f01721a8d05b313e8d5ebba878"), looks := false }, kinds := [], alts := [], laidByText := true, laidKinds := [.data, .data], laidTests := true, laidLooks := .later }
def FnExactDrainUptoCardSaid : Prop := Claim7.holds Tryz.pinned (.plain (OpenSpec.upto fnExactDrainSpec)) fnExactDrainUptoCard

/-- THE SECOND FORM's CARD OF 'laws.FnExactCrash'. -/
def fnExactCrashUptoCard : Claim7 := { stood := { row := fnExactCrashUptoRow, standIns := [], harness := (true, "d67a95789c1cb8c58d8d11c2374928f474b572f01721a8d05b313e8d5ebba878"), looks := false }, kinds := [], alts := [], laidByText := true, laidKinds := [.data, .data], laidTests := true, laidLooks := .later }
def FnExactCrashUptoCardSaid : Prop := Claim7.holds Tryz.pinned (.plain (OpenSpec.upto fnExactCrashSpec)) fnExactCrashUptoCard

/-- THE SECOND FORM's CARD OF 'laws.FnExactKept'. -/
def fnExactKeptUptoCard : Claim7 := { stood := { row := fnExactKeptUptoRow, standIns := [], harness := (true, "d67a95789c1cb8c58d8d11c2374928f474b572f01721a8d05b313e8d5ebba878"), looks := false }, kinds := [], alts := [], laidByText := true, laidKinds := [.data, .data], laidTests := true, laidLooks := .later }
def FnExactKeptUptoCardSaid : Prop := Claim7.holds Tryz.pinned (.plain (OpenSpec.upto fnExactKeptSpec)) fnExactKeptUptoCard
end Rows
end Go.Proofs.YtonggnnjobapcaaGreatDoor
