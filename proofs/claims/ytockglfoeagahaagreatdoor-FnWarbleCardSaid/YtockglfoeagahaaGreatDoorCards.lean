/-
  DERIVED. GIVEN WITH THE SEED: THE CARDS: each row of YtockglfoeagahaaGreatDoorRows.lean that lists a variable, with what it lists TIED to the program's text (the seventh form; the later family's looks); each row that meets fmt, with fmt's text TOLD by the authors' own Lean function (tested against real Go, not proved from fmt's source: count such statements apart). THE CARD IS WHAT COUNTS. Prove the row's statement (the work); the ties are given (YtockglfoeagahaaGreatDoorTie.lean); close each card by the builder's one call (the guide's Derived/Test/ToyasCard.lean, 'card_holds'). Laid BY PROGRAM, IN A SANDBOX (cutbox-door.mjs). By AI agents, Wed Nov 11 2026. No macro, syntax, notation, axiom, sorry.
-/
import Derived.Test.YtockglfoeagahaaGreatDoorRows
import GoSem.ClaimSeven
namespace Go.Proofs.YtockglfoeagahaaGreatDoor
namespace Rows

/-- THE TIED CARD OF 'laws.FnWarble'. -/
def fnWarbleCard : Claim7 := { stood := { row := fnWarbleRow, standIns := [], harness := (true, "4229f5856da547be61cb04abcf5142c68d03e9ad51d9ee509f80ac6b80930c6f"), looks := true }, kinds := [], alts := [], laidByText := true, laidKinds := [.data, .data, .data, .data, .sentinel, .sentinel, .data, .pinned], laidTests := true, laidLooks := .later }
def FnWarbleCardSaid : Prop := Claim7.holds Tryz.pinned (.plain (OpenSpec.ofChange fnWarbleSpec)) fnWarbleCard

/-- THE SECOND FORM's CARD OF 'laws.FnWarble'. -/
def fnWarbleUptoCard : Claim7 := { stood := { row := fnWarbleUptoRow, standIns := [], harness := (true, "4229f5856da547be61cb04abcf5142c68d03e9ad51d9ee509f80ac6b80930c6f"), looks := true }, kinds := [], alts := [], laidByText := true, laidKinds := [.data, .data, .data, .data, .sentinel, .sentinel, .data, .pinned], laidTests := true, laidLooks := .later }
def FnWarbleUptoCardSaid : Prop := Claim7.holds Tryz.pinned (.plain (OpenSpec.upto fnWarbleSpec)) fnWarbleUptoCard
end Rows
end Go.Proofs.YtockglfoeagahaaGreatDoor
