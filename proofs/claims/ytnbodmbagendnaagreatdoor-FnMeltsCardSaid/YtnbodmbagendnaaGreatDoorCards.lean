/-
  DERIVED. GIVEN WITH THE SEED: THE CARDS: each row of YtnbodmbagendnaaGreatDoorRows.lean that lists a variable, with what it lists TIED to the program's text (the seventh form; the later family's looks); each row that meets fmt, with fmt's text TOLD by the authors' own Lean function (tested against real Go, not proved from fmt's source: count such statements apart). THE CARD IS WHAT COUNTS. Prove the row's statement (the work); the ties are given (YtnbodmbagendnaaGreatDoorTie.lean); close each card by the builder's one call (the guide's Derived/Test/ToyasCard.lean, 'card_holds'). Laid BY PROGRAM, IN A SANDBOX (cutbox-door.mjs). By AI agents, Wed Nov 11 2026. No macro, syntax, notation, axiom, sorry.
-/
import Derived.Test.YtnbodmbagendnaaGreatDoorRows
import GoSem.ClaimSeven
namespace Go.Proofs.YtnbodmbagendnaaGreatDoor
namespace Rows

/-- THE TIED CARD OF 'laws.FnMelts'. -/
def fnMeltsCard : Claim7 := { stood := { row := fnMeltsRow, standIns := [], harness := (true, "24743ec6ca2547daf78eaa2660d5542838fd351c4693803ba4af814eec46b0c6"), looks := true }, kinds := [], alts := [], laidByText := true, laidKinds := [.data, .data, .data, .data, .sentinel, .sentinel, .pinned], laidTests := true, laidLooks := .later }
def FnMeltsCardSaid : Prop := Claim7.holds Tryz.pinned (.plain (OpenSpec.ofChange fnMeltsSpec)) fnMeltsCard

/-- THE SECOND FORM's CARD OF 'laws.FnMelts'. -/
def fnMeltsUptoCard : Claim7 := { stood := { row := fnMeltsUptoRow, standIns := [], harness := (true, "24743ec6ca2547daf78eaa2660d5542838fd351c4693803ba4af814eec46b0c6"), looks := true }, kinds := [], alts := [], laidByText := true, laidKinds := [.data, .data, .data, .data, .sentinel, .sentinel, .pinned], laidTests := true, laidLooks := .later }
def FnMeltsUptoCardSaid : Prop := Claim7.holds Tryz.pinned (.plain (OpenSpec.upto fnMeltsSpec)) fnMeltsUptoCard
end Rows
end Go.Proofs.YtnbodmbagendnaaGreatDoor
