/-
  DERIVED. GIVEN WITH THE SEED: THE CARDS: each row of YtklgkbiobggbiaaGreatDoorRows.lean that lists a variable, with what it lists TIED to the program's text (the seventh form; the later family's looks); each row that meets fmt, with fmt's text TOLD by the authors' own Lean function (tested against real Go, not proved from fmt's source: count such statements apart). THE CARD IS WHAT COUNTS. Prove the row's statement (the work); the ties are given (YtklgkbiobggbiaaGreatDoorTie.lean); close each card by the builder's one call (the guide's Derived/Test/ToyasCard.lean, 'card_holds'). Laid BY PROGRAM, IN A SANDBOX (cutbox-door.mjs). By AI agents, Wed Nov 11 2026. No macro, syntax, notation, axiom, sorry.
-/
import Derived.Test.YtklgkbiobggbiaaGreatDoorRows
import GoSem.ClaimSeven
namespace Go.Proofs.YtklgkbiobggbiaaGreatDoor
namespace Rows

/-- THE TIED CARD OF 'laws.FnMeasures'. -/
def fnMeasuresCard : Claim7 := { stood := { row := fnMeasuresRow, standIns := [], harness := (true, "8080e7a5b9c1cc73f8e12019ca8f8d8eb13f3ecfd2259323ee6553c2f4169739"), looks := true }, kinds := [], alts := [], laidByText := true, laidKinds := [.data, .data, .data, .data, .sentinel, .sentinel, .pinned], laidTests := true, laidLooks := .later }
def FnMeasuresCardSaid : Prop := Claim7.holds Tryz.pinned (.plain (OpenSpec.ofChange fnMeasuresSpec)) fnMeasuresCard

/-- THE TIED CARD OF 'laws.FnMelts'. -/
def fnMeltsCard : Claim7 := { stood := { row := fnMeltsRow, standIns := [], harness := (true, "8080e7a5b9c1cc73f8e12019ca8f8d8eb13f3ecfd2259323ee6553c2f4169739"), looks := true }, kinds := [], alts := [], laidByText := true, laidKinds := [.data, .data, .data, .data, .sentinel, .sentinel, .pinned], laidTests := true, laidLooks := .later }
def FnMeltsCardSaid : Prop := Claim7.holds Tryz.pinned (.plain (OpenSpec.ofChange fnMeltsSpec)) fnMeltsCard

/-- THE SECOND FORM's CARD OF 'laws.FnMeasures'. -/
def fnMeasuresUptoCard : Claim7 := { stood := { row := fnMeasuresUptoRow, standIns := [], harness := (true, "8080e7a5b9c1cc73f8e12019ca8f8d8eb13f3ecfd2259323ee6553c2f4169739"), looks := true }, kinds := [], alts := [], laidByText := true, laidKinds := [.data, .data, .data, .data, .sentinel, .sentinel, .pinned], laidTests := true, laidLooks := .later }
def FnMeasuresUptoCardSaid : Prop := Claim7.holds Tryz.pinned (.plain (OpenSpec.upto fnMeasuresSpec)) fnMeasuresUptoCard

/-- THE SECOND FORM's CARD OF 'laws.FnMelts'. -/
def fnMeltsUptoCard : Claim7 := { stood := { row := fnMeltsUptoRow, standIns := [], harness := (true, "8080e7a5b9c1cc73f8e12019ca8f8d8eb13f3ecfd2259323ee6553c2f4169739"), looks := true }, kinds := [], alts := [], laidByText := true, laidKinds := [.data, .data, .data, .data, .sentinel, .sentinel, .pinned], laidTests := true, laidLooks := .later }
def FnMeltsUptoCardSaid : Prop := Claim7.holds Tryz.pinned (.plain (OpenSpec.upto fnMeltsSpec)) fnMeltsUptoCard
end Rows
end Go.Proofs.YtklgkbiobggbiaaGreatDoor
