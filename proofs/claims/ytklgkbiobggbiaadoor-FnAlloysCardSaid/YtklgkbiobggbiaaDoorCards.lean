/-
  DERIVED. GIVEN WITH THE SEED: THE CARDS: each row of YtklgkbiobggbiaaDoorRows.lean that lists a variable, with what it lists TIED to the program's text (the seventh form; the later family's looks); each row that meets fmt, with fmt's text TOLD by the authors' own Lean function (tested against real Go, not proved from fmt's source: count such statements apart). THE CARD IS WHAT COUNTS. Prove the row's statement (the work); the ties are given (YtklgkbiobggbiaaDoorTie.lean); close each card by the builder's one call (the guide's Derived/Test/ToyasCard.lean, 'card_holds'). Laid BY PROGRAM, IN A SANDBOX (cutbox-door.mjs). By AI agents, Wed Nov 11 2026. No macro, syntax, notation, axiom, sorry.
-/
import Derived.Test.YtklgkbiobggbiaaDoorRows
import GoSem.ClaimSeven
namespace Go.Proofs.YtklgkbiobggbiaaDoor
namespace Rows

/-- THE TIED CARD OF 'laws.FnExactReadIngot'. -/
def fnExactReadIngotCard : Claim7 := { stood := { row := fnExactReadIngotRow, standIns := [], harness := (true, "377a4ab92494c411f3ce3b4569f753c12c3583ca8d11e4c0ba2f7dc5139cddda"), looks := true }, kinds := [], alts := [], laidByText := true, laidKinds := [.data, .data, .data, .data, .sentinel, .sentinel, .pinned], laidTests := true, laidLooks := .later }
def FnExactReadIngotCardSaid : Prop := Claim7.holds Tryd.pinned (.plain (OpenSpec.ofChange fnExactReadIngotSpec)) fnExactReadIngotCard

/-- THE TIED CARD OF 'laws.FnExactReadMeasure'. -/
def fnExactReadMeasureCard : Claim7 := { stood := { row := fnExactReadMeasureRow, standIns := [], harness := (true, "377a4ab92494c411f3ce3b4569f753c12c3583ca8d11e4c0ba2f7dc5139cddda"), looks := true }, kinds := [], alts := [], laidByText := true, laidKinds := [.data, .data, .data, .data, .sentinel, .sentinel, .pinned], laidTests := true, laidLooks := .later }
def FnExactReadMeasureCardSaid : Prop := Claim7.holds Tryd.pinned (.plain (OpenSpec.ofChange fnExactReadMeasureSpec)) fnExactReadMeasureCard

/-- THE TIED CARD OF 'laws.FnExactReadMelt'. -/
def fnExactReadMeltCard : Claim7 := { stood := { row := fnExactReadMeltRow, standIns := [], harness := (true, "377a4ab92494c411f3ce3b4569f753c12c3583ca8d11e4c0ba2f7dc5139cddda"), looks := true }, kinds := [], alts := [], laidByText := true, laidKinds := [.data, .data, .data, .data, .sentinel, .sentinel, .pinned], laidTests := true, laidLooks := .later }
def FnExactReadMeltCardSaid : Prop := Claim7.holds Tryd.pinned (.plain (OpenSpec.ofChange fnExactReadMeltSpec)) fnExactReadMeltCard

/-- THE TIED CARD OF 'laws.FnExactReadGoal'. -/
def fnExactReadGoalCard : Claim7 := { stood := { row := fnExactReadGoalRow, standIns := [], harness := (true, "377a4ab92494c411f3ce3b4569f753c12c3583ca8d11e4c0ba2f7dc5139cddda"), looks := true }, kinds := [], alts := [], laidByText := true, laidKinds := [.data, .data, .data, .data, .sentinel, .sentinel, .pinned], laidTests := true, laidLooks := .later }
def FnExactReadGoalCardSaid : Prop := Claim7.holds Tryd.pinned (.plain (OpenSpec.ofChange fnExactReadGoalSpec)) fnExactReadGoalCard

/-- THE TIED CARD OF 'laws.FnAlloys'. -/
def fnAlloysCard : Claim7 := { stood := { row := fnAlloysRow, standIns := [], harness := (true, "377a4ab92494c411f3ce3b4569f753c12c3583ca8d11e4c0ba2f7dc5139cddda"), looks := true }, kinds := [], alts := [], laidByText := true, laidKinds := [.data, .data, .data, .data, .sentinel, .sentinel, .pinned], laidTests := true, laidLooks := .later }
def FnAlloysCardSaid : Prop := Claim7.holds Tryd.pinned (.plain (OpenSpec.ofChange fnAlloysSpec)) fnAlloysCard

/-- THE SECOND FORM's CARD OF 'laws.FnExactReadIngot'. -/
def fnExactReadIngotUptoCard : Claim7 := { stood := { row := fnExactReadIngotUptoRow, standIns := [], harness := (true, "377a4ab92494c411f3ce3b4569f753c12c3583ca8d11e4c0ba2f7dc5139cddda"), looks := true }, kinds := [], alts := [], laidByText := true, laidKinds := [.data, .data, .data, .data, .sentinel, .sentinel, .pinned], laidTests := true, laidLooks := .later }
def FnExactReadIngotUptoCardSaid : Prop := Claim7.holds Tryd.pinned (.plain (OpenSpec.upto fnExactReadIngotSpec)) fnExactReadIngotUptoCard

/-- THE SECOND FORM's CARD OF 'laws.FnExactReadMeasure'. -/
def fnExactReadMeasureUptoCard : Claim7 := { stood := { row := fnExactReadMeasureUptoRow, standIns := [], harness := (true, "377a4ab92494c411f3ce3b4569f753c12c3583ca8d11e4c0ba2f7dc5139cddda"), looks := true }, kinds := [], alts := [], laidByText := true, laidKinds := [.data, .data, .data, .data, .sentinel, .sentinel, .pinned], laidTests := true, laidLooks := .later }
def FnExactReadMeasureUptoCardSaid : Prop := Claim7.holds Tryd.pinned (.plain (OpenSpec.upto fnExactReadMeasureSpec)) fnExactReadMeasureUptoCard

/-- THE SECOND FORM's CARD OF 'laws.FnExactReadMelt'. -/
def fnExactReadMeltUptoCard : Claim7 := { stood := { row := fnExactReadMeltUptoRow, standIns := [], harness := (true, "377a4ab92494c411f3ce3b4569f753c12c3583ca8d11e4c0ba2f7dc5139cddda"), looks := true }, kinds := [], alts := [], laidByText := true, laidKinds := [.data, .data, .data, .data, .sentinel, .sentinel, .pinned], laidTests := true, laidLooks := .later }
def FnExactReadMeltUptoCardSaid : Prop := Claim7.holds Tryd.pinned (.plain (OpenSpec.upto fnExactReadMeltSpec)) fnExactReadMeltUptoCard

/-- THE SECOND FORM's CARD OF 'laws.FnExactReadGoal'. -/
def fnExactReadGoalUptoCard : Claim7 := { stood := { row := fnExactReadGoalUptoRow, standIns := [], harness := (true, "377a4ab92494c411f3ce3b4569f753c12c3583ca8d11e4c0ba2f7dc5139cddda"), looks := true }, kinds := [], alts := [], laidByText := true, laidKinds := [.data, .data, .data, .data, .sentinel, .sentinel, .pinned], laidTests := true, laidLooks := .later }
def FnExactReadGoalUptoCardSaid : Prop := Claim7.holds Tryd.pinned (.plain (OpenSpec.upto fnExactReadGoalSpec)) fnExactReadGoalUptoCard

/-- THE SECOND FORM's CARD OF 'laws.FnAlloys'. -/
def fnAlloysUptoCard : Claim7 := { stood := { row := fnAlloysUptoRow, standIns := [], harness := (true, "377a4ab92494c411f3ce3b4569f753c12c3583ca8d11e4c0ba2f7dc5139cddda"), looks := true }, kinds := [], alts := [], laidByText := true, laidKinds := [.data, .data, .data, .data, .sentinel, .sentinel, .pinned], laidTests := true, laidLooks := .later }
def FnAlloysUptoCardSaid : Prop := Claim7.holds Tryd.pinned (.plain (OpenSpec.upto fnAlloysSpec)) fnAlloysUptoCard
end Rows
end Go.Proofs.YtklgkbiobggbiaaDoor
