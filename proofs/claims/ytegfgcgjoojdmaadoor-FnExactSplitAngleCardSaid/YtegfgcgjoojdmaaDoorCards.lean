/-
  DERIVED. GIVEN WITH THE SEED: THE CARDS: each row of YtegfgcgjoojdmaaDoorRows.lean that lists a variable, with what it lists TIED to the program's text (the seventh form; the later family's looks); each row that meets fmt, with fmt's text TOLD by the authors' own Lean function (tested against real Go, not proved from fmt's source: count such statements apart). THE CARD IS WHAT COUNTS. Prove the row's statement (the work); the ties are given (YtegfgcgjoojdmaaDoorTie.lean); close each card by the builder's one call (the guide's Derived/Test/ToyasCard.lean, 'card_holds'). Laid BY PROGRAM, IN A SANDBOX (cutbox-door.mjs). By AI agents, Wed Nov 11 2026. No macro, syntax, notation, axiom, sorry.
-/
import Derived.Test.YtegfgcgjoojdmaaDoorRows
import GoSem.ClaimSeven
namespace Go.Proofs.YtegfgcgjoojdmaaDoor
namespace Rows

/-- THE TIED CARD OF 'laws.FnExactSplitAngle'. -/
def fnExactSplitAngleCard : Claim7 := { stood := { row := fnExactSplitAngleRow, standIns := [], harness := (true, "45c46c59ebe8ca4f451ef9dd2c80ed3b1e2c8d5a9b13fb7317e940747079c014"), looks := false }, kinds := [], alts := [], laidByText := true, laidKinds := [.data], laidTests := true, laidLooks := .later }
def FnExactSplitAngleCardSaid : Prop := Claim7.holds Tryd.pinned (.plain (OpenSpec.ofChange fnExactSplitAngleSpec)) fnExactSplitAngleCard

/-- THE TIED CARD OF 'laws.FnExactSplitOf'. -/
def fnExactSplitOfCard : Claim7 := { stood := { row := fnExactSplitOfRow, standIns := [], harness := (true, "45c46c59ebe8ca4f451ef9dd2c80ed3b1e2c8d5a9b13fb7317e940747079c014"), looks := false }, kinds := [], alts := [], laidByText := true, laidKinds := [.data], laidTests := true, laidLooks := .later }
def FnExactSplitOfCardSaid : Prop := Claim7.holds Tryd.pinned (.plain (OpenSpec.ofChange fnExactSplitOfSpec)) fnExactSplitOfCard

/-- THE SECOND FORM's CARD OF 'laws.FnExactSplitAngle'. -/
def fnExactSplitAngleUptoCard : Claim7 := { stood := { row := fnExactSplitAngleUptoRow, standIns := [], harness := (true, "45c46c59ebe8ca4f451ef9dd2c80ed3b1e2c8d5a9b13fb7317e940747079c014"), looks := false }, kinds := [], alts := [], laidByText := true, laidKinds := [.data], laidTests := true, laidLooks := .later }
def FnExactSplitAngleUptoCardSaid : Prop := Claim7.holds Tryd.pinned (.plain (OpenSpec.upto fnExactSplitAngleSpec)) fnExactSplitAngleUptoCard

/-- THE SECOND FORM's CARD OF 'laws.FnExactSplitOf'. -/
def fnExactSplitOfUptoCard : Claim7 := { stood := { row := fnExactSplitOfUptoRow, standIns := [], harness := (true, "45c46c59ebe8ca4f451ef9dd2c80ed3b1e2c8d5a9b13fb7317e940747079c014"), looks := false }, kinds := [], alts := [], laidByText := true, laidKinds := [.data], laidTests := true, laidLooks := .later }
def FnExactSplitOfUptoCardSaid : Prop := Claim7.holds Tryd.pinned (.plain (OpenSpec.upto fnExactSplitOfSpec)) fnExactSplitOfUptoCard
end Rows
end Go.Proofs.YtegfgcgjoojdmaaDoor
