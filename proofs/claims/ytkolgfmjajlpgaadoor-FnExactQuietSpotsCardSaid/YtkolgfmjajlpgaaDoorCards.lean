/-
  DERIVED. GIVEN WITH THE SEED: THE CARDS: each row of YtkolgfmjajlpgaaDoorRows.lean that lists a variable, with what it lists TIED to the program's text (the seventh form; the later family's looks); each row that meets fmt, with fmt's text TOLD by the authors' own Lean function (tested against real Go, not proved from fmt's source: count such statements apart). THE CARD IS WHAT COUNTS. Prove the row's statement (the work); the ties are given (YtkolgfmjajlpgaaDoorTie.lean); close each card by the builder's one call (the guide's Derived/Test/ToyasCard.lean, 'card_holds'). Laid BY PROGRAM, IN A SANDBOX (cutbox-door.mjs). By AI agents, Wed Nov 11 2026. No macro, syntax, notation, axiom, sorry.
-/
import Derived.Test.YtkolgfmjajlpgaaDoorRows
import GoSem.ClaimSeven
namespace Go.Proofs.YtkolgfmjajlpgaaDoor
namespace Rows

/-- THE TIED CARD OF 'laws.FnExactBestSpot'. -/
def fnExactBestSpotCard : Claim7 := { stood := { row := fnExactBestSpotRow, standIns := [], harness := (true, "88eec1237033e4dbe872b787735ce089c820defeffbbdf0bc2353ff7ddca939f"), looks := false }, kinds := [], alts := [], laidByText := true, laidKinds := [.data], laidTests := true, laidLooks := .later }
def FnExactBestSpotCardSaid : Prop := Claim7.holds Tryd.pinned (.plain (OpenSpec.ofChange fnExactBestSpotSpec)) fnExactBestSpotCard

/-- THE TIED CARD OF 'laws.FnExactQuietSpots'. -/
def fnExactQuietSpotsCard : Claim7 := { stood := { row := fnExactQuietSpotsRow, standIns := [], harness := (true, "88eec1237033e4dbe872b787735ce089c820defeffbbdf0bc2353ff7ddca939f"), looks := false }, kinds := [], alts := [], laidByText := true, laidKinds := [.data], laidTests := true, laidLooks := .later }
def FnExactQuietSpotsCardSaid : Prop := Claim7.holds Tryd.pinned (.plain (OpenSpec.ofChange fnExactQuietSpotsSpec)) fnExactQuietSpotsCard

/-- THE SECOND FORM's CARD OF 'laws.FnExactBestSpot'. -/
def fnExactBestSpotUptoCard : Claim7 := { stood := { row := fnExactBestSpotUptoRow, standIns := [], harness := (true, "88eec1237033e4dbe872b787735ce089c820defeffbbdf0bc2353ff7ddca939f"), looks := false }, kinds := [], alts := [], laidByText := true, laidKinds := [.data], laidTests := true, laidLooks := .later }
def FnExactBestSpotUptoCardSaid : Prop := Claim7.holds Tryd.pinned (.plain (OpenSpec.upto fnExactBestSpotSpec)) fnExactBestSpotUptoCard

/-- THE SECOND FORM's CARD OF 'laws.FnExactQuietSpots'. -/
def fnExactQuietSpotsUptoCard : Claim7 := { stood := { row := fnExactQuietSpotsUptoRow, standIns := [], harness := (true, "88eec1237033e4dbe872b787735ce089c820defeffbbdf0bc2353ff7ddca939f"), looks := false }, kinds := [], alts := [], laidByText := true, laidKinds := [.data], laidTests := true, laidLooks := .later }
def FnExactQuietSpotsUptoCardSaid : Prop := Claim7.holds Tryd.pinned (.plain (OpenSpec.upto fnExactQuietSpotsSpec)) fnExactQuietSpotsUptoCard
end Rows
end Go.Proofs.YtkolgfmjajlpgaaDoor
