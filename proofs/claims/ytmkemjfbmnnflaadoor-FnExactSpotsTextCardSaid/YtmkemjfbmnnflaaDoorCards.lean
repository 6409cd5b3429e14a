/-
  DERIVED. GIVEN WITH THE SEED: THE CARDS: each row of YtmkemjfbmnnflaaDoorRows.lean that lists a variable, with what it lists TIED to the program's text (the seventh form; the later family's looks); each row that meets fmt, with fmt's text TOLD by the authors' own Lean function (tested against real Go, not proved from fmt's source: count such statements apart). THE CARD IS WHAT COUNTS. Prove the row's statement (the work); the ties are given (YtmkemjfbmnnflaaDoorTie.lean); close each card by the builder's one call (the guide's Derived/Test/ToyasCard.lean, 'card_holds'). Laid BY PROGRAM, IN A SANDBOX (cutbox-door.mjs). By AI agents, Wed Nov 11 2026. No macro, syntax, notation, axiom, sorry.
-/
import Derived.Test.YtmkemjfbmnnflaaDoorRows
import GoSem.ClaimSeven
namespace Go.Proofs.YtmkemjfbmnnflaaDoor
namespace Rows

/-- THE TIED CARD OF 'laws.FnExactSpotsText'. -/
def fnExactSpotsTextCard : Claim7 := { stood := { row := fnExactSpotsTextRow, standIns := [], harness := (true, "d872b99a7dd125130fbf694ac553eaf4a1a73ec0364a7d2b5cda36d700b479b4"), looks := false }, kinds := [], alts := [], laidByText := true, laidKinds := [.data, .data, .data], laidTests := true, laidLooks := .later }
def FnExactSpotsTextCardSaid : Prop := Claim7.holds Tryd.pinned (.plain (OpenSpec.ofChange fnExactSpotsTextSpec)) fnExactSpotsTextCard

/-- THE TIED CARD OF 'laws.FnExactIngotText'. -/
def fnExactIngotTextCard : Claim7 := { stood := { row := fnExactIngotTextRow, standIns := [], harness := (true, "d872b99a7dd125130fbf694ac553eaf4a1a73ec0364a7d2b5cda36d700b479b4"), looks := false }, kinds := [], alts := [], laidByText := true, laidKinds := [.data, .data, .data], laidTests := true, laidLooks := .later }
def FnExactIngotTextCardSaid : Prop := Claim7.holds Tryd.pinned (.plain (OpenSpec.ofChange fnExactIngotTextSpec)) fnExactIngotTextCard

/-- THE TIED CARD OF 'laws.FnExactMeltText'. -/
def fnExactMeltTextCard : Claim7 := { stood := { row := fnExactMeltTextRow, standIns := [], harness := (true, "d872b99a7dd125130fbf694ac553eaf4a1a73ec0364a7d2b5cda36d700b479b4"), looks := false }, kinds := [], alts := [], laidByText := true, laidKinds := [.data, .data, .data], laidTests := true, laidLooks := .later }
def FnExactMeltTextCardSaid : Prop := Claim7.holds Tryd.pinned (.plain (OpenSpec.ofChange fnExactMeltTextSpec)) fnExactMeltTextCard

/-- THE TIED CARD OF 'laws.FnExactMeasureText'. -/
def fnExactMeasureTextCard : Claim7 := { stood := { row := fnExactMeasureTextRow, standIns := [], harness := (true, "d872b99a7dd125130fbf694ac553eaf4a1a73ec0364a7d2b5cda36d700b479b4"), looks := false }, kinds := [], alts := [], laidByText := true, laidKinds := [.data, .data, .data], laidTests := true, laidLooks := .later }
def FnExactMeasureTextCardSaid : Prop := Claim7.holds Tryd.pinned (.plain (OpenSpec.ofChange fnExactMeasureTextSpec)) fnExactMeasureTextCard

/-- THE SECOND FORM's CARD OF 'laws.FnExactSpotsText'. -/
def fnExactSpotsTextUptoCard : Claim7 := { stood := { row := fnExactSpotsTextUptoRow, standIns := [], harness := (true, "d872b99a7dd125130fbf694ac553eaf4a1a73ec0364a7d2b5cda36d700b479b4"), looks := false }, kinds := [], alts := [], laidByText := true, laidKinds := [.data, .data, .data], laidTests := true, laidLooks := .later }
def FnExactSpotsTextUptoCardSaid : Prop := Claim7.holds Tryd.pinned (.plain (OpenSpec.upto fnExactSpotsTextSpec)) fnExactSpotsTextUptoCard

/-- THE SECOND FORM's CARD OF 'laws.FnExactIngotText'. -/
def fnExactIngotTextUptoCard : Claim7 := { stood := { row := fnExactIngotTextUptoRow, standIns := [], harness := (true, "d872b99a7dd125130fbf694ac553eaf4a1a73ec0364a7d2b5cda36d700b479b4"), looks := false }, kinds := [], alts := [], laidByText := true, laidKinds := [.data, .data, .data], laidTests := true, laidLooks := .later }
def FnExactIngotTextUptoCardSaid : Prop := Claim7.holds Tryd.pinned (.plain (OpenSpec.upto fnExactIngotTextSpec)) fnExactIngotTextUptoCard

/-- THE SECOND FORM's CARD OF 'laws.FnExactMeltText'. -/
def fnExactMeltTextUptoCard : Claim7 := { stood := { row := fnExactMeltTextUptoRow, standIns := [], harness := (true, "d872b99a7dd125130fbf694ac553eaf4a1a73ec0364a7d2b5cda36d700b479b4"), looks := false }, kinds := [], alts := [], laidByText := true, laidKinds := [.data, .data, .data], laidTests := true, laidLooks := .later }
def FnExactMeltTextUptoCardSaid : Prop := Claim7.holds Tryd.pinned (.plain (OpenSpec.upto fnExactMeltTextSpec)) fnExactMeltTextUptoCard

/-- THE SECOND FORM's CARD OF 'laws.FnExactMeasureText'. -/
def fnExactMeasureTextUptoCard : Claim7 := { stood := { row := fnExactMeasureTextUptoRow, standIns := [], harness := (true, "d872b99a7dd125130fbf694ac553eaf4a1a73ec0364a7d2b5cda36d700b479b4"), looks := false }, kinds := [], alts := [], laidByText := true, laidKinds := [.data, .data, .data], laidTests := true, laidLooks := .later }
def FnExactMeasureTextUptoCardSaid : Prop := Claim7.holds Tryd.pinned (.plain (OpenSpec.upto fnExactMeasureTextSpec)) fnExactMeasureTextUptoCard
end Rows
end Go.Proofs.YtmkemjfbmnnflaaDoor
