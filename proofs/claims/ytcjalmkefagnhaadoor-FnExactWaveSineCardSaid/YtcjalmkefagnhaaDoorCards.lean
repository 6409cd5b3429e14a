/-
  DERIVED. GIVEN WITH THE SEED: THE CARDS: each row of YtcjalmkefagnhaaDoorRows.lean that lists a variable, with what it lists TIED to the program's text (the seventh form; the later family's looks); each row that meets fmt, with fmt's text TOLD by the authors' own Lean function (tested against real Go, not proved from fmt's source: count such statements apart). THE CARD IS WHAT COUNTS. Prove the row's statement (the work); the ties are given (YtcjalmkefagnhaaDoorTie.lean); close each card by the builder's one call (the guide's Derived/Test/ToyasCard.lean, 'card_holds'). Laid BY PROGRAM, IN A SANDBOX (cutbox-door.mjs). By AI agents, Wed Nov 11 2026. No macro, syntax, notation, axiom, sorry.
-/
import Derived.Test.YtcjalmkefagnhaaDoorRows
import GoSem.ClaimSeven
namespace Go.Proofs.YtcjalmkefagnhaaDoor
namespace Rows

/-- THE TIED CARD OF 'laws.FnExactWaveSine'. -/
def fnExactWaveSineCard : Claim7 := { stood := { row := fnExactWaveSineRow, standIns := [], harness := (true, "1dea617c2d80fbb9f587562c4f945352ef61831df9d749469294d1b55a920fa9"), looks := false }, kinds := [], alts := [], laidByText := true, laidKinds := [.data], laidTests := true, laidLooks := .later }
def FnExactWaveSineCardSaid : Prop := Claim7.holds Tryd.pinned (.plain (OpenSpec.ofChange fnExactWaveSineSpec)) fnExactWaveSineCard

/-- THE TIED CARD OF 'laws.FnExactWaveCosine'. -/
def fnExactWaveCosineCard : Claim7 := { stood := { row := fnExactWaveCosineRow, standIns := [], harness := (true, "1dea617c2d80fbb9f587562c4f945352ef61831df9d749469294d1b55a920fa9"), looks := false }, kinds := [], alts := [], laidByText := true, laidKinds := [.data], laidTests := true, laidLooks := .later }
def FnExactWaveCosineCardSaid : Prop := Claim7.holds Tryd.pinned (.plain (OpenSpec.ofChange fnExactWaveCosineSpec)) fnExactWaveCosineCard

/-- THE SECOND FORM's CARD OF 'laws.FnExactWaveSine'. -/
def fnExactWaveSineUptoCard : Claim7 := { stood := { row := fnExactWaveSineUptoRow, standIns := [], harness := (true, "1dea617c2d80fbb9f587562c4f945352ef61831df9d749469294d1b55a920fa9"), looks := false }, kinds := [], alts := [], laidByText := true, laidKinds := [.data], laidTests := true, laidLooks := .later }
def FnExactWaveSineUptoCardSaid : Prop := Claim7.holds Tryd.pinned (.plain (OpenSpec.upto fnExactWaveSineSpec)) fnExactWaveSineUptoCard

/-- THE SECOND FORM's CARD OF 'laws.FnExactWaveCosine'. -/
def fnExactWaveCosineUptoCard : Claim7 := { stood := { row := fnExactWaveCosineUptoRow, standIns := [], harness := (true, "1dea617c2d80fbb9f587562c4f945352ef61831df9d749469294d1b55a920fa9"), looks := false }, kinds := [], alts := [], laidByText := true, laidKinds := [.data], laidTests := true, laidLooks := .later }
def FnExactWaveCosineUptoCardSaid : Prop := Claim7.holds Tryd.pinned (.plain (OpenSpec.upto fnExactWaveCosineSpec)) fnExactWaveCosineUptoCard
end Rows
end Go.Proofs.YtcjalmkefagnhaaDoor
