/-
  No cell of these rows narrows 'for every input' (looked for: loops, veiled, ifaces, maps, wideKeys, modest, calm, conditions, laid).
  DERIVED. THE GIVEN ROWS OF THIS SEAT. 10 by the template 'for every input the law returns true; each argument reads behind the call as it read before'; 0 by the template 'total and deterministic' (their statements: YtegfgcgjoojdmaaTotals.lean).
  GIVEN WITH THE SEED: the statements are not yours to turn. If you find one false, say at which input.
  Laid BY PROGRAM, IN A SANDBOX (cutbox-rows.mjs): the forced cells as the released guide's own fill.sh prints them over the translation 436760aa4889fa38… (all of the seat's roots in one cut). By AI agents, Wed Nov 11 2026. No macro, syntax, notation, axiom, sorry.
-/
import Derived.Test.YtegfgcgjoojdmaaChecked
import GoSem.Claim
import GoSem.ClaimJoined
import GoSem.ClaimMapViews
import Derived.JoinedTies
import Derived.KernelRfl
namespace Go.Proofs.Ytegfgcgjoojdmaa
/- THE CELL 'sum', in the pinned program and in every row, IS THE sha256 OF THE DUMP (.gsa) THAT YtegfgcgjoojdmaaProg.lean LOADS. Nothing in Lean hashes anything: it is a label: what it is worth is what the hold of that sum in a sandbox is worth. -/
noncomputable def Try.pinned : Pinned := { name := "ytegfgcgjoojdmaa", sum := "436760aa4889fa3859868c4d972d0ddb14dd9256ca2accd5b505ac2f8c2acf1b", checked := Try.checked }
namespace Rows
def none {H : Type} : Left H := { results := [], args := [] }

/-- 'laws.FnExactSameMelts': WHATEVER THE INPUT: true; the input reads as it did. -/
def fnExactSameMeltsSpec : ChangeSpec := { name := "fnExactSameMelts", fn := fun _ => fun
  | [d1, d2] => { results := [.lit (.bool true)], args := [d1, d2] }
  | _ => none }
def fnExactSameMeltsRow : OpenClaim := { program := "ytegfgcgjoojdmaa", sum := "436760aa4889fa3859868c4d972d0ddb14dd9256ca2accd5b505ac2f8c2acf1b", func := "loop.example/g00952/laws.FnExactSameMelts", spec := "fnExactSameMelts", unfollowed := true, recurses := true, apart := false }
def FnExactSameMeltsSaid : Prop := fnExactSameMeltsRow.holds Try.pinned (OpenSpec.ofChange fnExactSameMeltsSpec)

/-- ITS FALSE NEIGHBOUR: 'it returns false'. Refute it at one input. -/
def fnExactSameMeltsWrong : ChangeSpec := { name := "fnExactSameMelts", fn := fun _ => fun
  | [d1, d2] => { results := [.lit (.bool false)], args := [d1, d2] }
  | _ => none }
def FnExactSameMeltsWrongFalsely : Prop := fnExactSameMeltsRow.holds Try.pinned (OpenSpec.ofChange fnExactSameMeltsWrong)

/-- 'laws.FnPlacing': WHATEVER THE INPUT: true; the input reads as it did. -/
def fnPlacingSpec : ChangeSpec := { name := "fnPlacing", fn := fun _ => fun
  | [d1, d2] => { results := [.lit (.bool true)], args := [d1, d2] }
  | _ => none }
def fnPlacingRow : OpenClaim := { program := "ytegfgcgjoojdmaa", sum := "436760aa4889fa3859868c4d972d0ddb14dd9256ca2accd5b505ac2f8c2acf1b", func := "loop.example/g00952/laws.FnPlacing", spec := "fnPlacing", unfollowed := true, recurses := true, apart := false }
def FnPlacingSaid : Prop := fnPlacingRow.holds Try.pinned (OpenSpec.ofChange fnPlacingSpec)

/-- ITS FALSE NEIGHBOUR: 'it returns false'. Refute it at one input. -/
def fnPlacingWrong : ChangeSpec := { name := "fnPlacing", fn := fun _ => fun
  | [d1, d2] => { results := [.lit (.bool false)], args := [d1, d2] }
  | _ => none }
def FnPlacingWrongFalsely : Prop := fnPlacingRow.holds Try.pinned (OpenSpec.ofChange fnPlacingWrong)

/-- 'laws.FnExactValidMelts': WHATEVER THE INPUT: true; the input reads as it did. -/
def fnExactValidMeltsSpec : ChangeSpec := { name := "fnExactValidMelts", fn := fun _ => fun
  | [d] => { results := [.lit (.bool true)], args := [d] }
  | _ => none }
def fnExactValidMeltsRow : OpenClaim := { program := "ytegfgcgjoojdmaa", sum := "436760aa4889fa3859868c4d972d0ddb14dd9256ca2accd5b505ac2f8c2acf1b", func := "loop.example/g00952/laws.FnExactValidMelts", spec := "fnExactValidMelts", unfollowed := true, recurses := true, apart := false }
def FnExactValidMeltsSaid : Prop := fnExactValidMeltsRow.holds Try.pinned (OpenSpec.ofChange fnExactValidMeltsSpec)

/-- ITS FALSE NEIGHBOUR: 'it returns false'. Refute it at one input. -/
def fnExactValidMeltsWrong : ChangeSpec := { name := "fnExactValidMelts", fn := fun _ => fun
  | [d] => { results := [.lit (.bool false)], args := [d] }
  | _ => none }
def FnExactValidMeltsWrongFalsely : Prop := fnExactValidMeltsRow.holds Try.pinned (OpenSpec.ofChange fnExactValidMeltsWrong)

/-- 'laws.FnExactFitsHole': WHATEVER THE INPUT: true; the input reads as it did. -/
def fnExactFitsHoleSpec : ChangeSpec := { name := "fnExactFitsHole", fn := fun _ => fun
  | [d1, d2, d3] => { results := [.lit (.bool true)], args := [d1, d2, d3] }
  | _ => none }
def fnExactFitsHoleRow : OpenClaim := { program := "ytegfgcgjoojdmaa", sum := "436760aa4889fa3859868c4d972d0ddb14dd9256ca2accd5b505ac2f8c2acf1b", func := "loop.example/g00952/laws.FnExactFitsHole", spec := "fnExactFitsHole", unfollowed := true, recurses := true, apart := false }
def FnExactFitsHoleSaid : Prop := fnExactFitsHoleRow.holds Try.pinned (OpenSpec.ofChange fnExactFitsHoleSpec)

/-- ITS FALSE NEIGHBOUR: 'it returns false'. Refute it at one input. -/
def fnExactFitsHoleWrong : ChangeSpec := { name := "fnExactFitsHole", fn := fun _ => fun
  | [d1, d2, d3] => { results := [.lit (.bool false)], args := [d1, d2, d3] }
  | _ => none }
def FnExactFitsHoleWrongFalsely : Prop := fnExactFitsHoleRow.holds Try.pinned (OpenSpec.ofChange fnExactFitsHoleWrong)

/-- 'laws.FnExactFitsDemand': WHATEVER THE INPUT: true; the input reads as it did. -/
def fnExactFitsDemandSpec : ChangeSpec := { name := "fnExactFitsDemand", fn := fun _ => fun
  | [d1, d2, d3] => { results := [.lit (.bool true)], args := [d1, d2, d3] }
  | _ => none }
def fnExactFitsDemandRow : OpenClaim := { program := "ytegfgcgjoojdmaa", sum := "436760aa4889fa3859868c4d972d0ddb14dd9256ca2accd5b505ac2f8c2acf1b", func := "loop.example/g00952/laws.FnExactFitsDemand", spec := "fnExactFitsDemand", apart := false }
def FnExactFitsDemandSaid : Prop := fnExactFitsDemandRow.holds Try.pinned (OpenSpec.ofChange fnExactFitsDemandSpec)

/-- ITS FALSE NEIGHBOUR: 'it returns false'. Refute it at one input. -/
def fnExactFitsDemandWrong : ChangeSpec := { name := "fnExactFitsDemand", fn := fun _ => fun
  | [d1, d2, d3] => { results := [.lit (.bool false)], args := [d1, d2, d3] }
  | _ => none }
def FnExactFitsDemandWrongFalsely : Prop := fnExactFitsDemandRow.holds Try.pinned (OpenSpec.ofChange fnExactFitsDemandWrong)

/-- 'laws.FnExactMixOf': WHATEVER THE INPUT: true; the input reads as it did. -/
def fnExactMixOfSpec : ChangeSpec := { name := "fnExactMixOf", fn := fun _ => fun
  | [d1, d2] => { results := [.lit (.bool true)], args := [d1, d2] }
  | _ => none }
def fnExactMixOfRow : OpenClaim := { program := "ytegfgcgjoojdmaa", sum := "436760aa4889fa3859868c4d972d0ddb14dd9256ca2accd5b505ac2f8c2acf1b", func := "loop.example/g00952/laws.FnExactMixOf", spec := "fnExactMixOf", apart := false }
def FnExactMixOfSaid : Prop := fnExactMixOfRow.holds Try.pinned (OpenSpec.ofChange fnExactMixOfSpec)

/-- ITS FALSE NEIGHBOUR: 'it returns false'. Refute it at one input. -/
def fnExactMixOfWrong : ChangeSpec := { name := "fnExactMixOf", fn := fun _ => fun
  | [d1, d2] => { results := [.lit (.bool false)], args := [d1, d2] }
  | _ => none }
def FnExactMixOfWrongFalsely : Prop := fnExactMixOfRow.holds Try.pinned (OpenSpec.ofChange fnExactMixOfWrong)

/-- 'laws.FnMoulds': WHATEVER THE INPUT: true; the input reads as it did. -/
def fnMouldsSpec : ChangeSpec := { name := "fnMoulds", fn := fun _ => fun
  | [d1, d2] => { results := [.lit (.bool true)], args := [d1, d2] }
  | _ => none }
def fnMouldsRow : OpenClaim := { program := "ytegfgcgjoojdmaa", sum := "436760aa4889fa3859868c4d972d0ddb14dd9256ca2accd5b505ac2f8c2acf1b", func := "loop.example/g00952/laws.FnMoulds", spec := "fnMoulds", unfollowed := true, recurses := true, apart := false }
def FnMouldsSaid : Prop := fnMouldsRow.holds Try.pinned (OpenSpec.ofChange fnMouldsSpec)

/-- ITS FALSE NEIGHBOUR: 'it returns false'. Refute it at one input. -/
def fnMouldsWrong : ChangeSpec := { name := "fnMoulds", fn := fun _ => fun
  | [d1, d2] => { results := [.lit (.bool false)], args := [d1, d2] }
  | _ => none }
def FnMouldsWrongFalsely : Prop := fnMouldsRow.holds Try.pinned (OpenSpec.ofChange fnMouldsWrong)

/-- 'laws.FnExactAddSpot': WHATEVER THE INPUT: true; the input reads as it did. -/
def fnExactAddSpotSpec : ChangeSpec := { name := "fnExactAddSpot", fn := fun _ => fun
  | [d1, d2] => { results := [.lit (.bool true)], args := [d1, d2] }
  | _ => none }
def fnExactAddSpotRow : OpenClaim := { program := "ytegfgcgjoojdmaa", sum := "436760aa4889fa3859868c4d972d0ddb14dd9256ca2accd5b505ac2f8c2acf1b", func := "loop.example/g00952/laws.FnExactAddSpot", spec := "fnExactAddSpot", inPlace := ["slices.overlaps[loop.example/g00952/impl.Spot]"], unfollowed := true, recurses := true, apart := false }
def FnExactAddSpotSaid : Prop := fnExactAddSpotRow.holds Try.pinned (OpenSpec.ofChange fnExactAddSpotSpec)

/-- ITS FALSE NEIGHBOUR: 'it returns false'. Refute it at one input. -/
def fnExactAddSpotWrong : ChangeSpec := { name := "fnExactAddSpot", fn := fun _ => fun
  | [d1, d2] => { results := [.lit (.bool false)], args := [d1, d2] }
  | _ => none }
def FnExactAddSpotWrongFalsely : Prop := fnExactAddSpotRow.holds Try.pinned (OpenSpec.ofChange fnExactAddSpotWrong)

/-- 'laws.FnExactDropMelt': WHATEVER THE INPUT: true; the input reads as it did. -/
def fnExactDropMeltSpec : ChangeSpec := { name := "fnExactDropMelt", fn := fun _ => fun
  | [d1, d2] => { results := [.lit (.bool true)], args := [d1, d2] }
  | _ => none }
def fnExactDropMeltRow : OpenClaim := { program := "ytegfgcgjoojdmaa", sum := "436760aa4889fa3859868c4d972d0ddb14dd9256ca2accd5b505ac2f8c2acf1b", func := "loop.example/g00952/laws.FnExactDropMelt", spec := "fnExactDropMelt", unfollowed := true, recurses := true, apart := false }
def FnExactDropMeltSaid : Prop := fnExactDropMeltRow.holds Try.pinned (OpenSpec.ofChange fnExactDropMeltSpec)

/-- ITS FALSE NEIGHBOUR: 'it returns false'. Refute it at one input. -/
def fnExactDropMeltWrong : ChangeSpec := { name := "fnExactDropMelt", fn := fun _ => fun
  | [d1, d2] => { results := [.lit (.bool false)], args := [d1, d2] }
  | _ => none }
def FnExactDropMeltWrongFalsely : Prop := fnExactDropMeltRow.holds Try.pinned (OpenSpec.ofChange fnExactDropMeltWrong)

/-- 'laws.FnExactMetalOf': WHATEVER THE INPUT: true; the input reads as it did. -/
def fnExactMetalOfSpec : ChangeSpec := { name := "fnExactMetalOf", fn := fun _ => fun
  | [d1, d2] => { results := [.lit (.bool true)], args := [d1, d2] }
  | _ => none }
def fnExactMetalOfRow : OpenClaim := { program := "ytegfgcgjoojdmaa", sum := "436760aa4889fa3859868c4d972d0ddb14dd9256ca2accd5b505ac2f8c2acf1b", func := "loop.example/g00952/laws.FnExactMetalOf", spec := "fnExactMetalOf", unfollowed := true, recurses := true, apart := false }
def FnExactMetalOfSaid : Prop := fnExactMetalOfRow.holds Try.pinned (OpenSpec.ofChange fnExactMetalOfSpec)

/-- ITS FALSE NEIGHBOUR: 'it returns false'. Refute it at one input. -/
def fnExactMetalOfWrong : ChangeSpec := { name := "fnExactMetalOf", fn := fun _ => fun
  | [d1, d2] => { results := [.lit (.bool false)], args := [d1, d2] }
  | _ => none }
def FnExactMetalOfWrongFalsely : Prop := fnExactMetalOfRow.holds Try.pinned (OpenSpec.ofChange fnExactMetalOfWrong)

/- THE SECOND FORM. 'bulk': how many values and letters a reading holds, each counted each time it is reached (what is shared counts as often as it is met; a slice's spare places count too). A statement '..UptoSaid' is the law's where the arguments, and the package variables that the reading takes, are together of bulk at most 1048576: NARROWER than '..Said'. Prove '..Said' where nothing that the law and all that it calls make is longer than what came in: it says more and counts as full. Else prove '..UptoSaid'. A law counts once. -/
mutual
def uptoBulk {H : Type} : DataW H → Nat
  | .lit (.string bytes) => bytes.length + 1
  | .lit _ => 1
  | .nil => 1
  | .ptr d => uptoBulk d + 1
  | .slice elems spare => uptoBulkAll elems + uptoBulkAll spare + 1
  | .agg parts => uptoBulkAll parts + 1
  | .iface _ d => uptoBulk d + 1
  | .map entries => uptoBulkEntries entries + 1
  | .held _ => 1
def uptoBulkAll {H : Type} : List (DataW H) → Nat
  | [] => 0
  | d :: r => uptoBulk d + uptoBulkAll r
def uptoBulkEntries {H : Type} : List (Lit × DataW H) → Nat
  | [] => 0
  | x :: r => uptoBulkEntry x + uptoBulkEntries r
def uptoBulkEntry {H : Type} : Lit × DataW H → Nat
  | (.string bytes, d) => bytes.length + uptoBulk d + 1
  | (_, d) => uptoBulk d + 1
 end
def uptoSmall : (H : Type) → List (DataW H) → Bool := fun _ ds => decide (uptoBulkAll ds ≤ 1048576)
def OpenSpec.upto (s : _root_.Go.ChangeSpec) : _root_.Go.OpenSpec := { _root_.Go.OpenSpec.ofChange s with cond := some uptoSmall }

/-- 'laws.FnExactSameMelts', WHERE WHAT IT READS IS OF BULK AT MOST 1048576: true; the input reads as it did. -/
def fnExactSameMeltsUptoRow : OpenClaim := { program := "ytegfgcgjoojdmaa", sum := "436760aa4889fa3859868c4d972d0ddb14dd9256ca2accd5b505ac2f8c2acf1b", func := "loop.example/g00952/laws.FnExactSameMelts", spec := "fnExactSameMelts", unfollowed := true, recurses := true, apart := false, narrowed := true }
def FnExactSameMeltsUptoSaid : Prop := fnExactSameMeltsUptoRow.holds Try.pinned (OpenSpec.upto fnExactSameMeltsSpec)

/-- 'laws.FnPlacing', WHERE WHAT IT READS IS OF BULK AT MOST 1048576: true; the input reads as it did. -/
def fnPlacingUptoRow : OpenClaim := { program := "ytegfgcgjoojdmaa", sum := "436760aa4889fa3859868c4d972d0ddb14dd9256ca2accd5b505ac2f8c2acf1b", func := "loop.example/g00952/laws.FnPlacing", spec := "fnPlacing", unfollowed := true, recurses := true, apart := false, narrowed := true }
def FnPlacingUptoSaid : Prop := fnPlacingUptoRow.holds Try.pinned (OpenSpec.upto fnPlacingSpec)

/-- 'laws.FnExactValidMelts', WHERE WHAT IT READS IS OF BULK AT MOST 1048576: true; the input reads as it did. -/
def fnExactValidMeltsUptoRow : OpenClaim := { program := "ytegfgcgjoojdmaa", sum := "436760aa4889fa3859868c4d972d0ddb14dd9256ca2accd5b505ac2f8c2acf1b", func := "loop.example/g00952/laws.FnExactValidMelts", spec := "fnExactValidMelts", unfollowed := true, recurses := true, apart := false, narrowed := true }
def FnExactValidMeltsUptoSaid : Prop := fnExactValidMeltsUptoRow.holds Try.pinned (OpenSpec.upto fnExactValidMeltsSpec)

/-- 'laws.FnExactFitsHole', WHERE WHAT IT READS IS OF BULK AT MOST 1048576: true; the input reads as it did. -/
def fnExactFitsHoleUptoRow : OpenClaim := { program := "ytegfgcgjoojdmaa", sum := "436760aa4889fa3859868c4d972d0ddb14dd9256ca2accd5b505ac2f8c2acf1b", func := "loop.example/g00952/laws.FnExactFitsHole", spec := "fnExactFitsHole", unfollowed := true, recurses := true, apart := false, narrowed := true }
def FnExactFitsHoleUptoSaid : Prop := fnExactFitsHoleUptoRow.holds Try.pinned (OpenSpec.upto fnExactFitsHoleSpec)

/-- 'laws.FnExactFitsDemand', WHERE WHAT IT READS IS OF BULK AT MOST 1048576: true; the input reads as it did. -/
def fnExactFitsDemandUptoRow : OpenClaim := { program := "ytegfgcgjoojdmaa", sum := "436760aa4889fa3859868c4d972d0ddb14dd9256ca2accd5b505ac2f8c2acf1b", func := "loop.example/g00952/laws.FnExactFitsDemand", spec := "fnExactFitsDemand", apart := false, narrowed := true }
def FnExactFitsDemandUptoSaid : Prop := fnExactFitsDemandUptoRow.holds Try.pinned (OpenSpec.upto fnExactFitsDemandSpec)

/-- 'laws.FnExactMixOf', WHERE WHAT IT READS IS OF BULK AT MOST 1048576: true; the input reads as it did. -/
def fnExactMixOfUptoRow : OpenClaim := { program := "ytegfgcgjoojdmaa", sum := "436760aa4889fa3859868c4d972d0ddb14dd9256ca2accd5b505ac2f8c2acf1b", func := "loop.example/g00952/laws.FnExactMixOf", spec := "fnExactMixOf", apart := false, narrowed := true }
def FnExactMixOfUptoSaid : Prop := fnExactMixOfUptoRow.holds Try.pinned (OpenSpec.upto fnExactMixOfSpec)

/-- 'laws.FnMoulds', WHERE WHAT IT READS IS OF BULK AT MOST 1048576: true; the input reads as it did. -/
def fnMouldsUptoRow : OpenClaim := { program := "ytegfgcgjoojdmaa", sum := "436760aa4889fa3859868c4d972d0ddb14dd9256ca2accd5b505ac2f8c2acf1b", func := "loop.example/g00952/laws.FnMoulds", spec := "fnMoulds", unfollowed := true, recurses := true, apart := false, narrowed := true }
def FnMouldsUptoSaid : Prop := fnMouldsUptoRow.holds Try.pinned (OpenSpec.upto fnMouldsSpec)

/-- 'laws.FnExactAddSpot', WHERE WHAT IT READS IS OF BULK AT MOST 1048576: true; the input reads as it did. -/
def fnExactAddSpotUptoRow : OpenClaim := { program := "ytegfgcgjoojdmaa", sum := "436760aa4889fa3859868c4d972d0ddb14dd9256ca2accd5b505ac2f8c2acf1b", func := "loop.example/g00952/laws.FnExactAddSpot", spec := "fnExactAddSpot", inPlace := ["slices.overlaps[loop.example/g00952/impl.Spot]"], unfollowed := true, recurses := true, apart := false, narrowed := true }
def FnExactAddSpotUptoSaid : Prop := fnExactAddSpotUptoRow.holds Try.pinned (OpenSpec.upto fnExactAddSpotSpec)

/-- 'laws.FnExactDropMelt', WHERE WHAT IT READS IS OF BULK AT MOST 1048576: true; the input reads as it did. -/
def fnExactDropMeltUptoRow : OpenClaim := { program := "ytegfgcgjoojdmaa", sum := "436760aa4889fa3859868c4d972d0ddb14dd9256ca2accd5b505ac2f8c2acf1b", func := "loop.example/g00952/laws.FnExactDropMelt", spec := "fnExactDropMelt", unfollowed := true, recurses := true, apart := false, narrowed := true }
def FnExactDropMeltUptoSaid : Prop := fnExactDropMeltUptoRow.holds Try.pinned (OpenSpec.upto fnExactDropMeltSpec)

/-- 'laws.FnExactMetalOf', WHERE WHAT IT READS IS OF BULK AT MOST 1048576: true; the input reads as it did. -/
def fnExactMetalOfUptoRow : OpenClaim := { program := "ytegfgcgjoojdmaa", sum := "436760aa4889fa3859868c4d972d0ddb14dd9256ca2accd5b505ac2f8c2acf1b", func := "loop.example/g00952/laws.FnExactMetalOf", spec := "fnExactMetalOf", unfollowed := true, recurses := true, apart := false, narrowed := true }
def FnExactMetalOfUptoSaid : Prop := fnExactMetalOfUptoRow.holds Try.pinned (OpenSpec.upto fnExactMetalOfSpec)

end Rows
end Go.Proofs.Ytegfgcgjoojdmaa
