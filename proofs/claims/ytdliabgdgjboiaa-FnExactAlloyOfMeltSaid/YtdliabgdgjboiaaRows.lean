/-
  No cell of these rows narrows 'for every input' (looked for: loops, veiled, ifaces, maps, wideKeys, modest, calm, conditions, laid).
  DERIVED. THE GIVEN ROWS OF THIS SEAT. 8 by the template 'for every input the law returns true; each argument reads behind the call as it read before'; 0 by the template 'total and deterministic' (their statements: YtdliabgdgjboiaaTotals.lean).
  GIVEN WITH THE SEED: the statements are not yours to turn. If you find one false, say at which input.
  Laid BY PROGRAM, IN A SANDBOX (cutbox-rows.mjs): the forced cells as the released guide's own fill.sh prints them over the translation 3536372639b3b0ac… (all of the seat's roots in one cut). By AI agents, Wed Nov 11 2026. No macro, syntax, notation, axiom, sorry.
-/
import Derived.Test.YtdliabgdgjboiaaChecked
import GoSem.Claim
import GoSem.ClaimJoined
import GoSem.ClaimMapViews
import Derived.JoinedTies
import Derived.KernelRfl
namespace Go.Proofs.Ytdliabgdgjboiaa
/- THE CELL 'sum', in the pinned program and in every row, IS THE sha256 OF THE DUMP (.gsa) THAT YtdliabgdgjboiaaProg.lean LOADS. Nothing in Lean hashes anything: it is a label: what it is worth is what the hold of that sum in a sandbox is worth. -/
noncomputable def Try.pinned : Pinned := { name := "ytdliabgdgjboiaa", sum := "3536372639b3b0ac02949108cf60bad084565b3fb50bde211dd0171395321f81", checked := Try.checked }
namespace Rows
def none {H : Type} : Left H := { results := [], args := [] }

/-- 'laws.FnExactAlloyOfMelt': WHATEVER THE INPUT: true; the input reads as it did. -/
def fnExactAlloyOfMeltSpec : ChangeSpec := { name := "fnExactAlloyOfMelt", fn := fun _ => fun
  | [d1, d2] => { results := [.lit (.bool true)], args := [d1, d2] }
  | _ => none }
def fnExactAlloyOfMeltRow : OpenClaim := { program := "ytdliabgdgjboiaa", sum := "3536372639b3b0ac02949108cf60bad084565b3fb50bde211dd0171395321f81", func := "loop.example/g00952/laws.FnExactAlloyOfMelt", spec := "fnExactAlloyOfMelt", unfollowed := true, recurses := true, apart := false }
def FnExactAlloyOfMeltSaid : Prop := fnExactAlloyOfMeltRow.holds Try.pinned (OpenSpec.ofChange fnExactAlloyOfMeltSpec)

/-- ITS FALSE NEIGHBOUR: 'it returns false'. Refute it at one input. -/
def fnExactAlloyOfMeltWrong : ChangeSpec := { name := "fnExactAlloyOfMelt", fn := fun _ => fun
  | [d1, d2] => { results := [.lit (.bool false)], args := [d1, d2] }
  | _ => none }
def FnExactAlloyOfMeltWrongFalsely : Prop := fnExactAlloyOfMeltRow.holds Try.pinned (OpenSpec.ofChange fnExactAlloyOfMeltWrong)

/-- 'laws.FnExactMostFrom': WHATEVER THE INPUT: true; the input reads as it did. -/
def fnExactMostFromSpec : ChangeSpec := { name := "fnExactMostFrom", fn := fun _ => fun
  | [d1, d2] => { results := [.lit (.bool true)], args := [d1, d2] }
  | _ => none }
def fnExactMostFromRow : OpenClaim := { program := "ytdliabgdgjboiaa", sum := "3536372639b3b0ac02949108cf60bad084565b3fb50bde211dd0171395321f81", func := "loop.example/g00952/laws.FnExactMostFrom", spec := "fnExactMostFrom", unfollowed := true, recurses := true, apart := false }
def FnExactMostFromSaid : Prop := fnExactMostFromRow.holds Try.pinned (OpenSpec.ofChange fnExactMostFromSpec)

/-- ITS FALSE NEIGHBOUR: 'it returns false'. Refute it at one input. -/
def fnExactMostFromWrong : ChangeSpec := { name := "fnExactMostFrom", fn := fun _ => fun
  | [d1, d2] => { results := [.lit (.bool false)], args := [d1, d2] }
  | _ => none }
def FnExactMostFromWrongFalsely : Prop := fnExactMostFromRow.holds Try.pinned (OpenSpec.ofChange fnExactMostFromWrong)

/-- 'laws.FnExactPossibleMelts': WHATEVER THE INPUT: true; the input reads as it did. -/
def fnExactPossibleMeltsSpec : ChangeSpec := { name := "fnExactPossibleMelts", fn := fun _ => fun
  | [d1, d2] => { results := [.lit (.bool true)], args := [d1, d2] }
  | _ => none }
def fnExactPossibleMeltsRow : OpenClaim := { program := "ytdliabgdgjboiaa", sum := "3536372639b3b0ac02949108cf60bad084565b3fb50bde211dd0171395321f81", func := "loop.example/g00952/laws.FnExactPossibleMelts", spec := "fnExactPossibleMelts", unfollowed := true, recurses := true, apart := false }
def FnExactPossibleMeltsSaid : Prop := fnExactPossibleMeltsRow.holds Try.pinned (OpenSpec.ofChange fnExactPossibleMeltsSpec)

/-- ITS FALSE NEIGHBOUR: 'it returns false'. Refute it at one input. -/
def fnExactPossibleMeltsWrong : ChangeSpec := { name := "fnExactPossibleMelts", fn := fun _ => fun
  | [d1, d2] => { results := [.lit (.bool false)], args := [d1, d2] }
  | _ => none }
def FnExactPossibleMeltsWrongFalsely : Prop := fnExactPossibleMeltsRow.holds Try.pinned (OpenSpec.ofChange fnExactPossibleMeltsWrong)

/-- 'laws.FnExactUnusedIngots': WHATEVER THE INPUT: true; the input reads as it did. -/
def fnExactUnusedIngotsSpec : ChangeSpec := { name := "fnExactUnusedIngots", fn := fun _ => fun
  | [d1, d2] => { results := [.lit (.bool true)], args := [d1, d2] }
  | _ => none }
def fnExactUnusedIngotsRow : OpenClaim := { program := "ytdliabgdgjboiaa", sum := "3536372639b3b0ac02949108cf60bad084565b3fb50bde211dd0171395321f81", func := "loop.example/g00952/laws.FnExactUnusedIngots", spec := "fnExactUnusedIngots", unfollowed := true, recurses := true, apart := false }
def FnExactUnusedIngotsSaid : Prop := fnExactUnusedIngotsRow.holds Try.pinned (OpenSpec.ofChange fnExactUnusedIngotsSpec)

/-- ITS FALSE NEIGHBOUR: 'it returns false'. Refute it at one input. -/
def fnExactUnusedIngotsWrong : ChangeSpec := { name := "fnExactUnusedIngots", fn := fun _ => fun
  | [d1, d2] => { results := [.lit (.bool false)], args := [d1, d2] }
  | _ => none }
def FnExactUnusedIngotsWrongFalsely : Prop := fnExactUnusedIngotsRow.holds Try.pinned (OpenSpec.ofChange fnExactUnusedIngotsWrong)

/-- 'laws.FnExactLossOf': WHATEVER THE INPUT: true; the input reads as it did. -/
def fnExactLossOfSpec : ChangeSpec := { name := "fnExactLossOf", fn := fun _ => fun
  | [d1, d2] => { results := [.lit (.bool true)], args := [d1, d2] }
  | _ => none }
def fnExactLossOfRow : OpenClaim := { program := "ytdliabgdgjboiaa", sum := "3536372639b3b0ac02949108cf60bad084565b3fb50bde211dd0171395321f81", func := "loop.example/g00952/laws.FnExactLossOf", spec := "fnExactLossOf", unfollowed := true, recurses := true, apart := false }
def FnExactLossOfSaid : Prop := fnExactLossOfRow.holds Try.pinned (OpenSpec.ofChange fnExactLossOfSpec)

/-- ITS FALSE NEIGHBOUR: 'it returns false'. Refute it at one input. -/
def fnExactLossOfWrong : ChangeSpec := { name := "fnExactLossOf", fn := fun _ => fun
  | [d1, d2] => { results := [.lit (.bool false)], args := [d1, d2] }
  | _ => none }
def FnExactLossOfWrongFalsely : Prop := fnExactLossOfRow.holds Try.pinned (OpenSpec.ofChange fnExactLossOfWrong)

/-- 'laws.FnMetal': WHATEVER THE INPUT: true; the input reads as it did. -/
def fnMetalSpec : ChangeSpec := { name := "fnMetal", fn := fun _ => fun
  | [d] => { results := [.lit (.bool true)], args := [d] }
  | _ => none }
def fnMetalRow : OpenClaim := { program := "ytdliabgdgjboiaa", sum := "3536372639b3b0ac02949108cf60bad084565b3fb50bde211dd0171395321f81", func := "loop.example/g00952/laws.FnMetal", spec := "fnMetal", unfollowed := true, recurses := true, apart := false }
def FnMetalSaid : Prop := fnMetalRow.holds Try.pinned (OpenSpec.ofChange fnMetalSpec)

/-- ITS FALSE NEIGHBOUR: 'it returns false'. Refute it at one input. -/
def fnMetalWrong : ChangeSpec := { name := "fnMetal", fn := fun _ => fun
  | [d] => { results := [.lit (.bool false)], args := [d] }
  | _ => none }
def FnMetalWrongFalsely : Prop := fnMetalRow.holds Try.pinned (OpenSpec.ofChange fnMetalWrong)

/-- 'laws.FnExactAddMelt': WHATEVER THE INPUT: true; the input reads as it did. -/
def fnExactAddMeltSpec : ChangeSpec := { name := "fnExactAddMelt", fn := fun _ => fun
  | [d1, d2, d3] => { results := [.lit (.bool true)], args := [d1, d2, d3] }
  | _ => none }
def fnExactAddMeltRow : OpenClaim := { program := "ytdliabgdgjboiaa", sum := "3536372639b3b0ac02949108cf60bad084565b3fb50bde211dd0171395321f81", func := "loop.example/g00952/laws.FnExactAddMelt", spec := "fnExactAddMelt", inPlace := ["slices.overlaps[loop.example/g00952/impl.Melt]"], unfollowed := true, recurses := true, apart := false }
def FnExactAddMeltSaid : Prop := fnExactAddMeltRow.holds Try.pinned (OpenSpec.ofChange fnExactAddMeltSpec)

/-- ITS FALSE NEIGHBOUR: 'it returns false'. Refute it at one input. -/
def fnExactAddMeltWrong : ChangeSpec := { name := "fnExactAddMelt", fn := fun _ => fun
  | [d1, d2, d3] => { results := [.lit (.bool false)], args := [d1, d2, d3] }
  | _ => none }
def FnExactAddMeltWrongFalsely : Prop := fnExactAddMeltRow.holds Try.pinned (OpenSpec.ofChange fnExactAddMeltWrong)

/-- 'laws.FnExactTurnSpots': WHATEVER THE INPUT: true; the input reads as it did. -/
def fnExactTurnSpotsSpec : ChangeSpec := { name := "fnExactTurnSpots", fn := fun _ => fun
  | [d1, d2] => { results := [.lit (.bool true)], args := [d1, d2] }
  | _ => none }
def fnExactTurnSpotsRow : OpenClaim := { program := "ytdliabgdgjboiaa", sum := "3536372639b3b0ac02949108cf60bad084565b3fb50bde211dd0171395321f81", func := "loop.example/g00952/laws.FnExactTurnSpots", spec := "fnExactTurnSpots", unfollowed := true, recurses := true, apart := false }
def FnExactTurnSpotsSaid : Prop := fnExactTurnSpotsRow.holds Try.pinned (OpenSpec.ofChange fnExactTurnSpotsSpec)

/-- ITS FALSE NEIGHBOUR: 'it returns false'. Refute it at one input. -/
def fnExactTurnSpotsWrong : ChangeSpec := { name := "fnExactTurnSpots", fn := fun _ => fun
  | [d1, d2] => { results := [.lit (.bool false)], args := [d1, d2] }
  | _ => none }
def FnExactTurnSpotsWrongFalsely : Prop := fnExactTurnSpotsRow.holds Try.pinned (OpenSpec.ofChange fnExactTurnSpotsWrong)

/- THE SECOND FORM. 'bulk': how many values and letters a reading holds, each counted each time it is reached (what is shared counts as often as it is met; a slice's spare places count too). A statement '..UptoSaid' is the law's where the arguments, and the package variables that the reading takes, are together of bulk at most 1048576: NARROWER than '..Said'. Prove '..Said' where nothing that the law and all that it calls make is longer than what came in: it says more and counts as full. Else prove '..UptoSaid'. A law counts once. -/
mutual
def uptoBulk {H : Type} : DataW H → Nat
  | .lit (.string bytes) => bytes.length + 1
  | .lit _ => 1
  | .nil => 1
  | .ptr d => uptoBulk d + 1
  | .slice elems spare => uptoBulkAll elems + uptoBulkAll spare + 1
  | .agg parts => uptoBulkAll parts + 1
  | .iface _ d => uptoBulk d + 1
  | .map entries => uptoBulkEntries entries + 1
  | .held _ => 1
def uptoBulkAll {H : Type} : List (DataW H) → Nat
  | [] => 0
  | d :: r => uptoBulk d + uptoBulkAll r
def uptoBulkEntries {H : Type} : List (Lit × DataW H) → Nat
  | [] => 0
  | x :: r => uptoBulkEntry x + uptoBulkEntries r
def uptoBulkEntry {H : Type} : Lit × DataW H → Nat
  | (.string bytes, d) => bytes.length + uptoBulk d + 1
  | (_, d) => uptoBulk d + 1
 end
def uptoSmall : (H : Type) → List (DataW H) → Bool := fun _ ds => decide (uptoBulkAll ds ≤ 1048576)
def OpenSpec.upto (s : _root_.Go.ChangeSpec) : _root_.Go.OpenSpec := { _root_.Go.OpenSpec.ofChange s with cond := some uptoSmall }

/-- 'laws.FnExactAlloyOfMelt', WHERE WHAT IT READS IS OF BULK AT MOST 1048576: true; the input reads as it did. -/
def fnExactAlloyOfMeltUptoRow : OpenClaim := { program := "ytdliabgdgjboiaa", sum := "3536372639b3b0ac02949108cf60bad084565b3fb50bde211dd0171395321f81", func := "loop.example/g00952/laws.FnExactAlloyOfMelt", spec := "fnExactAlloyOfMelt", unfollowed := true, recurses := true, apart := false, narrowed := true }
def FnExactAlloyOfMeltUptoSaid : Prop := fnExactAlloyOfMeltUptoRow.holds Try.pinned (OpenSpec.upto fnExactAlloyOfMeltSpec)

/-- 'laws.FnExactMostFrom', WHERE WHAT IT READS IS OF BULK AT MOST 1048576: true; the input reads as it did. -/
def fnExactMostFromUptoRow : OpenClaim := { program := "ytdliabgdgjboiaa", sum := "3536372639b3b0ac02949108cf60bad084565b3fb50bde211dd0171395321f81", func := "loop.example/g00952/laws.FnExactMostFrom", spec := "fnExactMostFrom", unfollowed := true, recurses := true, apart := false, narrowed := true }
def FnExactMostFromUptoSaid : Prop := fnExactMostFromUptoRow.holds Try.pinned (OpenSpec.upto fnExactMostFromSpec)

/-- 'laws.FnExactPossibleMelts', WHERE WHAT IT READS IS OF BULK AT MOST 1048576: true; the input reads as it did. -/
def fnExactPossibleMeltsUptoRow : OpenClaim := { program := "ytdliabgdgjboiaa", sum := "3536372639b3b0ac02949108cf60bad084565b3fb50bde211dd0171395321f81", func := "loop.example/g00952/laws.FnExactPossibleMelts", spec := "fnExactPossibleMelts", unfollowed := true, recurses := true, apart := false, narrowed := true }
def FnExactPossibleMeltsUptoSaid : Prop := fnExactPossibleMeltsUptoRow.holds Try.pinned (OpenSpec.upto fnExactPossibleMeltsSpec)

/-- 'laws.FnExactUnusedIngots', WHERE WHAT IT READS IS OF BULK AT MOST 1048576: true; the input reads as it did. -/
def fnExactUnusedIngotsUptoRow : OpenClaim := { program := "ytdliabgdgjboiaa", sum := "3536372639b3b0ac02949108cf60bad084565b3fb50bde211dd0171395321f81", func := "loop.example/g00952/laws.FnExactUnusedIngots", spec := "fnExactUnusedIngots", unfollowed := true, recurses := true, apart := false, narrowed := true }
def FnExactUnusedIngotsUptoSaid : Prop := fnExactUnusedIngotsUptoRow.holds Try.pinned (OpenSpec.upto fnExactUnusedIngotsSpec)

/-- 'laws.FnExactLossOf', WHERE WHAT IT READS IS OF BULK AT MOST 1048576: true; the input reads as it did. -/
def fnExactLossOfUptoRow : OpenClaim := { program := "ytdliabgdgjboiaa", sum := "3536372639b3b0ac02949108cf60bad084565b3fb50bde211dd0171395321f81", func := "loop.example/g00952/laws.FnExactLossOf", spec := "fnExactLossOf", unfollowed := true, recurses := true, apart := false, narrowed := true }
def FnExactLossOfUptoSaid : Prop := fnExactLossOfUptoRow.holds Try.pinned (OpenSpec.upto fnExactLossOfSpec)

/-- 'laws.FnMetal', WHERE WHAT IT READS IS OF BULK AT MOST 1048576: true; the input reads as it did. -/
def fnMetalUptoRow : OpenClaim := { program := "ytdliabgdgjboiaa", sum := "3536372639b3b0ac02949108cf60bad084565b3fb50bde211dd0171395321f81", func := "loop.example/g00952/laws.FnMetal", spec := "fnMetal", unfollowed := true, recurses := true, apart := false, narrowed := true }
def FnMetalUptoSaid : Prop := fnMetalUptoRow.holds Try.pinned (OpenSpec.upto fnMetalSpec)

/-- 'laws.FnExactAddMelt', WHERE WHAT IT READS IS OF BULK AT MOST 1048576: true; the input reads as it did. -/
def fnExactAddMeltUptoRow : OpenClaim := { program := "ytdliabgdgjboiaa", sum := "3536372639b3b0ac02949108cf60bad084565b3fb50bde211dd0171395321f81", func := "loop.example/g00952/laws.FnExactAddMelt", spec := "fnExactAddMelt", inPlace := ["slices.overlaps[loop.example/g00952/impl.Melt]"], unfollowed := true, recurses := true, apart := false, narrowed := true }
def FnExactAddMeltUptoSaid : Prop := fnExactAddMeltUptoRow.holds Try.pinned (OpenSpec.upto fnExactAddMeltSpec)

/-- 'laws.FnExactTurnSpots', WHERE WHAT IT READS IS OF BULK AT MOST 1048576: true; the input reads as it did. -/
def fnExactTurnSpotsUptoRow : OpenClaim := { program := "ytdliabgdgjboiaa", sum := "3536372639b3b0ac02949108cf60bad084565b3fb50bde211dd0171395321f81", func := "loop.example/g00952/laws.FnExactTurnSpots", spec := "fnExactTurnSpots", unfollowed := true, recurses := true, apart := false, narrowed := true }
def FnExactTurnSpotsUptoSaid : Prop := fnExactTurnSpotsUptoRow.holds Try.pinned (OpenSpec.upto fnExactTurnSpotsSpec)

end Rows
end Go.Proofs.Ytdliabgdgjboiaa
