/-
  No cell of these rows narrows 'for every input' (looked for: loops, veiled, ifaces, maps, wideKeys, modest, calm, conditions, laid).
  DERIVED. THE GIVEN ROWS OF THIS SEAT. 8 by the template 'for every input the law returns true; each argument reads behind the call as it read before'; 0 by the template 'total and deterministic' (their statements: YtmkemjfbmnnflaaTotals.lean).
  GIVEN WITH THE SEED: the statements are not yours to turn. If you find one false, say at which input.
  Laid BY PROGRAM, IN A SANDBOX (cutbox-rows.mjs): the forced cells as the released guide's own fill.sh prints them over the translation 29ac630d6a7b54f3… (all of the seat's roots in one cut). By AI agents, Wed Nov 11 2026. No macro, syntax, notation, axiom, sorry.
-/
import Derived.Test.YtmkemjfbmnnflaaChecked
import GoSem.Claim
import GoSem.ClaimJoined
import GoSem.ClaimMapViews
import Derived.JoinedTies
import Derived.KernelRfl
namespace Go.Proofs.Ytmkemjfbmnnflaa
/- THE CELL 'sum', in the pinned program and in every row, IS THE sha256 OF THE DUMP (.gsa) THAT YtmkemjfbmnnflaaProg.lean LOADS. Nothing in Lean hashes anything: it is a label: what it is worth is what the hold of that sum in a sandbox is worth. -/
noncomputable def Try.pinned : Pinned := { name := "ytmkemjfbmnnflaa", sum := "29ac630d6a7b54f36db4ba0fcd57183bb573f19918c5e4d651777f1d49c133d0", checked := Try.checked }
namespace Rows
def none {H : Type} : Left H := { results := [], args := [] }

/-- 'laws.FnExactValuesOf': WHATEVER THE INPUT: true; the input reads as it did. -/
def fnExactValuesOfSpec : ChangeSpec := { name := "fnExactValuesOf", fn := fun _ => fun
  | [d1, d2, d3] => { results := [.lit (.bool true)], args := [d1, d2, d3] }
  | _ => none }
def fnExactValuesOfRow : OpenClaim := { program := "ytmkemjfbmnnflaa", sum := "29ac630d6a7b54f36db4ba0fcd57183bb573f19918c5e4d651777f1d49c133d0", func := "loop.example/g00952/laws.FnExactValuesOf", spec := "fnExactValuesOf", unfollowed := true, recurses := true, apart := false }
def FnExactValuesOfSaid : Prop := fnExactValuesOfRow.holds Try.pinned (OpenSpec.ofChange fnExactValuesOfSpec)

/-- ITS FALSE NEIGHBOUR: 'it returns false'. Refute it at one input. -/
def fnExactValuesOfWrong : ChangeSpec := { name := "fnExactValuesOf", fn := fun _ => fun
  | [d1, d2, d3] => { results := [.lit (.bool false)], args := [d1, d2, d3] }
  | _ => none }
def FnExactValuesOfWrongFalsely : Prop := fnExactValuesOfRow.holds Try.pinned (OpenSpec.ofChange fnExactValuesOfWrong)

/-- 'laws.FnExactMedianOf': WHATEVER THE INPUT: true; the input reads as it did. -/
def fnExactMedianOfSpec : ChangeSpec := { name := "fnExactMedianOf", fn := fun _ => fun
  | [d1, d2, d3] => { results := [.lit (.bool true)], args := [d1, d2, d3] }
  | _ => none }
def fnExactMedianOfRow : OpenClaim := { program := "ytmkemjfbmnnflaa", sum := "29ac630d6a7b54f36db4ba0fcd57183bb573f19918c5e4d651777f1d49c133d0", func := "loop.example/g00952/laws.FnExactMedianOf", spec := "fnExactMedianOf", unfollowed := true, recurses := true, apart := false }
def FnExactMedianOfSaid : Prop := fnExactMedianOfRow.holds Try.pinned (OpenSpec.ofChange fnExactMedianOfSpec)

/-- ITS FALSE NEIGHBOUR: 'it returns false'. Refute it at one input. -/
def fnExactMedianOfWrong : ChangeSpec := { name := "fnExactMedianOf", fn := fun _ => fun
  | [d1, d2, d3] => { results := [.lit (.bool false)], args := [d1, d2, d3] }
  | _ => none }
def FnExactMedianOfWrongFalsely : Prop := fnExactMedianOfRow.holds Try.pinned (OpenSpec.ofChange fnExactMedianOfWrong)

/-- 'laws.FnExactMeanOf': WHATEVER THE INPUT: true; the input reads as it did. -/
def fnExactMeanOfSpec : ChangeSpec := { name := "fnExactMeanOf", fn := fun _ => fun
  | [d1, d2, d3] => { results := [.lit (.bool true)], args := [d1, d2, d3] }
  | _ => none }
def fnExactMeanOfRow : OpenClaim := { program := "ytmkemjfbmnnflaa", sum := "29ac630d6a7b54f36db4ba0fcd57183bb573f19918c5e4d651777f1d49c133d0", func := "loop.example/g00952/laws.FnExactMeanOf", spec := "fnExactMeanOf", unfollowed := true, recurses := true, apart := false }
def FnExactMeanOfSaid : Prop := fnExactMeanOfRow.holds Try.pinned (OpenSpec.ofChange fnExactMeanOfSpec)

/-- ITS FALSE NEIGHBOUR: 'it returns false'. Refute it at one input. -/
def fnExactMeanOfWrong : ChangeSpec := { name := "fnExactMeanOf", fn := fun _ => fun
  | [d1, d2, d3] => { results := [.lit (.bool false)], args := [d1, d2, d3] }
  | _ => none }
def FnExactMeanOfWrongFalsely : Prop := fnExactMeanOfRow.holds Try.pinned (OpenSpec.ofChange fnExactMeanOfWrong)

/-- 'laws.FnExactBellsMeasured': WHATEVER THE INPUT: true; the input reads as it did. -/
def fnExactBellsMeasuredSpec : ChangeSpec := { name := "fnExactBellsMeasured", fn := fun _ => fun
  | [d] => { results := [.lit (.bool true)], args := [d] }
  | _ => none }
def fnExactBellsMeasuredRow : OpenClaim := { program := "ytmkemjfbmnnflaa", sum := "29ac630d6a7b54f36db4ba0fcd57183bb573f19918c5e4d651777f1d49c133d0", func := "loop.example/g00952/laws.FnExactBellsMeasured", spec := "fnExactBellsMeasured", unfollowed := true, recurses := true, apart := false }
def FnExactBellsMeasuredSaid : Prop := fnExactBellsMeasuredRow.holds Try.pinned (OpenSpec.ofChange fnExactBellsMeasuredSpec)

/-- ITS FALSE NEIGHBOUR: 'it returns false'. Refute it at one input. -/
def fnExactBellsMeasuredWrong : ChangeSpec := { name := "fnExactBellsMeasured", fn := fun _ => fun
  | [d] => { results := [.lit (.bool false)], args := [d] }
  | _ => none }
def FnExactBellsMeasuredWrongFalsely : Prop := fnExactBellsMeasuredRow.holds Try.pinned (OpenSpec.ofChange fnExactBellsMeasuredWrong)

/-- 'laws.FnExactSpreadOf': WHATEVER THE INPUT: true; the input reads as it did. -/
def fnExactSpreadOfSpec : ChangeSpec := { name := "fnExactSpreadOf", fn := fun _ => fun
  | [d1, d2, d3] => { results := [.lit (.bool true)], args := [d1, d2, d3] }
  | _ => none }
def fnExactSpreadOfRow : OpenClaim := { program := "ytmkemjfbmnnflaa", sum := "29ac630d6a7b54f36db4ba0fcd57183bb573f19918c5e4d651777f1d49c133d0", func := "loop.example/g00952/laws.FnExactSpreadOf", spec := "fnExactSpreadOf", unfollowed := true, recurses := true, apart := false }
def FnExactSpreadOfSaid : Prop := fnExactSpreadOfRow.holds Try.pinned (OpenSpec.ofChange fnExactSpreadOfSpec)

/-- ITS FALSE NEIGHBOUR: 'it returns false'. Refute it at one input. -/
def fnExactSpreadOfWrong : ChangeSpec := { name := "fnExactSpreadOf", fn := fun _ => fun
  | [d1, d2, d3] => { results := [.lit (.bool false)], args := [d1, d2, d3] }
  | _ => none }
def FnExactSpreadOfWrongFalsely : Prop := fnExactSpreadOfRow.holds Try.pinned (OpenSpec.ofChange fnExactSpreadOfWrong)

/-- 'laws.FnExactOutliersOf': WHATEVER THE INPUT: true; the input reads as it did. -/
def fnExactOutliersOfSpec : ChangeSpec := { name := "fnExactOutliersOf", fn := fun _ => fun
  | [d1, d2] => { results := [.lit (.bool true)], args := [d1, d2] }
  | _ => none }
def fnExactOutliersOfRow : OpenClaim := { program := "ytmkemjfbmnnflaa", sum := "29ac630d6a7b54f36db4ba0fcd57183bb573f19918c5e4d651777f1d49c133d0", func := "loop.example/g00952/laws.FnExactOutliersOf", spec := "fnExactOutliersOf", unfollowed := true, recurses := true, apart := false }
def FnExactOutliersOfSaid : Prop := fnExactOutliersOfRow.holds Try.pinned (OpenSpec.ofChange fnExactOutliersOfSpec)

/-- ITS FALSE NEIGHBOUR: 'it returns false'. Refute it at one input. -/
def fnExactOutliersOfWrong : ChangeSpec := { name := "fnExactOutliersOf", fn := fun _ => fun
  | [d1, d2] => { results := [.lit (.bool false)], args := [d1, d2] }
  | _ => none }
def FnExactOutliersOfWrongFalsely : Prop := fnExactOutliersOfRow.holds Try.pinned (OpenSpec.ofChange fnExactOutliersOfWrong)

/-- 'laws.FnExactWithoutOutliers': WHATEVER THE INPUT: true; the input reads as it did. -/
def fnExactWithoutOutliersSpec : ChangeSpec := { name := "fnExactWithoutOutliers", fn := fun _ => fun
  | [d1, d2] => { results := [.lit (.bool true)], args := [d1, d2] }
  | _ => none }
def fnExactWithoutOutliersRow : OpenClaim := { program := "ytmkemjfbmnnflaa", sum := "29ac630d6a7b54f36db4ba0fcd57183bb573f19918c5e4d651777f1d49c133d0", func := "loop.example/g00952/laws.FnExactWithoutOutliers", spec := "fnExactWithoutOutliers", unfollowed := true, recurses := true, apart := false }
def FnExactWithoutOutliersSaid : Prop := fnExactWithoutOutliersRow.holds Try.pinned (OpenSpec.ofChange fnExactWithoutOutliersSpec)

/-- ITS FALSE NEIGHBOUR: 'it returns false'. Refute it at one input. -/
def fnExactWithoutOutliersWrong : ChangeSpec := { name := "fnExactWithoutOutliers", fn := fun _ => fun
  | [d1, d2] => { results := [.lit (.bool false)], args := [d1, d2] }
  | _ => none }
def FnExactWithoutOutliersWrongFalsely : Prop := fnExactWithoutOutliersRow.holds Try.pinned (OpenSpec.ofChange fnExactWithoutOutliersWrong)

/-- 'laws.FnExactSoundFrom': WHATEVER THE INPUT: true; the input reads as it did. -/
def fnExactSoundFromSpec : ChangeSpec := { name := "fnExactSoundFrom", fn := fun _ => fun
  | [d1, d2] => { results := [.lit (.bool true)], args := [d1, d2] }
  | _ => none }
def fnExactSoundFromRow : OpenClaim := { program := "ytmkemjfbmnnflaa", sum := "29ac630d6a7b54f36db4ba0fcd57183bb573f19918c5e4d651777f1d49c133d0", func := "loop.example/g00952/laws.FnExactSoundFrom", spec := "fnExactSoundFrom", unfollowed := true, recurses := true, apart := false }
def FnExactSoundFromSaid : Prop := fnExactSoundFromRow.holds Try.pinned (OpenSpec.ofChange fnExactSoundFromSpec)

/-- ITS FALSE NEIGHBOUR: 'it returns false'. Refute it at one input. -/
def fnExactSoundFromWrong : ChangeSpec := { name := "fnExactSoundFrom", fn := fun _ => fun
  | [d1, d2] => { results := [.lit (.bool false)], args := [d1, d2] }
  | _ => none }
def FnExactSoundFromWrongFalsely : Prop := fnExactSoundFromRow.holds Try.pinned (OpenSpec.ofChange fnExactSoundFromWrong)

/- THE SECOND FORM. 'bulk': how many values and letters a reading holds, each counted each time it is reached (what is shared counts as often as it is met; a slice's spare places count too). A statement '..UptoSaid' is the law's where the arguments, and the package variables that the reading takes, are together of bulk at most 1048576: NARROWER than '..Said'. Prove '..Said' where nothing that the law and all that it calls make is longer than what came in: it says more and counts as full. Else prove '..UptoSaid'. A law counts once. -/
mutual
def uptoBulk {H : Type} : DataW H → Nat
  | .lit (.string bytes) => bytes.length + 1
  | .lit _ => 1
  | .nil => 1
  | .ptr d => uptoBulk d + 1
  | .slice elems spare => uptoBulkAll elems + uptoBulkAll spare + 1
  | .agg parts => uptoBulkAll parts + 1
  | .iface _ d => uptoBulk d + 1
  | .map entries => uptoBulkEntries entries + 1
  | .held _ => 1
def uptoBulkAll {H : Type} : List (DataW H) → Nat
  | [] => 0
  | d :: r => uptoBulk d + uptoBulkAll r
def uptoBulkEntries {H : Type} : List (Lit × DataW H) → Nat
  | [] => 0
  | x :: r => uptoBulkEntry x + uptoBulkEntries r
def uptoBulkEntry {H : Type} : Lit × DataW H → Nat
  | (.string bytes, d) => bytes.length + uptoBulk d + 1
  | (_, d) => uptoBulk d + 1
 end
def uptoSmall : (H : Type) → List (DataW H) → Bool := fun _ ds => decide (uptoBulkAll ds ≤ 1048576)
def OpenSpec.upto (s : _root_.Go.ChangeSpec) : _root_.Go.OpenSpec := { _root_.Go.OpenSpec.ofChange s with cond := some uptoSmall }

/-- 'laws.FnExactValuesOf', WHERE WHAT IT READS IS OF BULK AT MOST 1048576: true; the input reads as it did. -/
def fnExactValuesOfUptoRow : OpenClaim := { program := "ytmkemjfbmnnflaa", sum := "29ac630d6a7b54f36db4ba0fcd57183bb573f19918c5e4d651777f1d49c133d0", func := "loop.example/g00952/laws.FnExactValuesOf", spec := "fnExactValuesOf", unfollowed := true, recurses := true, apart := false, narrowed := true }
def FnExactValuesOfUptoSaid : Prop := fnExactValuesOfUptoRow.holds Try.pinned (OpenSpec.upto fnExactValuesOfSpec)

/-- 'laws.FnExactMedianOf', WHERE WHAT IT READS IS OF BULK AT MOST 1048576: true; the input reads as it did. -/
def fnExactMedianOfUptoRow : OpenClaim := { program := "ytmkemjfbmnnflaa", sum := "29ac630d6a7b54f36db4ba0fcd57183bb573f19918c5e4d651777f1d49c133d0", func := "loop.example/g00952/laws.FnExactMedianOf", spec := "fnExactMedianOf", unfollowed := true, recurses := true, apart := false, narrowed := true }
def FnExactMedianOfUptoSaid : Prop := fnExactMedianOfUptoRow.holds Try.pinned (OpenSpec.upto fnExactMedianOfSpec)

/-- 'laws.FnExactMeanOf', WHERE WHAT IT READS IS OF BULK AT MOST 1048576: true; the input reads as it did. -/
def fnExactMeanOfUptoRow : OpenClaim := { program := "ytmkemjfbmnnflaa", sum := "29ac630d6a7b54f36db4ba0fcd57183bb573f19918c5e4d651777f1d49c133d0", func := "loop.example/g00952/laws.FnExactMeanOf", spec := "fnExactMeanOf", unfollowed := true, recurses := true, apart := false, narrowed := true }
def FnExactMeanOfUptoSaid : Prop := fnExactMeanOfUptoRow.holds Try.pinned (OpenSpec.upto fnExactMeanOfSpec)

/-- 'laws.FnExactBellsMeasured', WHERE WHAT IT READS IS OF BULK AT MOST 1048576: true; the input reads as it did. -/
def fnExactBellsMeasuredUptoRow : OpenClaim := { program := "ytmkemjfbmnnflaa", sum := "29ac630d6a7b54f36db4ba0fcd57183bb573f19918c5e4d651777f1d49c133d0", func := "loop.example/g00952/laws.FnExactBellsMeasured", spec := "fnExactBellsMeasured", unfollowed := true, recurses := true, apart := false, narrowed := true }
def FnExactBellsMeasuredUptoSaid : Prop := fnExactBellsMeasuredUptoRow.holds Try.pinned (OpenSpec.upto fnExactBellsMeasuredSpec)

/-- 'laws.FnExactSpreadOf', WHERE WHAT IT READS IS OF BULK AT MOST 1048576: true; the input reads as it did. -/
def fnExactSpreadOfUptoRow : OpenClaim := { program := "ytmkemjfbmnnflaa", sum := "29ac630d6a7b54f36db4ba0fcd57183bb573f19918c5e4d651777f1d49c133d0", func := "loop.example/g00952/laws.FnExactSpreadOf", spec := "fnExactSpreadOf", unfollowed := true, recurses := true, apart := false, narrowed := true }
def FnExactSpreadOfUptoSaid : Prop := fnExactSpreadOfUptoRow.holds Try.pinned (OpenSpec.upto fnExactSpreadOfSpec)

/-- 'laws.FnExactOutliersOf', WHERE WHAT IT READS IS OF BULK AT MOST 1048576: true; the input reads as it did. -/
def fnExactOutliersOfUptoRow : OpenClaim := { program := "ytmkemjfbmnnflaa", sum := "29ac630d6a7b54f36db4ba0fcd57183bb573f19918c5e4d651777f1d49c133d0", func := "loop.example/g00952/laws.FnExactOutliersOf", spec := "fnExactOutliersOf", unfollowed := true, recurses := true, apart := false, narrowed := true }
def FnExactOutliersOfUptoSaid : Prop := fnExactOutliersOfUptoRow.holds Try.pinned (OpenSpec.upto fnExactOutliersOfSpec)

/-- 'laws.FnExactWithoutOutliers', WHERE WHAT IT READS IS OF BULK AT MOST 1048576: true; the input reads as it did. -/
def fnExactWithoutOutliersUptoRow : OpenClaim := { program := "ytmkemjfbmnnflaa", sum := "29ac630d6a7b54f36db4ba0fcd57183bb573f19918c5e4d651777f1d49c133d0", func := "loop.example/g00952/laws.FnExactWithoutOutliers", spec := "fnExactWithoutOutliers", unfollowed := true, recurses := true, apart := false, narrowed := true }
def FnExactWithoutOutliersUptoSaid : Prop := fnExactWithoutOutliersUptoRow.holds Try.pinned (OpenSpec.upto fnExactWithoutOutliersSpec)

/-- 'laws.FnExactSoundFrom', WHERE WHAT IT READS IS OF BULK AT MOST 1048576: true; the input reads as it did. -/
def fnExactSoundFromUptoRow : OpenClaim := { program := "ytmkemjfbmnnflaa", sum := "29ac630d6a7b54f36db4ba0fcd57183bb573f19918c5e4d651777f1d49c133d0", func := "loop.example/g00952/laws.FnExactSoundFrom", spec := "fnExactSoundFrom", unfollowed := true, recurses := true, apart := false, narrowed := true }
def FnExactSoundFromUptoSaid : Prop := fnExactSoundFromUptoRow.holds Try.pinned (OpenSpec.upto fnExactSoundFromSpec)

end Rows
end Go.Proofs.Ytmkemjfbmnnflaa
