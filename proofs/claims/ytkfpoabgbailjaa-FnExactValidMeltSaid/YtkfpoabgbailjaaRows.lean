/-
  No cell of these rows narrows 'for every input' (looked for: loops, veiled, ifaces, maps, wideKeys, modest, calm, conditions, laid).
  DERIVED. THE GIVEN ROWS OF THIS SEAT. 12 by the template 'for every input the law returns true; each argument reads behind the call as it read before'; 0 by the template 'total and deterministic' (their statements: YtkfpoabgbailjaaTotals.lean).
  GIVEN WITH THE SEED: the statements are not yours to turn. If you find one false, say at which input.
  Laid BY PROGRAM, IN A SANDBOX (cutbox-rows.mjs): the forced cells as the released guide's own fill.sh prints them over the translation 15ad66227020efed… (all of the seat's roots in one cut). By AI agents, Wed Nov 11 2026. No macro, syntax, notation, axiom, sorry.
-/
import Derived.Test.YtkfpoabgbailjaaChecked
import GoSem.Claim
import GoSem.ClaimJoined
import GoSem.ClaimMapViews
import Derived.JoinedTies
import Derived.KernelRfl
namespace Go.Proofs.Ytkfpoabgbailjaa
/- THE CELL 'sum', in the pinned program and in every row, IS THE sha256 OF THE DUMP (.gsa) THAT YtkfpoabgbailjaaProg.lean LOADS. Nothing in Lean hashes anything: it is a label: what it is worth is what the hold of that sum in a sandbox is worth. -/
noncomputable def Try.pinned : Pinned := { name := "ytkfpoabgbailjaa", sum := "15ad66227020efede4183c99aa7813b66a05bbc0be819f48240f9f42e9cdfb73", checked := Try.checked }
namespace Rows
def none {H : Type} : Left H := { results := [], args := [] }

/-- 'laws.FnExactCountPlaced': WHATEVER THE INPUT: true; the input reads as it did. -/
def fnExactCountPlacedSpec : ChangeSpec := { name := "fnExactCountPlaced", fn := fun _ => fun
  | [d] => { results := [.lit (.bool true)], args := [d] }
  | _ => none }
def fnExactCountPlacedRow : OpenClaim := { program := "ytkfpoabgbailjaa", sum := "15ad66227020efede4183c99aa7813b66a05bbc0be819f48240f9f42e9cdfb73", func := "loop.example/g00952/laws.FnExactCountPlaced", spec := "fnExactCountPlaced", apart := false }
def FnExactCountPlacedSaid : Prop := fnExactCountPlacedRow.holds Try.pinned (OpenSpec.ofChange fnExactCountPlacedSpec)

/-- ITS FALSE NEIGHBOUR: 'it returns false'. Refute it at one input. -/
def fnExactCountPlacedWrong : ChangeSpec := { name := "fnExactCountPlaced", fn := fun _ => fun
  | [d] => { results := [.lit (.bool false)], args := [d] }
  | _ => none }
def FnExactCountPlacedWrongFalsely : Prop := fnExactCountPlacedRow.holds Try.pinned (OpenSpec.ofChange fnExactCountPlacedWrong)

/-- 'laws.FnExactWarbleBeat': WHATEVER THE INPUT: true; the input reads as it did. -/
def fnExactWarbleBeatSpec : ChangeSpec := { name := "fnExactWarbleBeat", fn := fun _ => fun
  | [d1, d2] => { results := [.lit (.bool true)], args := [d1, d2] }
  | _ => none }
def fnExactWarbleBeatRow : OpenClaim := { program := "ytkfpoabgbailjaa", sum := "15ad66227020efede4183c99aa7813b66a05bbc0be819f48240f9f42e9cdfb73", func := "loop.example/g00952/laws.FnExactWarbleBeat", spec := "fnExactWarbleBeat", apart := false }
def FnExactWarbleBeatSaid : Prop := fnExactWarbleBeatRow.holds Try.pinned (OpenSpec.ofChange fnExactWarbleBeatSpec)

/-- ITS FALSE NEIGHBOUR: 'it returns false'. Refute it at one input. -/
def fnExactWarbleBeatWrong : ChangeSpec := { name := "fnExactWarbleBeat", fn := fun _ => fun
  | [d1, d2] => { results := [.lit (.bool false)], args := [d1, d2] }
  | _ => none }
def FnExactWarbleBeatWrongFalsely : Prop := fnExactWarbleBeatRow.holds Try.pinned (OpenSpec.ofChange fnExactWarbleBeatWrong)

/-- 'laws.FnExactDryingTime': WHATEVER THE INPUT: true; the input reads as it did. -/
def fnExactDryingTimeSpec : ChangeSpec := { name := "fnExactDryingTime", fn := fun _ => fun
  | [d1, d2, d3, d4] => { results := [.lit (.bool true)], args := [d1, d2, d3, d4] }
  | _ => none }
def fnExactDryingTimeRow : OpenClaim := { program := "ytkfpoabgbailjaa", sum := "15ad66227020efede4183c99aa7813b66a05bbc0be819f48240f9f42e9cdfb73", func := "loop.example/g00952/laws.FnExactDryingTime", spec := "fnExactDryingTime", apart := false }
def FnExactDryingTimeSaid : Prop := fnExactDryingTimeRow.holds Try.pinned (OpenSpec.ofChange fnExactDryingTimeSpec)

/-- ITS FALSE NEIGHBOUR: 'it returns false'. Refute it at one input. -/
def fnExactDryingTimeWrong : ChangeSpec := { name := "fnExactDryingTime", fn := fun _ => fun
  | [d1, d2, d3, d4] => { results := [.lit (.bool false)], args := [d1, d2, d3, d4] }
  | _ => none }
def FnExactDryingTimeWrongFalsely : Prop := fnExactDryingTimeRow.holds Try.pinned (OpenSpec.ofChange fnExactDryingTimeWrong)

/-- 'laws.FnExactDensityOf': WHATEVER THE INPUT: true; the input reads as it did. -/
def fnExactDensityOfSpec : ChangeSpec := { name := "fnExactDensityOf", fn := fun _ => fun
  | [d] => { results := [.lit (.bool true)], args := [d] }
  | _ => none }
def fnExactDensityOfRow : OpenClaim := { program := "ytkfpoabgbailjaa", sum := "15ad66227020efede4183c99aa7813b66a05bbc0be819f48240f9f42e9cdfb73", func := "loop.example/g00952/laws.FnExactDensityOf", spec := "fnExactDensityOf", apart := false }
def FnExactDensityOfSaid : Prop := fnExactDensityOfRow.holds Try.pinned (OpenSpec.ofChange fnExactDensityOfSpec)

/-- ITS FALSE NEIGHBOUR: 'it returns false'. Refute it at one input. -/
def fnExactDensityOfWrong : ChangeSpec := { name := "fnExactDensityOf", fn := fun _ => fun
  | [d] => { results := [.lit (.bool false)], args := [d] }
  | _ => none }
def FnExactDensityOfWrongFalsely : Prop := fnExactDensityOfRow.holds Try.pinned (OpenSpec.ofChange fnExactDensityOfWrong)

/-- 'laws.FnExactSameSpots': WHATEVER THE INPUT: true; the input reads as it did. -/
def fnExactSameSpotsSpec : ChangeSpec := { name := "fnExactSameSpots", fn := fun _ => fun
  | [d1, d2] => { results := [.lit (.bool true)], args := [d1, d2] }
  | _ => none }
def fnExactSameSpotsRow : OpenClaim := { program := "ytkfpoabgbailjaa", sum := "15ad66227020efede4183c99aa7813b66a05bbc0be819f48240f9f42e9cdfb73", func := "loop.example/g00952/laws.FnExactSameSpots", spec := "fnExactSameSpots", apart := false }
def FnExactSameSpotsSaid : Prop := fnExactSameSpotsRow.holds Try.pinned (OpenSpec.ofChange fnExactSameSpotsSpec)

/-- ITS FALSE NEIGHBOUR: 'it returns false'. Refute it at one input. -/
def fnExactSameSpotsWrong : ChangeSpec := { name := "fnExactSameSpots", fn := fun _ => fun
  | [d1, d2] => { results := [.lit (.bool false)], args := [d1, d2] }
  | _ => none }
def FnExactSameSpotsWrongFalsely : Prop := fnExactSameSpotsRow.holds Try.pinned (OpenSpec.ofChange fnExactSameSpotsWrong)

/-- 'laws.FnExactValidSpots': WHATEVER THE INPUT: true; the input reads as it did. -/
def fnExactValidSpotsSpec : ChangeSpec := { name := "fnExactValidSpots", fn := fun _ => fun
  | [d] => { results := [.lit (.bool true)], args := [d] }
  | _ => none }
def fnExactValidSpotsRow : OpenClaim := { program := "ytkfpoabgbailjaa", sum := "15ad66227020efede4183c99aa7813b66a05bbc0be819f48240f9f42e9cdfb73", func := "loop.example/g00952/laws.FnExactValidSpots", spec := "fnExactValidSpots", apart := false }
def FnExactValidSpotsSaid : Prop := fnExactValidSpotsRow.holds Try.pinned (OpenSpec.ofChange fnExactValidSpotsSpec)

/-- ITS FALSE NEIGHBOUR: 'it returns false'. Refute it at one input. -/
def fnExactValidSpotsWrong : ChangeSpec := { name := "fnExactValidSpots", fn := fun _ => fun
  | [d] => { results := [.lit (.bool false)], args := [d] }
  | _ => none }
def FnExactValidSpotsWrongFalsely : Prop := fnExactValidSpotsRow.holds Try.pinned (OpenSpec.ofChange fnExactValidSpotsWrong)

/-- 'laws.FnExactWorstClass': WHATEVER THE INPUT: true; the input reads as it did. -/
def fnExactWorstClassSpec : ChangeSpec := { name := "fnExactWorstClass", fn := fun _ => fun
  | [d] => { results := [.lit (.bool true)], args := [d] }
  | _ => none }
def fnExactWorstClassRow : OpenClaim := { program := "ytkfpoabgbailjaa", sum := "15ad66227020efede4183c99aa7813b66a05bbc0be819f48240f9f42e9cdfb73", func := "loop.example/g00952/laws.FnExactWorstClass", spec := "fnExactWorstClass", apart := false }
def FnExactWorstClassSaid : Prop := fnExactWorstClassRow.holds Try.pinned (OpenSpec.ofChange fnExactWorstClassSpec)

/-- ITS FALSE NEIGHBOUR: 'it returns false'. Refute it at one input. -/
def fnExactWorstClassWrong : ChangeSpec := { name := "fnExactWorstClass", fn := fun _ => fun
  | [d] => { results := [.lit (.bool false)], args := [d] }
  | _ => none }
def FnExactWorstClassWrongFalsely : Prop := fnExactWorstClassRow.holds Try.pinned (OpenSpec.ofChange fnExactWorstClassWrong)

/-- 'laws.FnExactTinOf': WHATEVER THE INPUT: true; the input reads as it did. -/
def fnExactTinOfSpec : ChangeSpec := { name := "fnExactTinOf", fn := fun _ => fun
  | [d] => { results := [.lit (.bool true)], args := [d] }
  | _ => none }
def fnExactTinOfRow : OpenClaim := { program := "ytkfpoabgbailjaa", sum := "15ad66227020efede4183c99aa7813b66a05bbc0be819f48240f9f42e9cdfb73", func := "loop.example/g00952/laws.FnExactTinOf", spec := "fnExactTinOf", apart := false }
def FnExactTinOfSaid : Prop := fnExactTinOfRow.holds Try.pinned (OpenSpec.ofChange fnExactTinOfSpec)

/-- ITS FALSE NEIGHBOUR: 'it returns false'. Refute it at one input. -/
def fnExactTinOfWrong : ChangeSpec := { name := "fnExactTinOf", fn := fun _ => fun
  | [d] => { results := [.lit (.bool false)], args := [d] }
  | _ => none }
def FnExactTinOfWrongFalsely : Prop := fnExactTinOfRow.holds Try.pinned (OpenSpec.ofChange fnExactTinOfWrong)

/-- 'laws.FnExactValidHoles': WHATEVER THE INPUT: true; the input reads as it did. -/
def fnExactValidHolesSpec : ChangeSpec := { name := "fnExactValidHoles", fn := fun _ => fun
  | [d] => { results := [.lit (.bool true)], args := [d] }
  | _ => none }
def fnExactValidHolesRow : OpenClaim := { program := "ytkfpoabgbailjaa", sum := "15ad66227020efede4183c99aa7813b66a05bbc0be819f48240f9f42e9cdfb73", func := "loop.example/g00952/laws.FnExactValidHoles", spec := "fnExactValidHoles", apart := false }
def FnExactValidHolesSaid : Prop := fnExactValidHolesRow.holds Try.pinned (OpenSpec.ofChange fnExactValidHolesSpec)

/-- ITS FALSE NEIGHBOUR: 'it returns false'. Refute it at one input. -/
def fnExactValidHolesWrong : ChangeSpec := { name := "fnExactValidHoles", fn := fun _ => fun
  | [d] => { results := [.lit (.bool false)], args := [d] }
  | _ => none }
def FnExactValidHolesWrongFalsely : Prop := fnExactValidHolesRow.holds Try.pinned (OpenSpec.ofChange fnExactValidHolesWrong)

/-- 'laws.FnExactValidMelt': WHATEVER THE INPUT: true; the input reads as it did. -/
def fnExactValidMeltSpec : ChangeSpec := { name := "fnExactValidMelt", fn := fun _ => fun
  | [d] => { results := [.lit (.bool true)], args := [d] }
  | _ => none }
def fnExactValidMeltRow : OpenClaim := { program := "ytkfpoabgbailjaa", sum := "15ad66227020efede4183c99aa7813b66a05bbc0be819f48240f9f42e9cdfb73", func := "loop.example/g00952/laws.FnExactValidMelt", spec := "fnExactValidMelt", apart := false }
def FnExactValidMeltSaid : Prop := fnExactValidMeltRow.holds Try.pinned (OpenSpec.ofChange fnExactValidMeltSpec)

/-- ITS FALSE NEIGHBOUR: 'it returns false'. Refute it at one input. -/
def fnExactValidMeltWrong : ChangeSpec := { name := "fnExactValidMelt", fn := fun _ => fun
  | [d] => { results := [.lit (.bool false)], args := [d] }
  | _ => none }
def FnExactValidMeltWrongFalsely : Prop := fnExactValidMeltRow.holds Try.pinned (OpenSpec.ofChange fnExactValidMeltWrong)

/-- 'laws.FnExactValidMeasures': WHATEVER THE INPUT: true; the input reads as it did. -/
def fnExactValidMeasuresSpec : ChangeSpec := { name := "fnExactValidMeasures", fn := fun _ => fun
  | [d] => { results := [.lit (.bool true)], args := [d] }
  | _ => none }
def fnExactValidMeasuresRow : OpenClaim := { program := "ytkfpoabgbailjaa", sum := "15ad66227020efede4183c99aa7813b66a05bbc0be819f48240f9f42e9cdfb73", func := "loop.example/g00952/laws.FnExactValidMeasures", spec := "fnExactValidMeasures", unfollowed := true, recurses := true, apart := false }
def FnExactValidMeasuresSaid : Prop := fnExactValidMeasuresRow.holds Try.pinned (OpenSpec.ofChange fnExactValidMeasuresSpec)

/-- ITS FALSE NEIGHBOUR: 'it returns false'. Refute it at one input. -/
def fnExactValidMeasuresWrong : ChangeSpec := { name := "fnExactValidMeasures", fn := fun _ => fun
  | [d] => { results := [.lit (.bool false)], args := [d] }
  | _ => none }
def FnExactValidMeasuresWrongFalsely : Prop := fnExactValidMeasuresRow.holds Try.pinned (OpenSpec.ofChange fnExactValidMeasuresWrong)

/-- 'laws.FnExactValidIngots': WHATEVER THE INPUT: true; the input reads as it did. -/
def fnExactValidIngotsSpec : ChangeSpec := { name := "fnExactValidIngots", fn := fun _ => fun
  | [d] => { results := [.lit (.bool true)], args := [d] }
  | _ => none }
def fnExactValidIngotsRow : OpenClaim := { program := "ytkfpoabgbailjaa", sum := "15ad66227020efede4183c99aa7813b66a05bbc0be819f48240f9f42e9cdfb73", func := "loop.example/g00952/laws.FnExactValidIngots", spec := "fnExactValidIngots", apart := false }
def FnExactValidIngotsSaid : Prop := fnExactValidIngotsRow.holds Try.pinned (OpenSpec.ofChange fnExactValidIngotsSpec)

/-- ITS FALSE NEIGHBOUR: 'it returns false'. Refute it at one input. -/
def fnExactValidIngotsWrong : ChangeSpec := { name := "fnExactValidIngots", fn := fun _ => fun
  | [d] => { results := [.lit (.bool false)], args := [d] }
  | _ => none }
def FnExactValidIngotsWrongFalsely : Prop := fnExactValidIngotsRow.holds Try.pinned (OpenSpec.ofChange fnExactValidIngotsWrong)

/- THE SECOND FORM. 'bulk': how many values and letters a reading holds, each counted each time it is reached (what is shared counts as often as it is met; a slice's spare places count too). A statement '..UptoSaid' is the law's where the arguments, and the package variables that the reading takes, are together of bulk at most 1048576: NARROWER than '..Said'. Prove '..Said' where nothing that the law and all that it calls make is longer than what came in: it says more and counts as full. Else prove '..UptoSaid'. A law counts once. -/
mutual
def uptoBulk {H : Type} : DataW H → Nat
  | .lit (.string bytes) => bytes.length + 1
  | .lit _ => 1
  | .nil => 1
  | .ptr d => uptoBulk d + 1
  | .slice elems spare => uptoBulkAll elems + uptoBulkAll spare + 1
  | .agg parts => uptoBulkAll parts + 1
  | .iface _ d => uptoBulk d + 1
  | .map entries => uptoBulkEntries entries + 1
  | .held _ => 1
def uptoBulkAll {H : Type} : List (DataW H) → Nat
  | [] => 0
  | d :: r => uptoBulk d + uptoBulkAll r
def uptoBulkEntries {H : Type} : List (Lit × DataW H) → Nat
  | [] => 0
  | x :: r => uptoBulkEntry x + uptoBulkEntries r
def uptoBulkEntry {H : Type} : Lit × DataW H → Nat
  | (.string bytes, d) => bytes.length + uptoBulk d + 1
  | (_, d) => uptoBulk d + 1
 end
def uptoSmall : (H : Type) → List (DataW H) → Bool := fun _ ds => decide (uptoBulkAll ds ≤ 1048576)
def OpenSpec.upto (s : _root_.Go.ChangeSpec) : _root_.Go.OpenSpec := { _root_.Go.OpenSpec.ofChange s with cond := some uptoSmall }

/-- 'laws.FnExactCountPlaced', WHERE WHAT IT READS IS OF BULK AT MOST 1048576: true; the input reads as it did. -/
def fnExactCountPlacedUptoRow : OpenClaim := { program := "ytkfpoabgbailjaa", sum := "15ad66227020efede4183c99aa7813b66a05bbc0be819f48240f9f42e9cdfb73", func := "loop.example/g00952/laws.FnExactCountPlaced", spec := "fnExactCountPlaced", apart := false, narrowed := true }
def FnExactCountPlacedUptoSaid : Prop := fnExactCountPlacedUptoRow.holds Try.pinned (OpenSpec.upto fnExactCountPlacedSpec)

/-- 'laws.FnExactWarbleBeat', WHERE WHAT IT READS IS OF BULK AT MOST 1048576: true; the input reads as it did. -/
def fnExactWarbleBeatUptoRow : OpenClaim := { program := "ytkfpoabgbailjaa", sum := "15ad66227020efede4183c99aa7813b66a05bbc0be819f48240f9f42e9cdfb73", func := "loop.example/g00952/laws.FnExactWarbleBeat", spec := "fnExactWarbleBeat", apart := false, narrowed := true }
def FnExactWarbleBeatUptoSaid : Prop := fnExactWarbleBeatUptoRow.holds Try.pinned (OpenSpec.upto fnExactWarbleBeatSpec)

/-- 'laws.FnExactDryingTime', WHERE WHAT IT READS IS OF BULK AT MOST 1048576: true; the input reads as it did. -/
def fnExactDryingTimeUptoRow : OpenClaim := { program := "ytkfpoabgbailjaa", sum := "15ad66227020efede4183c99aa7813b66a05bbc0be819f48240f9f42e9cdfb73", func := "loop.example/g00952/laws.FnExactDryingTime", spec := "fnExactDryingTime", apart := false, narrowed := true }
def FnExactDryingTimeUptoSaid : Prop := fnExactDryingTimeUptoRow.holds Try.pinned (OpenSpec.upto fnExactDryingTimeSpec)

/-- 'laws.FnExactDensityOf', WHERE WHAT IT READS IS OF BULK AT MOST 1048576: true; the input reads as it did. -/
def fnExactDensityOfUptoRow : OpenClaim := { program := "ytkfpoabgbailjaa", sum := "15ad66227020efede4183c99aa7813b66a05bbc0be819f48240f9f42e9cdfb73", func := "loop.example/g00952/laws.FnExactDensityOf", spec := "fnExactDensityOf", apart := false, narrowed := true }
def FnExactDensityOfUptoSaid : Prop := fnExactDensityOfUptoRow.holds Try.pinned (OpenSpec.upto fnExactDensityOfSpec)

/-- 'laws.FnExactSameSpots', WHERE WHAT IT READS IS OF BULK AT MOST 1048576: true; the input reads as it did. -/
def fnExactSameSpotsUptoRow : OpenClaim := { program := "ytkfpoabgbailjaa", sum := "15ad66227020efede4183c99aa7813b66a05bbc0be819f48240f9f42e9cdfb73", func := "loop.example/g00952/laws.FnExactSameSpots", spec := "fnExactSameSpots", apart := false, narrowed := true }
def FnExactSameSpotsUptoSaid : Prop := fnExactSameSpotsUptoRow.holds Try.pinned (OpenSpec.upto fnExactSameSpotsSpec)

/-- 'laws.FnExactValidSpots', WHERE WHAT IT READS IS OF BULK AT MOST 1048576: true; the input reads as it did. -/
def fnExactValidSpotsUptoRow : OpenClaim := { program := "ytkfpoabgbailjaa", sum := "15ad66227020efede4183c99aa7813b66a05bbc0be819f48240f9f42e9cdfb73", func := "loop.example/g00952/laws.FnExactValidSpots", spec := "fnExactValidSpots", apart := false, narrowed := true }
def FnExactValidSpotsUptoSaid : Prop := fnExactValidSpotsUptoRow.holds Try.pinned (OpenSpec.upto fnExactValidSpotsSpec)

/-- 'laws.FnExactWorstClass', WHERE WHAT IT READS IS OF BULK AT MOST 1048576: true; the input reads as it did. -/
def fnExactWorstClassUptoRow : OpenClaim := { program := "ytkfpoabgbailjaa", sum := "15ad66227020efede4183c99aa7813b66a05bbc0be819f48240f9f42e9cdfb73", func := "loop.example/g00952/laws.FnExactWorstClass", spec := "fnExactWorstClass", apart := false, narrowed := true }
def FnExactWorstClassUptoSaid : Prop := fnExactWorstClassUptoRow.holds Try.pinned (OpenSpec.upto fnExactWorstClassSpec)

/-- 'laws.FnExactTinOf', WHERE WHAT IT READS IS OF BULK AT MOST 1048576: true; the input reads as it did. -/
def fnExactTinOfUptoRow : OpenClaim := { program := "ytkfpoabgbailjaa", sum := "15ad66227020efede4183c99aa7813b66a05bbc0be819f48240f9f42e9cdfb73", func := "loop.example/g00952/laws.FnExactTinOf", spec := "fnExactTinOf", apart := false, narrowed := true }
def FnExactTinOfUptoSaid : Prop := fnExactTinOfUptoRow.holds Try.pinned (OpenSpec.upto fnExactTinOfSpec)

/-- 'laws.FnExactValidHoles', WHERE WHAT IT READS IS OF BULK AT MOST 1048576: true; the input reads as it did. -/
def fnExactValidHolesUptoRow : OpenClaim := { program := "ytkfpoabgbailjaa", sum := "15ad66227020efede4183c99aa7813b66a05bbc0be819f48240f9f42e9cdfb73", func := "loop.example/g00952/laws.FnExactValidHoles", spec := "fnExactValidHoles", apart := false, narrowed := true }
def FnExactValidHolesUptoSaid : Prop := fnExactValidHolesUptoRow.holds Try.pinned (OpenSpec.upto fnExactValidHolesSpec)

/-- 'laws.FnExactValidMelt', WHERE WHAT IT READS IS OF BULK AT MOST 1048576: true; the input reads as it did. -/
def fnExactValidMeltUptoRow : OpenClaim := { program := "ytkfpoabgbailjaa", sum := "15ad66227020efede4183c99aa7813b66a05bbc0be819f48240f9f42e9cdfb73", func := "loop.example/g00952/laws.FnExactValidMelt", spec := "fnExactValidMelt", apart := false, narrowed := true }
def FnExactValidMeltUptoSaid : Prop := fnExactValidMeltUptoRow.holds Try.pinned (OpenSpec.upto fnExactValidMeltSpec)

/-- 'laws.FnExactValidMeasures', WHERE WHAT IT READS IS OF BULK AT MOST 1048576: true; the input reads as it did. -/
def fnExactValidMeasuresUptoRow : OpenClaim := { program := "ytkfpoabgbailjaa", sum := "15ad66227020efede4183c99aa7813b66a05bbc0be819f48240f9f42e9cdfb73", func := "loop.example/g00952/laws.FnExactValidMeasures", spec := "fnExactValidMeasures", unfollowed := true, recurses := true, apart := false, narrowed := true }
def FnExactValidMeasuresUptoSaid : Prop := fnExactValidMeasuresUptoRow.holds Try.pinned (OpenSpec.upto fnExactValidMeasuresSpec)

/-- 'laws.FnExactValidIngots', WHERE WHAT IT READS IS OF BULK AT MOST 1048576: true; the input reads as it did. -/
def fnExactValidIngotsUptoRow : OpenClaim := { program := "ytkfpoabgbailjaa", sum := "15ad66227020efede4183c99aa7813b66a05bbc0be819f48240f9f42e9cdfb73", func := "loop.example/g00952/laws.FnExactValidIngots", spec := "fnExactValidIngots", apart := false, narrowed := true }
def FnExactValidIngotsUptoSaid : Prop := fnExactValidIngotsUptoRow.holds Try.pinned (OpenSpec.upto fnExactValidIngotsSpec)

end Rows
end Go.Proofs.Ytkfpoabgbailjaa
