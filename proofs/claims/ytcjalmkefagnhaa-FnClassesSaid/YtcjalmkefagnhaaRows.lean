/-
  No cell of these rows narrows 'for every input' (looked for: loops, veiled, ifaces, maps, wideKeys, modest, calm, conditions, laid).
  DERIVED. THE GIVEN ROWS OF THIS SEAT. 5 by the template 'for every input the law returns true; each argument reads behind the call as it read before'; 0 by the template 'total and deterministic' (their statements: YtcjalmkefagnhaaTotals.lean).
  GIVEN WITH THE SEED: the statements are not yours to turn. If you find one false, say at which input.
  Laid BY PROGRAM, IN A SANDBOX (cutbox-rows.mjs): the forced cells as the released guide's own fill.sh prints them over the translation 3200a9c5b428745e… (all of the seat's roots in one cut). By AI agents, Wed Nov 11 2026. No macro, syntax, notation, axiom, sorry.
-/
import Derived.Test.YtcjalmkefagnhaaChecked
import GoSem.Claim
import GoSem.ClaimJoined
import GoSem.ClaimMapViews
import Derived.JoinedTies
import Derived.KernelRfl
namespace Go.Proofs.Ytcjalmkefagnhaa
/- THE CELL 'sum', in the pinned program and in every row, IS THE sha256 OF THE DUMP (.gsa) THAT YtcjalmkefagnhaaProg.lean LOADS. Nothing in Lean hashes anything: it is a label: what it is worth is what the hold of that sum in a sandbox is worth. -/
noncomputable def Try.pinned : Pinned := { name := "ytcjalmkefagnhaa", sum := "3200a9c5b428745e671d766a29c64fc9a41718a6ccafd118758439bf2adf5277", checked := Try.checked }
namespace Rows
def none {H : Type} : Left H := { results := [], args := [] }

/-- 'laws.FnExactValidAlloy': WHATEVER THE INPUT: true; the input reads as it did. -/
def fnExactValidAlloySpec : ChangeSpec := { name := "fnExactValidAlloy", fn := fun _ => fun
  | [d] => { results := [.lit (.bool true)], args := [d] }
  | _ => none }
def fnExactValidAlloyRow : OpenClaim := { program := "ytcjalmkefagnhaa", sum := "3200a9c5b428745e671d766a29c64fc9a41718a6ccafd118758439bf2adf5277", func := "loop.example/g00952/laws.FnExactValidAlloy", spec := "fnExactValidAlloy", apart := false }
def FnExactValidAlloySaid : Prop := fnExactValidAlloyRow.holds Try.pinned (OpenSpec.ofChange fnExactValidAlloySpec)

/-- ITS FALSE NEIGHBOUR: 'it returns false'. Refute it at one input. -/
def fnExactValidAlloyWrong : ChangeSpec := { name := "fnExactValidAlloy", fn := fun _ => fun
  | [d] => { results := [.lit (.bool false)], args := [d] }
  | _ => none }
def FnExactValidAlloyWrongFalsely : Prop := fnExactValidAlloyRow.holds Try.pinned (OpenSpec.ofChange fnExactValidAlloyWrong)

/-- 'laws.FnExactValidDemand': WHATEVER THE INPUT: true; the input reads as it did. -/
def fnExactValidDemandSpec : ChangeSpec := { name := "fnExactValidDemand", fn := fun _ => fun
  | [d] => { results := [.lit (.bool true)], args := [d] }
  | _ => none }
def fnExactValidDemandRow : OpenClaim := { program := "ytcjalmkefagnhaa", sum := "3200a9c5b428745e671d766a29c64fc9a41718a6ccafd118758439bf2adf5277", func := "loop.example/g00952/laws.FnExactValidDemand", spec := "fnExactValidDemand", apart := false }
def FnExactValidDemandSaid : Prop := fnExactValidDemandRow.holds Try.pinned (OpenSpec.ofChange fnExactValidDemandSpec)

/-- ITS FALSE NEIGHBOUR: 'it returns false'. Refute it at one input. -/
def fnExactValidDemandWrong : ChangeSpec := { name := "fnExactValidDemand", fn := fun _ => fun
  | [d] => { results := [.lit (.bool false)], args := [d] }
  | _ => none }
def FnExactValidDemandWrongFalsely : Prop := fnExactValidDemandRow.holds Try.pinned (OpenSpec.ofChange fnExactValidDemandWrong)

/-- 'laws.FnExactClassOf': WHATEVER THE INPUT: true; the input reads as it did. -/
def fnExactClassOfSpec : ChangeSpec := { name := "fnExactClassOf", fn := fun _ => fun
  | [d] => { results := [.lit (.bool true)], args := [d] }
  | _ => none }
def fnExactClassOfRow : OpenClaim := { program := "ytcjalmkefagnhaa", sum := "3200a9c5b428745e671d766a29c64fc9a41718a6ccafd118758439bf2adf5277", func := "loop.example/g00952/laws.FnExactClassOf", spec := "fnExactClassOf", apart := false }
def FnExactClassOfSaid : Prop := fnExactClassOfRow.holds Try.pinned (OpenSpec.ofChange fnExactClassOfSpec)

/-- ITS FALSE NEIGHBOUR: 'it returns false'. Refute it at one input. -/
def fnExactClassOfWrong : ChangeSpec := { name := "fnExactClassOf", fn := fun _ => fun
  | [d] => { results := [.lit (.bool false)], args := [d] }
  | _ => none }
def FnExactClassOfWrongFalsely : Prop := fnExactClassOfRow.holds Try.pinned (OpenSpec.ofChange fnExactClassOfWrong)

/-- 'laws.FnExactLayersFor': WHATEVER THE INPUT: true; the input reads as it did. -/
def fnExactLayersForSpec : ChangeSpec := { name := "fnExactLayersFor", fn := fun _ => fun
  | [d1, d2] => { results := [.lit (.bool true)], args := [d1, d2] }
  | _ => none }
def fnExactLayersForRow : OpenClaim := { program := "ytcjalmkefagnhaa", sum := "3200a9c5b428745e671d766a29c64fc9a41718a6ccafd118758439bf2adf5277", func := "loop.example/g00952/laws.FnExactLayersFor", spec := "fnExactLayersFor", apart := false }
def FnExactLayersForSaid : Prop := fnExactLayersForRow.holds Try.pinned (OpenSpec.ofChange fnExactLayersForSpec)

/-- ITS FALSE NEIGHBOUR: 'it returns false'. Refute it at one input. -/
def fnExactLayersForWrong : ChangeSpec := { name := "fnExactLayersFor", fn := fun _ => fun
  | [d1, d2] => { results := [.lit (.bool false)], args := [d1, d2] }
  | _ => none }
def FnExactLayersForWrongFalsely : Prop := fnExactLayersForRow.holds Try.pinned (OpenSpec.ofChange fnExactLayersForWrong)

/-- 'laws.FnClasses': WHATEVER THE INPUT: true; the input reads as it did. -/
def fnClassesSpec : ChangeSpec := { name := "fnClasses", fn := fun _ => fun
  | [d] => { results := [.lit (.bool true)], args := [d] }
  | _ => none }
def fnClassesRow : OpenClaim := { program := "ytcjalmkefagnhaa", sum := "3200a9c5b428745e671d766a29c64fc9a41718a6ccafd118758439bf2adf5277", func := "loop.example/g00952/laws.FnClasses", spec := "fnClasses", apart := false }
def FnClassesSaid : Prop := fnClassesRow.holds Try.pinned (OpenSpec.ofChange fnClassesSpec)

/-- ITS FALSE NEIGHBOUR: 'it returns false'. Refute it at one input. -/
def fnClassesWrong : ChangeSpec := { name := "fnClasses", fn := fun _ => fun
  | [d] => { results := [.lit (.bool false)], args := [d] }
  | _ => none }
def FnClassesWrongFalsely : Prop := fnClassesRow.holds Try.pinned (OpenSpec.ofChange fnClassesWrong)

/- THE SECOND FORM. 'bulk': how many values and letters a reading holds, each counted each time it is reached (what is shared counts as often as it is met; a slice's spare places count too). A statement '..UptoSaid' is the law's where the arguments, and the package variables that the reading takes, are together of bulk at most 1048576: NARROWER than '..Said'. Prove '..Said' where nothing that the law and all that it calls make is longer than what came in: it says more and counts as full. Else prove '..UptoSaid'. A law counts once. -/
mutual
def uptoBulk {H : Type} : DataW H → Nat
  | .lit (.string bytes) => bytes.length + 1
  | .lit _ => 1
  | .nil => 1
  | .ptr d => uptoBulk d + 1
  | .slice elems spare => uptoBulkAll elems + uptoBulkAll spare + 1
  | .agg parts => uptoBulkAll parts + 1
  | .iface _ d => uptoBulk d + 1
  | .map entries => uptoBulkEntries entries + 1
  | .held _ => 1
def uptoBulkAll {H : Type} : List (DataW H) → Nat
  | [] => 0
  | d :: r => uptoBulk d + uptoBulkAll r
def uptoBulkEntries {H : Type} : List (Lit × DataW H) → Nat
  | [] => 0
  | x :: r => uptoBulkEntry x + uptoBulkEntries r
def uptoBulkEntry {H : Type} : Lit × DataW H → Nat
  | (.string bytes, d) => bytes.length + uptoBulk d + 1
  | (_, d) => uptoBulk d + 1
 end
def uptoSmall : (H : Type) → List (DataW H) → Bool := fun _ ds => decide (uptoBulkAll ds ≤ 1048576)
def OpenSpec.upto (s : _root_.Go.ChangeSpec) : _root_.Go.OpenSpec := { _root_.Go.OpenSpec.ofChange s with cond := some uptoSmall }

/-- 'laws.FnExactValidAlloy', WHERE WHAT IT READS IS OF BULK AT MOST 1048576: true; the input reads as it did. -/
def fnExactValidAlloyUptoRow : OpenClaim := { program := "ytcjalmkefagnhaa", sum := "3200a9c5b428745e671d766a29c64fc9a41718a6ccafd118758439bf2adf5277", func := "loop.example/g00952/laws.FnExactValidAlloy", spec := "fnExactValidAlloy", apart := false, narrowed := true }
def FnExactValidAlloyUptoSaid : Prop := fnExactValidAlloyUptoRow.holds Try.pinned (OpenSpec.upto fnExactValidAlloySpec)

/-- 'laws.FnExactValidDemand', WHERE WHAT IT READS IS OF BULK AT MOST 1048576: true; the input reads as it did. -/
def fnExactValidDemandUptoRow : OpenClaim := { program := "ytcjalmkefagnhaa", sum := "3200a9c5b428745e671d766a29c64fc9a41718a6ccafd118758439bf2adf5277", func := "loop.example/g00952/laws.FnExactValidDemand", spec := "fnExactValidDemand", apart := false, narrowed := true }
def FnExactValidDemandUptoSaid : Prop := fnExactValidDemandUptoRow.holds Try.pinned (OpenSpec.upto fnExactValidDemandSpec)

/-- 'laws.FnExactClassOf', WHERE WHAT IT READS IS OF BULK AT MOST 1048576: true; the input reads as it did. -/
def fnExactClassOfUptoRow : OpenClaim := { program := "ytcjalmkefagnhaa", sum := "3200a9c5b428745e671d766a29c64fc9a41718a6ccafd118758439bf2adf5277", func := "loop.example/g00952/laws.FnExactClassOf", spec := "fnExactClassOf", apart := false, narrowed := true }
def FnExactClassOfUptoSaid : Prop := fnExactClassOfUptoRow.holds Try.pinned (OpenSpec.upto fnExactClassOfSpec)

/-- 'laws.FnExactLayersFor', WHERE WHAT IT READS IS OF BULK AT MOST 1048576: true; the input reads as it did. -/
def fnExactLayersForUptoRow : OpenClaim := { program := "ytcjalmkefagnhaa", sum := "3200a9c5b428745e671d766a29c64fc9a41718a6ccafd118758439bf2adf5277", func := "loop.example/g00952/laws.FnExactLayersFor", spec := "fnExactLayersFor", apart := false, narrowed := true }
def FnExactLayersForUptoSaid : Prop := fnExactLayersForUptoRow.holds Try.pinned (OpenSpec.upto fnExactLayersForSpec)

/-- 'laws.FnClasses', WHERE WHAT IT READS IS OF BULK AT MOST 1048576: true; the input reads as it did. -/
def fnClassesUptoRow : OpenClaim := { program := "ytcjalmkefagnhaa", sum := "3200a9c5b428745e671d766a29c64fc9a41718a6ccafd118758439bf2adf5277", func := "loop.example/g00952/laws.FnClasses", spec := "fnClasses", apart := false, narrowed := true }
def FnClassesUptoSaid : Prop := fnClassesUptoRow.holds Try.pinned (OpenSpec.upto fnClassesSpec)

end Rows
end Go.Proofs.Ytcjalmkefagnhaa
