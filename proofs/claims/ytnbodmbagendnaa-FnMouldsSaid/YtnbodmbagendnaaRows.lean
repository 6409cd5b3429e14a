/-
  No cell of these rows narrows 'for every input' (looked for: loops, veiled, ifaces, maps, wideKeys, modest, calm, conditions, laid).
  DERIVED. THE GIVEN ROWS OF THIS SEAT. 4 by the template 'for every input the law returns true; each argument reads behind the call as it read before'; 0 by the template 'total and deterministic' (their statements: YtnbodmbagendnaaTotals.lean).
  GIVEN WITH THE SEED: the statements are not yours to turn. If you find one false, say at which input.
  Laid BY PROGRAM, IN A SANDBOX (cutbox-rows.mjs): the forced cells as the released guide's own fill.sh prints them over the translation 0fa0cca40ffd4438… (all of the seat's roots in one cut). By AI agents, Wed Nov 11 2026. No macro, syntax, notation, axiom, sorry.
-/
import Derived.Test.YtnbodmbagendnaaChecked
import GoSem.Claim
import GoSem.ClaimJoined
import GoSem.ClaimMapViews
import Derived.JoinedTies
import Derived.KernelRfl
namespace Go.Proofs.Ytnbodmbagendnaa
/- THE CELL 'sum', in the pinned program and in every row, IS THE sha256 OF THE DUMP (.gsa) THAT YtnbodmbagendnaaProg.lean LOADS. Nothing in Lean hashes anything: it is a label: what it is worth is what the hold of that sum in a sandbox is worth. -/
noncomputable def Try.pinned : Pinned := { name := "ytnbodmbagendnaa", sum := "0fa0cca40ffd4438ed09aa551424c8fe517ae10ae311436010e2a45cc17e65ec", checked := Try.checked }
namespace Rows
def none {H : Type} : Left H := { results := [], args := [] }

/-- 'laws.FnMoulds': WHATEVER THE INPUT: true; the input reads as it did. -/
def fnMouldsSpec : ChangeSpec := { name := "fnMoulds", fn := fun _ => fun
  | [d1, d2] => { results := [.lit (.bool true)], args := [d1, d2] }
  | _ => none }
def fnMouldsRow : OpenClaim := { program := "ytnbodmbagendnaa", sum := "0fa0cca40ffd4438ed09aa551424c8fe517ae10ae311436010e2a45cc17e65ec", func := "loop.example/g00952/laws.FnMoulds", spec := "fnMoulds", unfollowed := true, recurses := true, apart := false }
def FnMouldsSaid : Prop := fnMouldsRow.holds Try.pinned (OpenSpec.ofChange fnMouldsSpec)

/-- ITS FALSE NEIGHBOUR: 'it returns false'. Refute it at one input. -/
def fnMouldsWrong : ChangeSpec := { name := "fnMoulds", fn := fun _ => fun
  | [d1, d2] => { results := [.lit (.bool false)], args := [d1, d2] }
  | _ => none }
def FnMouldsWrongFalsely : Prop := fnMouldsRow.holds Try.pinned (OpenSpec.ofChange fnMouldsWrong)

/-- 'laws.FnPlacing': WHATEVER THE INPUT: true; the input reads as it did. -/
def fnPlacingSpec : ChangeSpec := { name := "fnPlacing", fn := fun _ => fun
  | [d1, d2] => { results := [.lit (.bool true)], args := [d1, d2] }
  | _ => none }
def fnPlacingRow : OpenClaim := { program := "ytnbodmbagendnaa", sum := "0fa0cca40ffd4438ed09aa551424c8fe517ae10ae311436010e2a45cc17e65ec", func := "loop.example/g00952/laws.FnPlacing", spec := "fnPlacing", unfollowed := true, recurses := true, apart := false }
def FnPlacingSaid : Prop := fnPlacingRow.holds Try.pinned (OpenSpec.ofChange fnPlacingSpec)

/-- ITS FALSE NEIGHBOUR: 'it returns false'. Refute it at one input. -/
def fnPlacingWrong : ChangeSpec := { name := "fnPlacing", fn := fun _ => fun
  | [d1, d2] => { results := [.lit (.bool false)], args := [d1, d2] }
  | _ => none }
def FnPlacingWrongFalsely : Prop := fnPlacingRow.holds Try.pinned (OpenSpec.ofChange fnPlacingWrong)

/-- 'laws.FnExactAddMelt': WHATEVER THE INPUT: true; the input reads as it did. -/
def fnExactAddMeltSpec : ChangeSpec := { name := "fnExactAddMelt", fn := fun _ => fun
  | [d1, d2, d3] => { results := [.lit (.bool true)], args := [d1, d2, d3] }
  | _ => none }
def fnExactAddMeltRow : OpenClaim := { program := "ytnbodmbagendnaa", sum := "0fa0cca40ffd4438ed09aa551424c8fe517ae10ae311436010e2a45cc17e65ec", func := "loop.example/g00952/laws.FnExactAddMelt", spec := "fnExactAddMelt", inPlace := ["slices.overlaps[loop.example/g00952/impl.Melt]"], unfollowed := true, recurses := true, apart := false }
def FnExactAddMeltSaid : Prop := fnExactAddMeltRow.holds Try.pinned (OpenSpec.ofChange fnExactAddMeltSpec)

/-- ITS FALSE NEIGHBOUR: 'it returns false'. Refute it at one input. -/
def fnExactAddMeltWrong : ChangeSpec := { name := "fnExactAddMelt", fn := fun _ => fun
  | [d1, d2, d3] => { results := [.lit (.bool false)], args := [d1, d2, d3] }
  | _ => none }
def FnExactAddMeltWrongFalsely : Prop := fnExactAddMeltRow.holds Try.pinned (OpenSpec.ofChange fnExactAddMeltWrong)

/-- 'laws.FnMetal': WHATEVER THE INPUT: true; the input reads as it did. -/
def fnMetalSpec : ChangeSpec := { name := "fnMetal", fn := fun _ => fun
  | [d] => { results := [.lit (.bool true)], args := [d] }
  | _ => none }
def fnMetalRow : OpenClaim := { program := "ytnbodmbagendnaa", sum := "0fa0cca40ffd4438ed09aa551424c8fe517ae10ae311436010e2a45cc17e65ec", func := "loop.example/g00952/laws.FnMetal", spec := "fnMetal", unfollowed := true, recurses := true, apart := false }
def FnMetalSaid : Prop := fnMetalRow.holds Try.pinned (OpenSpec.ofChange fnMetalSpec)

/-- ITS FALSE NEIGHBOUR: 'it returns false'. Refute it at one input. -/
def fnMetalWrong : ChangeSpec := { name := "fnMetal", fn := fun _ => fun
  | [d] => { results := [.lit (.bool false)], args := [d] }
  | _ => none }
def FnMetalWrongFalsely : Prop := fnMetalRow.holds Try.pinned (OpenSpec.ofChange fnMetalWrong)

/- THE SECOND FORM. 'bulk': how many values and letters a reading holds, each counted each time it is reached (what is shared counts as often as it is met; a slice's spare places count too). A statement '..UptoSaid' is the law's where the arguments, and the package variables that the reading takes, are together of bulk at most 1048576: NARROWER than '..Said'. Prove '..Said' where nothing that the law and all that it calls make is longer than what came in: it says more and counts as full. Else prove '..UptoSaid'. A law counts once. -/
mutual
def uptoBulk {H : Type} : DataW H → Nat
  | .lit (.string bytes) => bytes.length + 1
  | .lit _ => 1
  | .nil => 1
  | .ptr d => uptoBulk d + 1
  | .slice elems spare => uptoBulkAll elems + uptoBulkAll spare + 1
  | .agg parts => uptoBulkAll parts + 1
  | .iface _ d => uptoBulk d + 1
  | .map entries => uptoBulkEntries entries + 1
  | .held _ => 1
def uptoBulkAll {H : Type} : List (DataW H) → Nat
  | [] => 0
  | d :: r => uptoBulk d + uptoBulkAll r
def uptoBulkEntries {H : Type} : List (Lit × DataW H) → Nat
  | [] => 0
  | x :: r => uptoBulkEntry x + uptoBulkEntries r
def uptoBulkEntry {H : Type} : Lit × DataW H → Nat
  | (.string bytes, d) => bytes.length + uptoBulk d + 1
  | (_, d) => uptoBulk d + 1
 end
def uptoSmall : (H : Type) → List (DataW H) → Bool := fun _ ds => decide (uptoBulkAll ds ≤ 1048576)
def OpenSpec.upto (s : _root_.Go.ChangeSpec) : _root_.Go.OpenSpec := { _root_.Go.OpenSpec.ofChange s with cond := some uptoSmall }

/-- 'laws.FnMoulds', WHERE WHAT IT READS IS OF BULK AT MOST 1048576: true; the input reads as it did. -/
def fnMouldsUptoRow : OpenClaim := { program := "ytnbodmbagendnaa", sum := "0fa0cca40ffd4438ed09aa551424c8fe517ae10ae311436010e2a45cc17e65ec", func := "loop.example/g00952/laws.FnMoulds", spec := "fnMoulds", unfollowed := true, recurses := true, apart := false, narrowed := true }
def FnMouldsUptoSaid : Prop := fnMouldsUptoRow.holds Try.pinned (OpenSpec.upto fnMouldsSpec)

/-- 'laws.FnPlacing', WHERE WHAT IT READS IS OF BULK AT MOST 1048576: true; the input reads as it did. -/
def fnPlacingUptoRow : OpenClaim := { program := "ytnbodmbagendnaa", sum := "0fa0cca40ffd4438ed09aa551424c8fe517ae10ae311436010e2a45cc17e65ec", func := "loop.example/g00952/laws.FnPlacing", spec := "fnPlacing", unfollowed := true, recurses := true, apart := false, narrowed := true }
def FnPlacingUptoSaid : Prop := fnPlacingUptoRow.holds Try.pinned (OpenSpec.upto fnPlacingSpec)

/-- 'laws.FnExactAddMelt', WHERE WHAT IT READS IS OF BULK AT MOST 1048576: true; the input reads as it did. -/
def fnExactAddMeltUptoRow : OpenClaim := { program := "ytnbodmbagendnaa", sum := "0fa0cca40ffd4438ed09aa551424c8fe517ae10ae311436010e2a45cc17e65ec", func := "loop.example/g00952/laws.FnExactAddMelt", spec := "fnExactAddMelt", inPlace := ["slices.overlaps[loop.example/g00952/impl.Melt]"], unfollowed := true, recurses := true, apart := false, narrowed := true }
def FnExactAddMeltUptoSaid : Prop := fnExactAddMeltUptoRow.holds Try.pinned (OpenSpec.upto fnExactAddMeltSpec)

/-- 'laws.FnMetal', WHERE WHAT IT READS IS OF BULK AT MOST 1048576: true; the input reads as it did. -/
def fnMetalUptoRow : OpenClaim := { program := "ytnbodmbagendnaa", sum := "0fa0cca40ffd4438ed09aa551424c8fe517ae10ae311436010e2a45cc17e65ec", func := "loop.example/g00952/laws.FnMetal", spec := "fnMetal", unfollowed := true, recurses := true, apart := false, narrowed := true }
def FnMetalUptoSaid : Prop := fnMetalUptoRow.holds Try.pinned (OpenSpec.upto fnMetalSpec)

end Rows
end Go.Proofs.Ytnbodmbagendnaa
