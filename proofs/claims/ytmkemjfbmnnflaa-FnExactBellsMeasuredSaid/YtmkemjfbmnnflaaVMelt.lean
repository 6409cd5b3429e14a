/- What a melt is: both sides compute the same. -/
import Derived.Test.YtmkemjfbmnnflaaRows
import Derived.Test.YtmkemjfbmnnflaaHMelt
import Derived.Test.YtmkemjfbmnnflaaNameIs
import Derived.Test.YtmkemjfbmnnflaaSteps
import Derived.Test.YtmkemjfbmnnflaaIn
namespace Go.Proofs.Ytmkemjfbmnnflaa
open Go.ChangeShapes Go.WideShapes Go.ChangeAt Go.RowKit Go.Deep Go.Joins
set_option linter.unusedVariables false
set_option maxRecDepth 100000
set_option linter.unusedSimpArgs false
def ltName (y x : ByteArray) : Bool := Op.bytesLess y.toList x.toList
def meltB (x : Melt) : Bool := nameB x.id && (decide (1 ≤ x.ingots.length) && (decide (x.ingots.length ≤ 16) && (allK (stepB nameB ltName x.ingots) x.ingots.length && inB x.mass 1 320000000)))

theorem ltName_spec_f {y x : ByteArray} (h : ltName y x = false) : (!(Op.bytesLess y.toList x.toList)) = true := by
  unfold ltName at h; rw [h]; rfl
theorem ltName_spec_t {y x : ByteArray} (h : ltName y x = true) : (!(Op.bytesLess y.toList x.toList)) = false := by
  unfold ltName at h; rw [h]; rfl
theorem ltName_impl_f {y x : ByteArray} (h : ltName y x = false) : (Op.bytesLess x.toList y.toList || x.toList == y.toList) = true := by
  unfold ltName at h; rw [← not_less, h]; rfl
theorem ltName_impl_t {y x : ByteArray} (h : ltName y x = true) : (Op.bytesLess x.toList y.toList || x.toList == y.toList) = false := by
  unfold ltName at h; rw [← not_less, h]; rfl
end Go.Proofs.Ytmkemjfbmnnflaa
