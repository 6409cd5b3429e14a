/- One melt: toMelt, eqMelt, szMelt. -/
import Derived.Test.YtmkemjfbmnnflaaRows
import Derived.Test.YtmkemjfbmnnflaaHString
namespace Go.Proofs.Ytmkemjfbmnnflaa
open Go.ChangeShapes Go.WideShapes Go.ChangeAt Go.RowKit Go.Deep Go.Joins
set_option linter.unusedVariables false
set_option maxRecDepth 100000
set_option linter.unusedSimpArgs false
def Melt.val (x : Melt) : Value := .agg #[.string x.id, x.list, .int .i64 x.mass]
end Go.Proofs.Ytmkemjfbmnnflaa
