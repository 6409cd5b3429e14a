/- eqAlloy. -/
import Derived.Test.YtmkemjfbmnnflaaDoorRows
import Derived.Test.YtmkemjfbmnnflaaDoorAlloy
namespace Go.Proofs.YtmkemjfbmnnflaaDoor
open Go.ChangeShapes Go.WideShapes Go.ChangeAt Go.RowKit Go.Deep Go.Joins
set_option linter.unusedVariables false
set_option maxRecDepth 100000
set_option linter.unusedSimpArgs false

end Go.Proofs.YtmkemjfbmnnflaaDoor
