/- The element types whose slices are made and appended to. -/
import Derived.Test.YthffeljicohpdaaBase
import Derived.Test.YthffeljicohpdaaRows
namespace Go.Proofs.Ythffeljicohpdaa
set_option linter.unusedVariables false
set_option linter.unusedSimpArgs false
open Go.ChangeShapes Go.WideShapes Go.ChangeAt Go.RowKit Go.Deep
end Go.Proofs.Ythffeljicohpdaa
