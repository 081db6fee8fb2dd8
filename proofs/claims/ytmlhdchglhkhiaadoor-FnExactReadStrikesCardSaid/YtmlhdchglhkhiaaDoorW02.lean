/- The walks through changes: which are good, which places stay, which swap. -/
import Derived.Test.YtmlhdchglhkhiaaDoorW0
import Derived.Test.YtmlhdchglhkhiaaDoorElems
import Derived.Test.YtmlhdchglhkhiaaDoorMore
import Derived.Test.YtmlhdchglhkhiaaDoorP02
namespace Go.Proofs.YtmlhdchglhkhiaaDoor
set_option linter.unusedVariables false
set_option linter.unusedSimpArgs false
open Go.ChangeShapes Go.WideShapes Go.ChangeAt Go.RowKit Go.Deep
end Go.Proofs.YtmlhdchglhkhiaaDoor
