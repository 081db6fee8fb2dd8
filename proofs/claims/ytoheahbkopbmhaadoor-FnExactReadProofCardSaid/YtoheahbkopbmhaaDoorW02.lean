/- The walks through changes: which are good, which places stay, which swap. -/
import Derived.Test.YtoheahbkopbmhaaDoorW0
import Derived.Test.YtoheahbkopbmhaaDoorElems
import Derived.Test.YtoheahbkopbmhaaDoorMore
import Derived.Test.YtoheahbkopbmhaaDoorP02
namespace Go.Proofs.YtoheahbkopbmhaaDoor
set_option linter.unusedVariables false
set_option linter.unusedSimpArgs false
open Go.ChangeShapes Go.WideShapes Go.ChangeAt Go.RowKit Go.Deep
end Go.Proofs.YtoheahbkopbmhaaDoor
