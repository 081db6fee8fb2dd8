/- The element types whose slices are made and appended to. -/
import Derived.Test.YtoheahbkopbmhaaDoorBase
import Derived.Test.YtoheahbkopbmhaaDoorRows
namespace Go.Proofs.YtoheahbkopbmhaaDoor
set_option linter.unusedVariables false
set_option linter.unusedSimpArgs false
open Go.ChangeShapes Go.WideShapes Go.ChangeAt Go.RowKit Go.Deep
theorem Tryd.elStr : ElemOk Tryd.prog 22 9 (.string ByteArray.empty) 1 16 := ⟨Tryd.underlying22, by kernel_rfl, rfl, by decide⟩
end Go.Proofs.YtoheahbkopbmhaaDoor
