/- The element types whose slices are made and appended to. -/
import Derived.Test.YtnfjneogmddfdaaBase
import Derived.Test.YtnfjneogmddfdaaRows
namespace Go.Proofs.Ytnfjneogmddfdaa
set_option linter.unusedVariables false
set_option linter.unusedSimpArgs false
open Go.ChangeShapes Go.WideShapes Go.ChangeAt Go.RowKit Go.Deep
theorem Try.elInt : ElemOk Try.prog 54 3 (.int .i64 0) 1 8 := ⟨Try.underlying54, by kernel_rfl, rfl, by decide⟩
theorem Try.elBool : ElemOk Try.prog 27 4 (.bool false) 1 1 := ⟨Try.underlying27, by kernel_rfl, rfl, by decide⟩
theorem Try.elStr : ElemOk Try.prog 25 9 (.string ByteArray.empty) 1 16 := ⟨Try.underlying25, by kernel_rfl, rfl, by decide⟩
end Go.Proofs.Ytnfjneogmddfdaa
