/- The element types whose slices are made and appended to. -/
import Derived.Test.YtdnbdnfoogjcmaaBase
import Derived.Test.YtdnbdnfoogjcmaaRows
namespace Go.Proofs.Ytdnbdnfoogjcmaa
set_option linter.unusedVariables false
set_option linter.unusedSimpArgs false
open Go.ChangeShapes Go.WideShapes Go.ChangeAt Go.RowKit Go.Deep
theorem Try.elInt : ElemOk Try.prog 24 3 (.int .i64 0) 1 8 := ⟨Try.underlying24, by kernel_rfl, rfl, by decide⟩
theorem Try.elBool : ElemOk Try.prog 80 4 (.bool false) 1 1 := ⟨Try.underlying80, by kernel_rfl, rfl, by decide⟩
theorem Try.elStr : ElemOk Try.prog 57 9 (.string ByteArray.empty) 1 16 := ⟨Try.underlying57, by kernel_rfl, rfl, by decide⟩
end Go.Proofs.Ytdnbdnfoogjcmaa
