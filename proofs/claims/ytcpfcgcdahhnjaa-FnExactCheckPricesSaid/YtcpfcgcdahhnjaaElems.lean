/- The element types whose slices are made and appended to. -/
import Derived.Test.YtcpfcgcdahhnjaaBase
import Derived.Test.YtcpfcgcdahhnjaaRows
namespace Go.Proofs.Ytcpfcgcdahhnjaa
set_option linter.unusedVariables false
set_option linter.unusedSimpArgs false
open Go.ChangeShapes Go.WideShapes Go.ChangeAt Go.RowKit Go.Deep
theorem Try.elInt : ElemOk Try.prog 26 3 (.int .i64 0) 1 8 := ⟨Try.underlying26, by kernel_rfl, rfl, by decide⟩
theorem Try.elBool : ElemOk Try.prog 141 4 (.bool false) 1 1 := ⟨Try.underlying141, by kernel_rfl, rfl, by decide⟩
theorem Try.elStr : ElemOk Try.prog 60 9 (.string ByteArray.empty) 1 16 := ⟨Try.underlying60, by kernel_rfl, rfl, by decide⟩
end Go.Proofs.Ytcpfcgcdahhnjaa
