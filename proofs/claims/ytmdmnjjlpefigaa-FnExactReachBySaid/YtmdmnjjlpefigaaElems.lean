/- The element types whose slices are made and appended to. -/
import Derived.Test.YtmdmnjjlpefigaaBase
import Derived.Test.YtmdmnjjlpefigaaRows
namespace Go.Proofs.Ytmdmnjjlpefigaa
set_option linter.unusedVariables false
set_option linter.unusedSimpArgs false
open Go.ChangeShapes Go.WideShapes Go.ChangeAt Go.RowKit Go.Deep
theorem Try.elInt : ElemOk Try.prog 103 3 (.int .i64 0) 1 8 := ⟨Try.underlying103, by kernel_rfl, rfl, by decide⟩
theorem Try.elBool : ElemOk Try.prog 48 4 (.bool false) 1 1 := ⟨Try.underlying48, by kernel_rfl, rfl, by decide⟩
theorem Try.elStr : ElemOk Try.prog 22 9 (.string ByteArray.empty) 1 16 := ⟨Try.underlying22, by kernel_rfl, rfl, by decide⟩
end Go.Proofs.Ytmdmnjjlpefigaa
