/- The walks through truth: no row twice, both sides' ways. -/
import Derived.Test.YthffeljicohpdaaP6s
import Derived.Test.YthffeljicohpdaaSet
import Derived.Test.YthffeljicohpdaaElems
namespace Go.Proofs.Ythffeljicohpdaa
set_option linter.unusedVariables false
set_option linter.unusedSimpArgs false
open Go.ChangeShapes Go.WideShapes Go.ChangeAt Go.RowKit Go.Deep
open Go.Maps (Keyed string_keyed)
open Go.WideMaps (keyOf_string_mk)
def strV (s : ByteArray) : Value := .string s
theorem strV_mem {s : ByteArray} {l : List ByteArray} : strV s ∈ l.map strV ↔ s ∈ l := by
  rw [List.mem_map]
  constructor
  · rintro ⟨x, hx, e⟩
    injection e with e
    subst e; exact hx
  · intro h; exact ⟨s, h, rfl⟩
end Go.Proofs.Ythffeljicohpdaa
