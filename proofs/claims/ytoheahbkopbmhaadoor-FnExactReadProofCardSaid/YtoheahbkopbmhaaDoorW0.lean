/- The walks through the smallest functions. -/
import Derived.Test.YtoheahbkopbmhaaDoorRows
import Derived.Test.YtoheahbkopbmhaaDoorP21
namespace Go.Proofs.YtoheahbkopbmhaaDoor
set_option linter.unusedVariables false
set_option linter.unusedSimpArgs false
open Go.ChangeShapes Go.WideShapes Go.ChangeAt Go.RowKit Go.Deep

theorem impl_within (n a b : Int) (w : World) :
    Calls Tryd.prog 32 #[.int .i64 n, .int .i64 a, .int .i64 b] w fun e w' => e = .returned (.bool (inB n a b)) ∧ w = w' := by
  by_cases h : a ≤ n
  all_goals
    go_in
    go_wp2
    all_goals go_ret
    all_goals (refine ⟨?_, rfl⟩; simp only [inB]; simp_all <;> omega)
theorem spec_l1In (n a b : Int) (w : World) :
    Calls Tryd.prog 26 #[.int .i64 n, .int .i64 a, .int .i64 b] w fun e w' => e = .returned (.bool (inB n a b)) ∧ w = w' := by
  by_cases h : a ≤ n
  all_goals
    go_in
    go_wp2
    all_goals go_ret
    all_goals (refine ⟨?_, rfl⟩; simp only [inB]; simp_all <;> omega)


end Go.Proofs.YtoheahbkopbmhaaDoor
