/- The walks through the smallest functions. -/
import Derived.Test.YtmdmnjjlpefigaaRows
import Derived.Test.YtmdmnjjlpefigaaP21
namespace Go.Proofs.Ytmdmnjjlpefigaa
set_option linter.unusedVariables false
set_option linter.unusedSimpArgs false
open Go.ChangeShapes Go.WideShapes Go.ChangeAt Go.RowKit Go.Deep

theorem impl_within (n a b : Int) (w : World) :
    Calls Try.prog 73 #[.int .i64 n, .int .i64 a, .int .i64 b] w fun e w' => e = .returned (.bool (inB n a b)) ∧ w = w' := by
  by_cases h : a ≤ n
  all_goals
    go_in
    go_wp2
    all_goals go_ret
    all_goals (refine ⟨?_, rfl⟩; simp only [inB]; simp_all <;> omega)
theorem spec_l1In (n a b : Int) (w : World) :
    Calls Try.prog 70 #[.int .i64 n, .int .i64 a, .int .i64 b] w fun e w' => e = .returned (.bool (inB n a b)) ∧ w = w' := by
  by_cases h : a ≤ n
  all_goals
    go_in
    go_wp2
    all_goals go_ret
    all_goals (refine ⟨?_, rfl⟩; simp only [inB]; simp_all <;> omega)

theorem impl_isStage (n : Int) (w : World) :
    Calls Try.prog 115 #[.int .i64 n] w fun e w' => e = .returned (.bool (inB n 3 8)) ∧ w = w' := by
  by_cases h : 3 ≤ n
  all_goals
    go_in
    go_wp2
    all_goals go_ret
    all_goals (refine ⟨?_, rfl⟩; simp only [inB]; simp_all <;> omega)

end Go.Proofs.Ytmdmnjjlpefigaa
