/- The walk through FnExactChangeSign. -/
import Derived.Test.YtnfjneogmddfdaaW02s
namespace Go.Proofs.Ytnfjneogmddfdaa
set_option linter.unusedVariables false
set_option linter.unusedSimpArgs false
open Go.ChangeShapes Go.WideShapes Go.ChangeAt Go.RowKit Go.Deep
theorem law_ChangeSign (x0 : Int) (s1 : ByteArray) (w : World) (hx0 : -9223372036854775808 ≤ x0 ∧ x0 ≤ 9223372036854775807) (hs1 : s1.size ≤ maxLen) :
    Calls Try.prog 3 #[.int .i64 x0, .string s1] w fun e w' => e = .returned (.bool true) ∧ Below w.heap.size w w' := by
  by_cases hz : (s1.size : Int) ≤ 1048576
  · have hz1 : s1.size ≤ 16777216 := by omega
    go_in
    go_wp2_with fail
    refine (spec_ChangeSign hz1 hx0).mono ?_; rintro e w1 ⟨rfl, hb1⟩
    go_wp2_with fail
    refine (impl_ChangeSign hz1).mono ?_; rintro e w2 ⟨rfl, hb2⟩
    go_wp2
    go_ret
    exact ⟨rfl, below_go hb1 hb2⟩
  · have hz1 : (1048576 : Int) < (s1.size : Int) := by omega
    go_in
    go_wp2
    go_ret
    exact ⟨rfl, Below.refl _ _⟩
end Go.Proofs.Ytnfjneogmddfdaa
