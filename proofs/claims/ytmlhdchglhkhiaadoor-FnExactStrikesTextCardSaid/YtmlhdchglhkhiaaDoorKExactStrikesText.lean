/- The walk through FnExactStrikesText: both sides give the same, the argument is left alone. -/
import Derived.Test.YtmlhdchglhkhiaaDoorW21t
import Derived.Test.YtmlhdchglhkhiaaDoorTabs
import Derived.Test.YtmlhdchglhkhiaaDoorCstrike
namespace Go.Proofs.YtmlhdchglhkhiaaDoor
set_option linter.unusedVariables false
set_option linter.unusedSimpArgs false
open Go.ChangeShapes Go.WideShapes Go.ChangeAt Go.RowKit Go.Deep
set_option maxHeartbeats 2000000 in
set_option maxRecDepth 100000 in
theorem law_StrikesText (A1 : Option Addr) (c1 : Nat) (l1 : List (Int × Int)) (w : World) (h1 : Recs strikeE 2 w A1 l1) (hm1 : l1.length ≤ 9223372036854775807) (_hb1 : ∀ x ∈ l1, I64 x.1 ∧ I64 x.2)
    (hlaid : laidMetH Tryd.prog Rows.fnExactStrikesTextRow.laid w) :
    Calls Tryd.prog 3 #[.slice A1 l1.length c1] w fun e w' => e = .returned (.bool true) ∧ Below w.heap.size w w' := by
  have HT := Lib.hid (Lib.tabBelow_of_tabIs (pow10_of_laid hlaid))
  clear hlaid
  by_cases hz : l1.length ≤ 1048576
  · have hI : ¬ ((1048576 : Int) - (l1.length : Int) < 0) := by omega
    go_in
    go_wp2_with fail
    refine (laws_szStrikeS_ok _ _ _ _ _ (by omega) (by omega)).mono ?_; rintro e w' ⟨rfl, rfl⟩
    go_wp2_with fail
    refine (laws_toStrikeS _ _ _ l1 _ rfl h1 hz).mono ?_; rintro e w2 ⟨g2, rfl, o2, B2⟩
    go_wp2_with fail
    refine (spec_StrikesText rfl o2.recs (by omega)).mono ?_; rintro e w3 ⟨rfl, d3⟩
    have B3 := below_go B2 d3
    go_wp2_with fail
    refine (laws_toStrikeS _ _ _ l1 _ rfl (h1.below B3 (Nat.le_refl _)) hz).mono ?_; rintro e w4 ⟨g4, rfl, o4, d4⟩
    have B4 := below_go B3 d4
    go_wp2_with fail
    refine (impl_StrikesText rfl o4.recs (by omega) (HT.out _ B4)).mono ?_; rintro e w5 ⟨rfl, d5⟩
    have B5 := below_go B4 d5
    have o5 := o4.up d5
    obtain ⟨rs, hrs⟩ : ∃ rs, rs = stR l1 := ⟨_, rfl⟩
    obtain ⟨rb, hrb⟩ : ∃ rb, rb = goodStrikes l1 := ⟨_, rfl⟩
    rw [← hrs, ← hrb]
    have hbs : (rs.toList == rs.toList) = true := by simp
    have hbb : (rb == rb) = true := by simp
    clear hrs hrb
    go_wp2_with fail
    refine (laws_toStrikeS _ _ _ l1 _ rfl (h1.below B5 (Nat.le_refl _)) hz).mono ?_; rintro e w6 ⟨g6, rfl, o6, d6⟩
    have B6 := below_go B5 d6
    go_wp2_with fail
    refine (laws_eqStrikeS _ _ _ _ _ _ l1 l1 _ rfl rfl (o5.up d6).recs o6.recs (by omega) (by omega)).mono ?_; rw [show decide (l1 = l1) = true by simp]; rintro e w7 ⟨rfl, d7⟩
    go_wp2
    go_ret
    exact ⟨rfl, below_go B6 d7⟩
  · have hI : (1048576 : Int) < (l1.length : Int) := by omega
    go_in
    go_wp2_with fail
    refine (laws_szStrikeS_no _ _ _ _ _ (by omega) (by omega) hm1).mono ?_; rintro e w' ⟨rfl, rfl⟩
    go_wp2
    go_ret
    exact ⟨rfl, Below.refl _ _⟩
end Go.Proofs.YtmlhdchglhkhiaaDoor
