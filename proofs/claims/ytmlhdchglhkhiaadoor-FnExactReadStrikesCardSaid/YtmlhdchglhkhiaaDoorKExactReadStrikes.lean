/- The walk through FnExactReadStrikes: both sides give the same, the result is memory of its own. -/
import Derived.Test.YtmlhdchglhkhiaaDoorW21x
import Derived.Test.YtmlhdchglhkhiaaDoorCstrike
namespace Go.Proofs.YtmlhdchglhkhiaaDoor
set_option linter.unusedVariables false
set_option linter.unusedSimpArgs false
open Go.ChangeShapes Go.WideShapes Go.ChangeAt Go.RowKit Go.Deep
set_option maxHeartbeats 2000000 in
set_option maxRecDepth 100000 in
theorem law_ReadStrikes (s : ByteArray) (w : World) (_hs : s.size ≤ maxLen) (m : Int) (hm : w.cell? ⟨0, 0, none⟩ = some (.int .i64 m)) (hmw : 0 < w.heap.size) :
    Calls Tryd.prog 5 #[.string s] w fun e w' => e = .returned (.bool true) ∧ Below w.heap.size w w' := by
  clear _hs
  have HM := Lib.hid (fun (u : World) (hu : Below w.heap.size w u) => (hu.cell (p := ⟨0, 0, none⟩) hmw).trans hm)
  clear hm
  by_cases hz : s.size ≤ 1048576
  · have hI : ¬ ((1048576 : Int) < (s.size : Int)) := by omega
    go_in
    go_wp2_with fail
    refine (spec_ReadStrikes hz).mono ?_; rintro e w1 ⟨AW, cW, rfl, oW, nW, hb1⟩
    have sz1 : w.heap.size ≤ w1.heap.size := hb1.size
    have roW := oW.range
    obtain ⟨rs, hrs⟩ : ∃ rs, rs = rsR s := ⟨_, rfl⟩
    obtain ⟨rb, hrb⟩ : ∃ rb, rb = rsOk s := ⟨_, rfl⟩
    rw [← hrs] at oW nW roW
    rw [← hrs, ← hrb]
    have HI := Lib.hid (show ∀ u : World, Below w.heap.size w u → Calls Tryd.prog 20 #[.string s] u fun e w' => ∃ A' c', e = .returned (.tuple #[.slice A' rs.length c', .bool rb]) ∧ Owned strikeE 2 57 w' u.heap.size A' rs.length c' rs ∧ rs.length ≤ 16777216 ∧ Below u.heap.size u w' from fun u hu => by rw [hrs, hrb]; exact impl_ReadStrikes hz (HM.out u hu) (by have := hu.size; omega))
    have hbb : (rb == rb) = true := by simp
    clear hrs hrb
    go_wp2_with fail
    refine (HI.out _ hb1).mono ?_; rintro e w2 ⟨AG, cG, rfl, oG, nG, hb2⟩
    have HW2 := below_go hb1 hb2
    have sz2 : w1.heap.size ≤ w2.heap.size := hb2.size
    have oW_2 := oW.up hb2
    have roG := oG.range
    go_wp2_with fail
    refine (laws_eqStrikeS _ _ _ _ _ _ _ _ _ rfl rfl oG.recs oW_2.recs (by omega) (by omega)).mono ?_; rw [show decide (rs = rs) = true by simp]; rintro e w3 ⟨rfl, hb3⟩
    have HW3 := below_go HW2 hb3
    have sz3 : w2.heap.size ≤ w3.heap.size := hb3.size
    have oW_3 := oW_2.up hb3
    have oG_3 := oG.up hb3
    go_wp2_with fail
    have bm4 : w1.heap.size ≤ w3.heap.size := by omega
    refine (laws_markStrikeS _ _ _ _ _ _ _ oG_3 bm4 (by omega) (by omega)).mono ?_; rintro e w4 ⟨rfl, oGm, hg4, hb4⟩
    have HW4 := HW3.trans (hb4.mono (by omega))
    have sz4 : w3.heap.size ≤ w4.heap.size := hb4.size
    have oW_4 := oW_3.kept hg4 (roW.ne roG (by omega))
    go_wp2_with fail
    refine (laws_heldStrikeS _ _ _ _ _ oGm.recs (by omega) (by omega)).mono ?_; rintro e w' ⟨rfl, rfl⟩
    go_wp2_with fail
    refine (HI.out _ HW4).mono ?_; rintro e w5 ⟨AH, cH, rfl, oH, nH, hb5⟩
    have HW5 := below_go HW4 hb5
    have sz5 : w4.heap.size ≤ w5.heap.size := hb5.size
    have oW_5 := oW_4.up hb5
    have oG_5 := oGm.up hb5
    go_wp2_with fail
    refine (laws_eqStrikeS _ _ _ _ _ _ _ _ _ rfl rfl oH.recs oW_5.recs (by omega) (by omega)).mono ?_; rw [show decide (rs = rs) = true by simp]; rintro e w6 ⟨rfl, hb6⟩
    have HW6 := below_go HW5 hb6
    have oG_6 := oG_5.up hb6
    go_wp2_with fail
    refine (laws_heldStrikeS _ _ _ _ _ oG_6.recs (by omega) (by omega)).mono ?_; rintro e w' ⟨rfl, rfl⟩
    go_wp2
    go_ret
    exact ⟨rfl, HW6⟩
  · have hI : (1048576 : Int) < (s.size : Int) := by omega
    go_in
    go_wp2
    go_ret
    exact ⟨rfl, Below.refl _ _⟩
end Go.Proofs.YtmlhdchglhkhiaaDoor
