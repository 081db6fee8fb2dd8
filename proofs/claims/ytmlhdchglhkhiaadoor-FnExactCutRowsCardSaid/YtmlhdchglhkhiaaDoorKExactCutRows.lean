/- The walk through FnExactCutRows: both sides give the same, the arguments are left alone, the result is memory of its own. -/
import Derived.Test.YtmlhdchglhkhiaaDoorCstrike
import Derived.Test.YtmlhdchglhkhiaaDoorCstrs
import Derived.Test.YtmlhdchglhkhiaaDoorW21c
namespace Go.Proofs.YtmlhdchglhkhiaaDoor
set_option linter.unusedVariables false
set_option linter.unusedSimpArgs false
open Go.ChangeShapes Go.WideShapes Go.ChangeAt Go.RowKit Go.Deep
set_option maxHeartbeats 2000000 in
theorem law_CutRows (A0 : Option Addr) (c0 : Nat) (l0 : List (Int × Int)) (x1 : Int) (w : World) (h0 : Recs strikeE 2 w A0 l0) (hm0 : l0.length ≤ 9223372036854775807) (_hb0 : ∀ x ∈ l0, I64 x.1 ∧ I64 x.2) (_hx1 : -9223372036854775808 ≤ x1 ∧ x1 ≤ 9223372036854775807) :
    Calls Tryd.prog 4 #[.slice A0 l0.length c0, .int .i64 x1] w fun e w' => e = .returned (.bool true) ∧ Below w.heap.size w w' := by
  clear _hb0 _hx1
  by_cases hz0 : (l0.length : Int) ≤ 1048576
  · go_in
    go_wp2_with fail
    refine (laws_szStrikeS_ok _ _ _ _ _ (by omega) (by omega)).mono ?_; rintro e w' ⟨rfl, rfl⟩
    go_wp2_with fail
    refine (laws_toStrikeS _ _ _ _ _ rfl h0 (by omega)).mono ?_; rintro e w1 ⟨gs0, rfl, os0, hb1⟩
    have sz1 : w.heap.size ≤ w1.heap.size := hb1.size
    have HW1 := hb1
    have ros0 := os0.range
    go_wp2_with fail
    refine (spec_CutRows rfl os0.recs (by omega) (Nat.le_refl _)).mono ?_; rintro e w2 ⟨AW, cW, rfl, oW, nW, hb2⟩
    have sz2 : w1.heap.size ≤ w2.heap.size := hb2.size
    have HW2 := below_go HW1 hb2
    have os0_2 := os0.up hb2
    have roW := oW.range
    go_wp2_with fail
    refine (laws_toStrikeS _ _ _ _ _ rfl (h0.below HW2 (Nat.le_refl _)) (by omega)).mono ?_; rintro e w3 ⟨gx0, rfl, ox0, hb3⟩
    have sz3 : w2.heap.size ≤ w3.heap.size := hb3.size
    have HW3 := below_go HW2 hb3
    have oW_3 := oW.up hb3
    have rox0 := ox0.range
    go_wp2_with fail
    refine (impl_CutRows rfl ox0.recs (by omega) (Nat.le_refl _)).mono ?_; rintro e w4 ⟨AG, cG, rfl, oG, nG, hb4⟩
    have sz4 : w3.heap.size ≤ w4.heap.size := hb4.size
    have HW4 := below_go HW3 hb4
    have oW_4 := oW_3.up hb4
    have ox0_4 := ox0.up hb4
    have roG := oG.range
    go_wp2_with fail
    refine (laws_eqStringS _ _ _ _ _ _ _ _ _ rfl rfl oG.recs oW_4.recs (by omega) (by omega)).mono ?_; rintro e w5 ⟨rfl, hb5⟩
    have sz5 : w4.heap.size ≤ w5.heap.size := hb5.size
    have HW5 := below_go HW4 hb5
    have oW_5 := oW_4.up hb5
    have ox0_5 := ox0_4.up hb5
    have oG_5 := oG.up hb5
    go_wp2_with fail
    refine (laws_toStrikeS _ _ _ _ _ rfl (h0.below HW5 (Nat.le_refl _)) (by omega)).mono ?_; rintro e w6 ⟨gt0, rfl, ot0, hb6⟩
    have sz6 : w5.heap.size ≤ w6.heap.size := hb6.size
    have HW6 := below_go HW5 hb6
    have oW_6 := oW_5.up hb6
    have ox0_6 := ox0_5.up hb6
    have oG_6 := oG_5.up hb6
    have rot0 := ot0.range
    go_wp2_with fail
    refine (laws_eqStrikeS _ _ _ _ _ _ _ _ _ rfl rfl ox0_6.recs ot0.recs (by omega) (by omega)).mono ?_; rintro e w7 ⟨rfl, hb7⟩
    have sz7 : w6.heap.size ≤ w7.heap.size := hb7.size
    have HW7 := below_go HW6 hb7
    have oW_7 := oW_6.up hb7
    have ox0_7 := ox0_6.up hb7
    have oG_7 := oG_6.up hb7
    have ot0_7 := ot0.up hb7
    go_wp2_with fail
    have bm8 : w2.heap.size ≤ w7.heap.size := by omega
    refine (laws_markStrikeS _ _ _ _ _ _ _ ox0_7 bm8 (by omega) (by omega)).mono ?_; rintro e w8 ⟨rfl, ox0m, hg8, hb8⟩
    have sz8 : w7.heap.size ≤ w8.heap.size := hb8.size
    have HW8 := HW7.trans (hb8.mono (by omega))
    have oW_8 := oW_7.kept hg8 (roW.ne rox0 (by omega))
    have oG_8 := oG_7.kept hg8 (roG.ne rox0 (by omega))
    go_wp2_with fail
    refine (laws_eqStringS _ _ _ _ _ _ _ _ _ rfl rfl oG_8.recs oW_8.recs (by omega) (by omega)).mono ?_; rintro e w9 ⟨rfl, hb9⟩
    have sz9 : w8.heap.size ≤ w9.heap.size := hb9.size
    have HW9 := below_go HW8 hb9
    have oW_9 := oW_8.up hb9
    have ox0_9 := ox0m.up hb9
    have oG_9 := oG_8.up hb9
    go_wp2_with fail
    have bm10 : w3.heap.size ≤ w9.heap.size := by omega
    refine (laws_markStringS _ _ _ _ _ _ _ oG_9 bm10 (by omega) (by omega)).mono ?_; rintro e w10 ⟨rfl, oGm, hg10, hb10⟩
    have sz10 : w9.heap.size ≤ w10.heap.size := hb10.size
    have HW10 := HW9.trans (hb10.mono (by omega))
    have oW_10 := oW_9.kept hg10 (roW.ne roG (by omega))
    have ox0_10 := ox0_9.kept hg10 (rox0.ne roG (by omega))
    go_wp2_with fail
    refine (laws_heldStringS _ _ _ _ _ oGm.recs (by omega) (by omega)).mono ?_; rintro e w11 ⟨rfl, hb11⟩
    have sz11 : w10.heap.size ≤ w11.heap.size := hb11.size
    have HW11 := below_go HW10 hb11
    have oW_11 := oW_10.up hb11
    have ox0_11 := ox0_10.up hb11
    have oG_11 := oGm.up hb11
    go_wp2_with fail
    refine (laws_toStrikeS _ _ _ _ _ rfl (h0.below HW11 (Nat.le_refl _)) (by omega)).mono ?_; rintro e w12 ⟨gy0, rfl, oy0, hb12⟩
    have sz12 : w11.heap.size ≤ w12.heap.size := hb12.size
    have HW12 := below_go HW11 hb12
    have oW_12 := oW_11.up hb12
    have ox0_12 := ox0_11.up hb12
    have oG_12 := oG_11.up hb12
    have roy0 := oy0.range
    go_wp2_with fail
    refine (impl_CutRows rfl oy0.recs (by omega) (Nat.le_refl _)).mono ?_; rintro e w13 ⟨AH, cH, rfl, oH, nH, hb13⟩
    have sz13 : w12.heap.size ≤ w13.heap.size := hb13.size
    have HW13 := below_go HW12 hb13
    have oW_13 := oW_12.up hb13
    have ox0_13 := ox0_12.up hb13
    have oG_13 := oG_12.up hb13
    have oy0_13 := oy0.up hb13
    have roH := oH.range
    go_wp2_with fail
    refine (laws_eqStringS _ _ _ _ _ _ _ _ _ rfl rfl oH.recs oW_13.recs (by omega) (by omega)).mono ?_; rintro e w14 ⟨rfl, hb14⟩
    have sz14 : w13.heap.size ≤ w14.heap.size := hb14.size
    have HW14 := below_go HW13 hb14
    have oW_14 := oW_13.up hb14
    have ox0_14 := ox0_13.up hb14
    have oG_14 := oG_13.up hb14
    have oy0_14 := oy0_13.up hb14
    have oH_14 := oH.up hb14
    go_wp2_with fail
    refine (laws_heldStringS _ _ _ _ _ oG_14.recs (by omega) (by omega)).mono ?_; rintro e w15 ⟨rfl, hb15⟩
    have sz15 : w14.heap.size ≤ w15.heap.size := hb15.size
    have HW15 := below_go HW14 hb15
    have oW_15 := oW_14.up hb15
    have ox0_15 := ox0_14.up hb15
    have oG_15 := oG_14.up hb15
    have oy0_15 := oy0_14.up hb15
    have oH_15 := oH_14.up hb15
    go_wp2
    go_ret
    exact ⟨rfl, HW15⟩
  · go_in
    go_wp2_with fail
    refine (laws_szStrikeS_no _ _ _ _ _ (by omega) (by omega) hm0).mono ?_; rintro e w' ⟨rfl, rfl⟩
    go_wp2
    go_ret
    exact ⟨rfl, by (repeat' (first | (with_reducible exact Below.refl _ _) | (with_reducible assumption) | (with_reducible refine below_drewN ?_ _) | (with_reducible refine Below.drew ?_) | (with_reducible refine below_alloc ?_ _) | (with_reducible refine Below.alloc ?_ ?_ _) | (with_reducible refine Below.setCell ?_ ?_ _) | (with_reducible refine below_go ?_ (by with_reducible assumption)) | (with_reducible refine below_then (by with_reducible assumption) ?_ ?_) | go_size))⟩
end Go.Proofs.YtmlhdchglhkhiaaDoor
