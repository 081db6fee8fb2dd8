/- The walk through FnExactCostOf: both sides give the same, the arguments are left alone, the result is memory of its own. -/
import Derived.Test.YtnoipbldgondiaaCints
import Derived.Test.YtnoipbldgondiaaW22c
namespace Go.Proofs.Ytnoipbldgondiaa
set_option linter.unusedVariables false
set_option linter.unusedSimpArgs false
open Go.ChangeShapes Go.WideShapes Go.ChangeAt Go.RowKit Go.Deep
set_option maxHeartbeats 1000000 in
theorem law_CostOf (A0 : Option Addr) (c0 : Nat) (l0 : List Int) (A1 : Option Addr) (c1 : Nat) (l1 : List Int) (A2 : Option Addr) (c2 : Nat) (l2 : List Int) (x3 : Int) (w : World) (h0 : Recs intE 1 w A0 l0) (hm0 : l0.length ≤ 9223372036854775807) (_hb0 : ∀ x ∈ l0, -9223372036854775808 ≤ x ∧ x ≤ 9223372036854775807) (h1 : Recs intE 1 w A1 l1) (hm1 : l1.length ≤ 9223372036854775807) (_hb1 : ∀ x ∈ l1, -9223372036854775808 ≤ x ∧ x ≤ 9223372036854775807) (h2 : Recs intE 1 w A2 l2) (hm2 : l2.length ≤ 9223372036854775807) (_hb2 : ∀ x ∈ l2, -9223372036854775808 ≤ x ∧ x ≤ 9223372036854775807) (_hx3 : -9223372036854775808 ≤ x3 ∧ x3 ≤ 9223372036854775807) :
    Calls Try.prog 5 #[.slice A0 l0.length c0, .slice A1 l1.length c1, .slice A2 l2.length c2, .int .i64 x3] w fun e w' => e = .returned (.bool true) ∧ Below w.heap.size w w' := by
  clear _hb0 _hb1 _hx3
  by_cases hz0 : l0.length ≤ 1048576
  · by_cases hz1 : l1.length ≤ 1048576
    · by_cases hz2 : l2.length ≤ 1048576
      · go_in
        go_wp2_with fail
        refine (laws_toIntS _ _ _ _ _ rfl h0 (by omega)).mono ?_; rintro e w1 ⟨gs0, rfl, os0, hb1⟩
        have HW1 := hb1
        have sz1 : w.heap.size ≤ w1.heap.size := hb1.size
        go_wp2_with fail
        refine (laws_toIntS _ _ _ _ _ rfl (h1.below HW1 (Nat.le_refl _)) (by omega)).mono ?_; rintro e w2 ⟨gs1, rfl, os1, hb2⟩
        have HW2 := below_go HW1 hb2
        have sz2 : w1.heap.size ≤ w2.heap.size := hb2.size
        have os0_2 := os0.up hb2
        go_wp2_with fail
        refine (laws_toIntS _ _ _ _ _ rfl (h2.below HW2 (Nat.le_refl _)) (by omega)).mono ?_; rintro e w3 ⟨gs2, rfl, os2, hb3⟩
        have HW3 := below_go HW2 hb3
        have sz3 : w2.heap.size ≤ w3.heap.size := hb3.size
        have os0_3 := os0_2.up hb3
        have os1_3 := os1.up hb3
        go_wp2_with fail
        refine (spec_CostOf rfl os0_3.recs (by omega) rfl os1_3.recs (by omega) rfl os2.recs (by omega) _hb2).mono ?_; rintro e w4 ⟨rfl, hb4⟩
        have HW4 := below_go HW3 hb4
        have sz4 : w3.heap.size ≤ w4.heap.size := hb4.size
        have os0_4 := os0_3.up hb4
        have os1_4 := os1_3.up hb4
        have os2_4 := os2.up hb4
        go_wp2_with fail
        refine (laws_toIntS _ _ _ _ _ rfl (h0.below HW4 (Nat.le_refl _)) (by omega)).mono ?_; rintro e w5 ⟨gx0, rfl, ox0, hb5⟩
        have HW5 := below_go HW4 hb5
        have sz5 : w4.heap.size ≤ w5.heap.size := hb5.size
        have rox0 := ox0.range
        go_wp2_with fail
        refine (laws_toIntS _ _ _ _ _ rfl (h1.below HW5 (Nat.le_refl _)) (by omega)).mono ?_; rintro e w6 ⟨gx1, rfl, ox1, hb6⟩
        have HW6 := below_go HW5 hb6
        have sz6 : w5.heap.size ≤ w6.heap.size := hb6.size
        have ox0_6 := ox0.up hb6
        have rox1 := ox1.range
        go_wp2_with fail
        refine (laws_toIntS _ _ _ _ _ rfl (h2.below HW6 (Nat.le_refl _)) (by omega)).mono ?_; rintro e w7 ⟨gx2, rfl, ox2, hb7⟩
        have HW7 := below_go HW6 hb7
        have sz7 : w6.heap.size ≤ w7.heap.size := hb7.size
        have ox0_7 := ox0_6.up hb7
        have ox1_7 := ox1.up hb7
        have rox2 := ox2.range
        go_wp2_with fail
        refine (impl_CostOf rfl ox0_7.recs (by omega) rfl ox1_7.recs (by omega) rfl ox2.recs (by omega) _hb2).mono ?_; rintro e w8 ⟨rfl, hb8⟩
        have HW8 := below_go HW7 hb8
        have sz8 : w7.heap.size ≤ w8.heap.size := hb8.size
        have ox0_8 := ox0_7.up hb8
        have ox1_8 := ox1_7.up hb8
        have ox2_8 := ox2.up hb8
        go_wp2_with fail
        refine (laws_toIntS _ _ _ _ _ rfl (h0.below HW8 (Nat.le_refl _)) (by omega)).mono ?_; rintro e w9 ⟨gt0, rfl, ot0, hb9⟩
        have HW9 := below_go HW8 hb9
        have sz9 : w8.heap.size ≤ w9.heap.size := hb9.size
        have ox0_9 := ox0_8.up hb9
        have ox1_9 := ox1_8.up hb9
        have ox2_9 := ox2_8.up hb9
        go_wp2_with fail
        refine (laws_eqIntS _ _ _ _ _ _ _ _ _ rfl rfl ox0_9.recs ot0.recs (by omega) (by omega)).mono ?_; rintro e w10 ⟨rfl, hb10⟩
        have HW10 := below_go HW9 hb10
        have sz10 : w9.heap.size ≤ w10.heap.size := hb10.size
        have ox0_10 := ox0_9.up hb10
        have ox1_10 := ox1_9.up hb10
        have ox2_10 := ox2_9.up hb10
        have ot0_10 := ot0.up hb10
        go_wp2_with fail
        refine (laws_toIntS _ _ _ _ _ rfl (h1.below HW10 (Nat.le_refl _)) (by omega)).mono ?_; rintro e w11 ⟨gt1, rfl, ot1, hb11⟩
        have HW11 := below_go HW10 hb11
        have sz11 : w10.heap.size ≤ w11.heap.size := hb11.size
        have ox0_11 := ox0_10.up hb11
        have ox1_11 := ox1_10.up hb11
        have ox2_11 := ox2_10.up hb11
        go_wp2_with fail
        refine (laws_eqIntS _ _ _ _ _ _ _ _ _ rfl rfl ox1_11.recs ot1.recs (by omega) (by omega)).mono ?_; rintro e w12 ⟨rfl, hb12⟩
        have HW12 := below_go HW11 hb12
        have sz12 : w11.heap.size ≤ w12.heap.size := hb12.size
        have ox0_12 := ox0_11.up hb12
        have ox1_12 := ox1_11.up hb12
        have ox2_12 := ox2_11.up hb12
        have ot1_12 := ot1.up hb12
        go_wp2_with fail
        refine (laws_toIntS _ _ _ _ _ rfl (h2.below HW12 (Nat.le_refl _)) (by omega)).mono ?_; rintro e w13 ⟨gt2, rfl, ot2, hb13⟩
        have HW13 := below_go HW12 hb13
        have sz13 : w12.heap.size ≤ w13.heap.size := hb13.size
        have ox0_13 := ox0_12.up hb13
        have ox1_13 := ox1_12.up hb13
        have ox2_13 := ox2_12.up hb13
        go_wp2_with fail
        refine (laws_eqIntS _ _ _ _ _ _ _ _ _ rfl rfl ox2_13.recs ot2.recs (by omega) (by omega)).mono ?_; rintro e w14 ⟨rfl, hb14⟩
        have HW14 := below_go HW13 hb14
        have sz14 : w13.heap.size ≤ w14.heap.size := hb14.size
        have ox0_14 := ox0_13.up hb14
        have ox1_14 := ox1_13.up hb14
        have ox2_14 := ox2_13.up hb14
        have ot2_14 := ot2.up hb14
        go_wp2
        go_ret
        exact ⟨rfl, HW14⟩
      · go_in
        go_wp2
        go_ret
        exact ⟨rfl, by (repeat' (first | (with_reducible exact Below.refl _ _) | (with_reducible assumption) | (with_reducible refine below_drewN ?_ _) | (with_reducible refine Below.drew ?_) | (with_reducible refine below_alloc ?_ _) | (with_reducible refine Below.alloc ?_ ?_ _) | (with_reducible refine Below.setCell ?_ ?_ _) | (with_reducible refine below_go ?_ (by with_reducible assumption)) | (with_reducible refine below_then (by with_reducible assumption) ?_ ?_) | go_size))⟩
    · go_in
      go_wp2
      go_ret
      exact ⟨rfl, by (repeat' (first | (with_reducible exact Below.refl _ _) | (with_reducible assumption) | (with_reducible refine below_drewN ?_ _) | (with_reducible refine Below.drew ?_) | (with_reducible refine below_alloc ?_ _) | (with_reducible refine Below.alloc ?_ ?_ _) | (with_reducible refine Below.setCell ?_ ?_ _) | (with_reducible refine below_go ?_ (by with_reducible assumption)) | (with_reducible refine below_then (by with_reducible assumption) ?_ ?_) | go_size))⟩
  · go_in
    go_wp2
    go_ret
    exact ⟨rfl, by (repeat' (first | (with_reducible exact Below.refl _ _) | (with_reducible assumption) | (with_reducible refine below_drewN ?_ _) | (with_reducible refine Below.drew ?_) | (with_reducible refine below_alloc ?_ _) | (with_reducible refine Below.alloc ?_ ?_ _) | (with_reducible refine Below.setCell ?_ ?_ _) | (with_reducible refine below_go ?_ (by with_reducible assumption)) | (with_reducible refine below_then (by with_reducible assumption) ?_ ?_) | go_size))⟩
end Go.Proofs.Ytnoipbldgondiaa
