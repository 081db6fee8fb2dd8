/- The walk through FnExactReachBy: both sides give the same, the arguments are left alone, the result is memory of its own. -/
import Derived.Test.YtmdmnjjlpefigaaCstrs
import Derived.Test.YtmdmnjjlpefigaaW19r
namespace Go.Proofs.Ytmdmnjjlpefigaa
set_option linter.unusedVariables false
set_option linter.unusedSimpArgs false
open Go.ChangeShapes Go.WideShapes Go.ChangeAt Go.RowKit Go.Deep
set_option maxHeartbeats 2000000 in
theorem law_ReachBy (x0 : Int) (A1 : Option Addr) (c1 : Nat) (l1 : List ByteArray) (w : World) (_hx0 : -9223372036854775808 ≤ x0 ∧ x0 ≤ 9223372036854775807) (h1 : Recs strE 1 w A1 l1) (hm1 : l1.length ≤ 9223372036854775807) (_hb1 : ∀ x ∈ l1, x.size ≤ maxLen) :
    Calls Try.prog 6 #[.int .i64 x0, .slice A1 l1.length c1] w fun e w' => e = .returned (.bool true) ∧ Below w.heap.size w w' := by
  by_cases hz1 : szS l1 ≤ 1048576
  · go_in
    have hq1 := szS_len l1
    have hs1 : ∀ s ∈ l1, s.size ≤ 16777216 := fun s hs => by (have := szS_each l1 s hs; omega)
    go_wp2_with fail
    refine (laws_szStringS_ok _ _ _ _ _ _ rfl h1 (by omega) (by omega) hm1 _hb1 (by omega)).mono ?_; rintro e w' ⟨rfl, rfl⟩
    go_wp2_with fail
    refine (laws_toStringS _ _ _ _ _ rfl h1 (by omega)).mono ?_; rintro e w1 ⟨gs1, rfl, os1, hb1⟩
    have sz1 : w.heap.size ≤ w1.heap.size := hb1.size
    have HW1 := hb1
    have ros1 := os1.range
    go_wp2_with fail
    refine (spec_ReachBy rfl os1.recs (by omega) hs1 _hx0).mono ?_; rintro e w2 ⟨rfl, hb2⟩
    have sz2 : w1.heap.size ≤ w2.heap.size := hb2.size
    have HW2 := below_go HW1 hb2
    have os1_2 := os1.up hb2
    go_wp2_with fail
    refine (laws_toStringS _ _ _ _ _ rfl (h1.below HW2 (Nat.le_refl _)) (by omega)).mono ?_; rintro e w3 ⟨gx1, rfl, ox1, hb3⟩
    have sz3 : w2.heap.size ≤ w3.heap.size := hb3.size
    have HW3 := below_go HW2 hb3
    have rox1 := ox1.range
    go_wp2_with fail
    refine (impl_ReachBy rfl ox1.recs (by omega) hs1).mono ?_; rintro e w4 ⟨rfl, hb4⟩
    have sz4 : w3.heap.size ≤ w4.heap.size := hb4.size
    have HW4 := below_go HW3 hb4
    have ox1_4 := ox1.up hb4
    go_wp2_with fail
    refine (laws_toStringS _ _ _ _ _ rfl (h1.below HW4 (Nat.le_refl _)) (by omega)).mono ?_; rintro e w5 ⟨gt1, rfl, ot1, hb5⟩
    have sz5 : w4.heap.size ≤ w5.heap.size := hb5.size
    have HW5 := below_go HW4 hb5
    have ox1_5 := ox1_4.up hb5
    have rot1 := ot1.range
    go_wp2_with fail
    refine (laws_eqStringS _ _ _ _ _ _ _ _ _ rfl rfl ox1_5.recs ot1.recs (by omega) (by omega)).mono ?_; rintro e w6 ⟨rfl, hb6⟩
    have sz6 : w5.heap.size ≤ w6.heap.size := hb6.size
    have HW6 := below_go HW5 hb6
    have ox1_6 := ox1_5.up hb6
    have ot1_6 := ot1.up hb6
    go_wp2
    go_ret
    exact ⟨rfl, HW6⟩
  · go_in
    go_wp2_with fail
    refine (laws_szStringS_no _ _ _ _ _ _ rfl h1 (by omega) (by omega) hm1 _hb1 (by omega)).mono ?_; rintro e w' ⟨rfl, rfl⟩
    go_wp2
    go_ret
    exact ⟨rfl, by (repeat' (first | (with_reducible exact Below.refl _ _) | (with_reducible assumption) | (with_reducible refine below_drewN ?_ _) | (with_reducible refine Below.drew ?_) | (with_reducible refine below_alloc ?_ _) | (with_reducible refine Below.alloc ?_ ?_ _) | (with_reducible refine Below.setCell ?_ ?_ _) | (with_reducible refine below_go ?_ (by with_reducible assumption)) | (with_reducible refine below_then (by with_reducible assumption) ?_ ?_) | go_size))⟩
end Go.Proofs.Ytmdmnjjlpefigaa
