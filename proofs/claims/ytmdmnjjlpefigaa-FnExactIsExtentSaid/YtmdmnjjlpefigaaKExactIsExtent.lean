/- The walk through FnExactIsExtent: both sides give the same, the arguments are left alone, the result is memory of its own. -/
import Derived.Test.YtmdmnjjlpefigaaCstrs
import Derived.Test.YtmdmnjjlpefigaaW7c
namespace Go.Proofs.Ytmdmnjjlpefigaa
set_option linter.unusedVariables false
set_option linter.unusedSimpArgs false
open Go.ChangeShapes Go.WideShapes Go.ChangeAt Go.RowKit Go.Deep
set_option maxHeartbeats 2000000 in
theorem law_IsExtent (A0 : Option Addr) (c0 : Nat) (l0 : List ByteArray) (w : World) (h0 : Recs strE 1 w A0 l0) (hm0 : l0.length ≤ 9223372036854775807) (_hb0 : ∀ x ∈ l0, x.size ≤ maxLen) :
    Calls Try.prog 3 #[.slice A0 l0.length c0] w fun e w' => e = .returned (.bool true) ∧ Below w.heap.size w w' := by
  by_cases hz0 : szS l0 ≤ 1048576
  · go_in
    have hq0 := szS_len l0
    have hs0 : ∀ s ∈ l0, s.size ≤ 16777216 := fun s hs => by (have := szS_each l0 s hs; omega)
    go_wp2_with fail
    refine (laws_szStringS_ok _ _ _ _ _ _ rfl h0 (by omega) (by omega) hm0 _hb0 (by omega)).mono ?_; rintro e w' ⟨rfl, rfl⟩
    go_wp2_with fail
    refine (laws_toStringS _ _ _ _ _ rfl h0 (by omega)).mono ?_; rintro e w1 ⟨gs0, rfl, os0, hb1⟩
    have sz1 : w.heap.size ≤ w1.heap.size := hb1.size
    have HW1 := hb1
    have ros0 := os0.range
    go_wp2_with fail
    refine (spec_IsExtent rfl os0.recs (by omega) hs0).mono ?_; rintro e w2 ⟨rfl, hb2⟩
    have sz2 : w1.heap.size ≤ w2.heap.size := hb2.size
    have HW2 := below_go HW1 hb2
    have os0_2 := os0.up hb2
    go_wp2_with fail
    refine (laws_toStringS _ _ _ _ _ rfl (h0.below HW2 (Nat.le_refl _)) (by omega)).mono ?_; rintro e w3 ⟨gx0, rfl, ox0, hb3⟩
    have sz3 : w2.heap.size ≤ w3.heap.size := hb3.size
    have HW3 := below_go HW2 hb3
    have rox0 := ox0.range
    go_wp2_with fail
    refine (impl_IsExtent rfl ox0.recs (by omega) hs0).mono ?_; rintro e w4 ⟨rfl, hb4⟩
    have sz4 : w3.heap.size ≤ w4.heap.size := hb4.size
    have HW4 := below_go HW3 hb4
    have ox0_4 := ox0.up hb4
    go_wp2_with fail
    refine (laws_toStringS _ _ _ _ _ rfl (h0.below HW4 (Nat.le_refl _)) (by omega)).mono ?_; rintro e w5 ⟨gt0, rfl, ot0, hb5⟩
    have sz5 : w4.heap.size ≤ w5.heap.size := hb5.size
    have HW5 := below_go HW4 hb5
    have ox0_5 := ox0_4.up hb5
    have rot0 := ot0.range
    go_wp2_with fail
    refine (laws_eqStringS _ _ _ _ _ _ _ _ _ rfl rfl ox0_5.recs ot0.recs (by omega) (by omega)).mono ?_; rintro e w6 ⟨rfl, hb6⟩
    have sz6 : w5.heap.size ≤ w6.heap.size := hb6.size
    have HW6 := below_go HW5 hb6
    have ox0_6 := ox0_5.up hb6
    have ot0_6 := ot0.up hb6
    go_wp2
    go_ret
    exact ⟨rfl, HW6⟩
  · go_in
    go_wp2_with fail
    refine (laws_szStringS_no _ _ _ _ _ _ rfl h0 (by omega) (by omega) hm0 _hb0 (by omega)).mono ?_; rintro e w' ⟨rfl, rfl⟩
    go_wp2
    go_ret
    exact ⟨rfl, by (repeat' (first | (with_reducible exact Below.refl _ _) | (with_reducible assumption) | (with_reducible refine below_drewN ?_ _) | (with_reducible refine Below.drew ?_) | (with_reducible refine below_alloc ?_ _) | (with_reducible refine Below.alloc ?_ ?_ _) | (with_reducible refine Below.setCell ?_ ?_ _) | (with_reducible refine below_go ?_ (by with_reducible assumption)) | (with_reducible refine below_then (by with_reducible assumption) ?_ ?_) | go_size))⟩
end Go.Proofs.Ytmdmnjjlpefigaa
