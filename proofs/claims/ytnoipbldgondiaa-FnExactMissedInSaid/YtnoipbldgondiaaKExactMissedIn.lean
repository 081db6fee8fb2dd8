/- The walk through FnExactMissedIn: both sides give the same, the arguments are left alone, the result is memory of its own. -/
import Derived.Test.YtnoipbldgondiaaMore
import Derived.Test.YtnoipbldgondiaaCints
import Derived.Test.YtnoipbldgondiaaCmatch
import Derived.Test.YtnoipbldgondiaaW22m
namespace Go.Proofs.Ytnoipbldgondiaa
set_option linter.unusedVariables false
set_option linter.unusedSimpArgs false
open Go.ChangeShapes Go.WideShapes Go.ChangeAt Go.RowKit Go.Deep
set_option maxHeartbeats 2000000 in
theorem law_MissedIn (A0 : Option Addr) (c0 : Nat) (l0 : List Int) (x0 : Int) (w : World) (h0 : Recs intE 1 w A0 l0) (hm0 : l0.length ≤ 9223372036854775807) (_hb0 : ∀ x ∈ l0, -9223372036854775808 ≤ x ∧ x ≤ 9223372036854775807) (_hx0 : -9223372036854775808 ≤ x0 ∧ x0 ≤ 9223372036854775807) :
    Calls Try.prog 4 #[.agg #[.slice A0 l0.length c0, .int .i64 x0]] w fun e w' => e = .returned (.bool true) ∧ Below w.heap.size w w' := by
  clear _hb0 _hx0
  by_cases hz0 : (l0.length : Int) ≤ 1048576
  · go_in
    go_wp2_with fail
    have hb1 : Below w.heap.size w (w.alloc (.cells #[.slice A0 l0.length c0, .int .i64 x0] 33)) := by (repeat' (first | (with_reducible exact Below.refl _ _) | (with_reducible assumption) | (with_reducible refine below_drewN ?_ _) | (with_reducible refine Below.drew ?_) | (with_reducible refine below_alloc ?_ _) | (with_reducible refine Below.alloc ?_ ?_ _) | (with_reducible refine Below.setCell ?_ ?_ _) | (with_reducible refine below_go ?_ (by with_reducible assumption)) | (with_reducible refine below_then (by with_reducible assumption) ?_ ?_) | go_size))
    have Kp0 := Blk.at_ w 33 [.slice A0 l0.length c0, .int .i64 x0] (b := w.heap.size) rfl
    have qp0 : w.heap.size < (w.alloc (.cells #[.slice A0 l0.length c0, .int .i64 x0] 33)).heap.size := by simp
    obtain ⟨w1, hw1⟩ : ∃ u, u = (w.alloc (.cells #[.slice A0 l0.length c0, .int .i64 x0] 33)) := ⟨_, rfl⟩
    rw [← hw1] at hb1 Kp0 qp0 ⊢
    clear hw1
    have sz1 : w.heap.size ≤ w1.heap.size := hb1.size
    have HW1 := hb1
    have kKp00_1 := Kp0.cell 0
    have kKp01_1 := Kp0.cell 1
    simp only [List.getElem?_cons_zero, List.getElem?_cons_succ] at kKp00_1 kKp01_1
    refine (laws_szMatch_ok _ _ _ _ _ _ (by omega) (by omega)).mono ?_; rintro e w2 ⟨rfl, hb2⟩
    have sz2 : w1.heap.size ≤ w2.heap.size := hb2.size
    have HW2 := below_go HW1 hb2
    have Kp0_2 := Kp0.up hb2
    have kKp00_2 := Kp0_2.cell 0
    have kKp01_2 := Kp0_2.cell 1
    simp only [List.getElem?_cons_zero, List.getElem?_cons_succ] at kKp00_2 kKp01_2
    clear kKp00_1 kKp01_1
    go_wp2_with fail
    refine (laws_toMatch _ _ _ _ _ _ rfl (h0.below HW2 (Nat.le_refl _)) (by omega)).mono ?_; rintro e w3 ⟨gs0, rfl, os0, hb3⟩
    have sz3 : w2.heap.size ≤ w3.heap.size := hb3.size
    have HW3 := below_go HW2 hb3
    have Kp0_3 := Kp0_2.up hb3
    have kKp00_3 := Kp0_3.cell 0
    have kKp01_3 := Kp0_3.cell 1
    simp only [List.getElem?_cons_zero, List.getElem?_cons_succ] at kKp00_3 kKp01_3
    clear kKp00_2 kKp01_2
    have ros0 := os0.range
    go_wp2_with fail
    refine (spec_MissedIn rfl os0.recs (by omega)).mono ?_; rintro e w4 ⟨AW, cW, rfl, oW, nW, hb4⟩
    have sz4 : w3.heap.size ≤ w4.heap.size := hb4.size
    have HW4 := below_go HW3 hb4
    have os0_4 := os0.up hb4
    have Kp0_4 := Kp0_3.up hb4
    have kKp00_4 := Kp0_4.cell 0
    have kKp01_4 := Kp0_4.cell 1
    simp only [List.getElem?_cons_zero, List.getElem?_cons_succ] at kKp00_4 kKp01_4
    clear kKp00_3 kKp01_3
    have roW := oW.range
    go_wp2_with fail
    refine (laws_toMatch _ _ _ _ _ _ rfl (h0.below HW4 (Nat.le_refl _)) (by omega)).mono ?_; rintro e w5 ⟨gx0, rfl, ox0, hb5⟩
    have sz5 : w4.heap.size ≤ w5.heap.size := hb5.size
    have HW5 := below_go HW4 hb5
    have oW_5 := oW.up hb5
    have Kp0_5 := Kp0_4.up hb5
    have kKp00_5 := Kp0_5.cell 0
    have kKp01_5 := Kp0_5.cell 1
    simp only [List.getElem?_cons_zero, List.getElem?_cons_succ] at kKp00_5 kKp01_5
    clear kKp00_4 kKp01_4
    have rox0 := ox0.range
    go_wp2_with fail
    have hb6 : Below w5.heap.size w5 (w5.alloc (.cells #[.slice (some ⟨gx0, 0, none⟩) l0.length l0.length, .int .i64 x0] 37)) := by (repeat' (first | (with_reducible exact Below.refl _ _) | (with_reducible assumption) | (with_reducible refine below_drewN ?_ _) | (with_reducible refine Below.drew ?_) | (with_reducible refine below_alloc ?_ _) | (with_reducible refine Below.alloc ?_ ?_ _) | (with_reducible refine Below.setCell ?_ ?_ _) | (with_reducible refine below_go ?_ (by with_reducible assumption)) | (with_reducible refine below_then (by with_reducible assumption) ?_ ?_) | go_size))
    have Kx0 := Blk.at_ w5 37 [.slice (some ⟨gx0, 0, none⟩) l0.length l0.length, .int .i64 x0] (b := w5.heap.size) rfl
    have qx0 : w5.heap.size < (w5.alloc (.cells #[.slice (some ⟨gx0, 0, none⟩) l0.length l0.length, .int .i64 x0] 37)).heap.size := by simp
    obtain ⟨w6, hw6⟩ : ∃ u, u = (w5.alloc (.cells #[.slice (some ⟨gx0, 0, none⟩) l0.length l0.length, .int .i64 x0] 37)) := ⟨_, rfl⟩
    rw [← hw6] at hb6 Kx0 qx0 ⊢
    clear hw6
    have sz6 : w5.heap.size ≤ w6.heap.size := hb6.size
    have HW6 := below_go HW5 hb6
    have oW_6 := oW_5.up hb6
    have ox0_6 := ox0.up hb6
    have Kp0_6 := Kp0_5.up hb6
    have kKp00_6 := Kp0_6.cell 0
    have kKp01_6 := Kp0_6.cell 1
    simp only [List.getElem?_cons_zero, List.getElem?_cons_succ] at kKp00_6 kKp01_6
    clear kKp00_5 kKp01_5
    have kKx00_6 := Kx0.cell 0
    have kKx01_6 := Kx0.cell 1
    simp only [List.getElem?_cons_zero, List.getElem?_cons_succ] at kKx00_6 kKx01_6
    refine (impl_MissedIn rfl ox0_6.recs (by omega)).mono ?_; rintro e w7 ⟨AG, cG, rfl, oG, nG, hb7⟩
    have sz7 : w6.heap.size ≤ w7.heap.size := hb7.size
    have HW7 := below_go HW6 hb7
    have oW_7 := oW_6.up hb7
    have ox0_7 := ox0_6.up hb7
    have Kp0_7 := Kp0_6.up hb7
    have Kx0_7 := Kx0.up hb7
    have kKp00_7 := Kp0_7.cell 0
    have kKp01_7 := Kp0_7.cell 1
    simp only [List.getElem?_cons_zero, List.getElem?_cons_succ] at kKp00_7 kKp01_7
    clear kKp00_6 kKp01_6
    have kKx00_7 := Kx0_7.cell 0
    have kKx01_7 := Kx0_7.cell 1
    simp only [List.getElem?_cons_zero, List.getElem?_cons_succ] at kKx00_7 kKx01_7
    clear kKx00_6 kKx01_6
    have roG := oG.range
    go_wp2_with fail
    refine (laws_eqIntS _ _ _ _ _ _ _ _ _ rfl rfl oG.recs oW_7.recs (by omega) (by omega)).mono ?_; rintro e w8 ⟨rfl, hb8⟩
    have sz8 : w7.heap.size ≤ w8.heap.size := hb8.size
    have HW8 := below_go HW7 hb8
    have oW_8 := oW_7.up hb8
    have ox0_8 := ox0_7.up hb8
    have oG_8 := oG.up hb8
    have Kp0_8 := Kp0_7.up hb8
    have Kx0_8 := Kx0_7.up hb8
    have kKp00_8 := Kp0_8.cell 0
    have kKp01_8 := Kp0_8.cell 1
    simp only [List.getElem?_cons_zero, List.getElem?_cons_succ] at kKp00_8 kKp01_8
    clear kKp00_7 kKp01_7
    have kKx00_8 := Kx0_8.cell 0
    have kKx01_8 := Kx0_8.cell 1
    simp only [List.getElem?_cons_zero, List.getElem?_cons_succ] at kKx00_8 kKx01_8
    clear kKx00_7 kKx01_7
    go_wp2_with fail
    go_region_held3 (fun u => u.cell? ⟨w.heap.size, 0, none⟩ = some (.slice A0 l0.length c0) ∧ u.cell? ⟨w.heap.size, 1, none⟩ = some (.int .i64 x0) ∧ u.cell? ⟨w5.heap.size, 0, none⟩ = some (.slice (some ⟨gx0, 0, none⟩) l0.length l0.length) ∧ u.cell? ⟨w5.heap.size, 1, none⟩ = some (.int .i64 x0)) (first | exact ⟨by assumption, by assumption, by assumption, by assumption⟩) (first | (go_at_call 24; refine (laws_toMatch _ _ _ _ _ _ rfl (h0.below HW8 (Nat.le_refl _)).drew (by omega)).mono ?_; rintro e w9 ⟨gt0, rfl, ot0, hbd9⟩; have hb9 := below_of_drew hbd9; clear hbd9; have sz9 : w8.heap.size ≤ w9.heap.size := hb9.size; have HW9 := below_go HW8 hb9; have oW_9 := oW_8.up hb9; have ox0_9 := ox0_8.up hb9; have oG_9 := oG_8.up hb9; have Kp0_9 := Kp0_8.up hb9; have Kx0_9 := Kx0_8.up hb9; have kKp00_9 := Kp0_9.cell 0; have kKp01_9 := Kp0_9.cell 1; simp only [List.getElem?_cons_zero, List.getElem?_cons_succ] at kKp00_9 kKp01_9; clear kKp00_8 kKp01_8; have kKx00_9 := Kx0_9.cell 0; have kKx01_9 := Kx0_9.cell 1; simp only [List.getElem?_cons_zero, List.getElem?_cons_succ] at kKx00_9 kKx01_9; clear kKx00_8 kKx01_8; have rot0 := ot0.range) | (go_at_call 27; refine (laws_eqMatch _ _ _ _ _ _ _ _ _ _ _ rfl rfl ox0_9.recs ot0.recs (by omega) (by omega)).mono ?_; rintro e w10 ⟨rfl, hb10⟩; have sz10 : w9.heap.size ≤ w10.heap.size := hb10.size; have HW10 := below_go HW9 hb10; have oW_10 := oW_9.up hb10; have ox0_10 := ox0_9.up hb10; have oG_10 := oG_9.up hb10; have ot0_10 := ot0.up hb10; have Kp0_10 := Kp0_9.up hb10; have Kx0_10 := Kx0_9.up hb10; have kKp00_10 := Kp0_10.cell 0; have kKp01_10 := Kp0_10.cell 1; simp only [List.getElem?_cons_zero, List.getElem?_cons_succ] at kKp00_10 kKp01_10; clear kKp00_9 kKp01_9; have kKx00_10 := Kx0_10.cell 0; have kKx01_10 := Kx0_10.cell 1; simp only [List.getElem?_cons_zero, List.getElem?_cons_succ] at kKx00_10 kKx01_10; clear kKx00_9 kKx01_9))
    go_wp2_with fail
    have bm11 : w4.heap.size ≤ w10.heap.size := by omega
    refine (laws_markMatch _ _ _ _ _ _ _ _ ox0_10 bm11 (by omega) (by omega)).mono ?_; rintro e w11 ⟨rfl, ox0m, hg11, hb11⟩
    have sz11 : w10.heap.size ≤ w11.heap.size := hb11.size
    have HW11 := HW10.trans (hb11.mono (by omega))
    have oW_11 := oW_10.kept hg11 (roW.ne rox0 (by omega))
    have oG_11 := oG_10.kept hg11 (roG.ne rox0 (by omega))
    have Kp0_11 := Kp0_10.grown hg11 (rox0.out (by omega))
    have Kx0_11 := Kx0_10.grown hg11 (rox0.out (by omega))
    have kKp00_11 := Kp0_11.cell 0
    have kKp01_11 := Kp0_11.cell 1
    simp only [List.getElem?_cons_zero, List.getElem?_cons_succ] at kKp00_11 kKp01_11
    clear kKp00_10 kKp01_10
    have kKx00_11 := Kx0_11.cell 0
    have kKx01_11 := Kx0_11.cell 1
    simp only [List.getElem?_cons_zero, List.getElem?_cons_succ] at kKx00_11 kKx01_11
    clear kKx00_10 kKx01_10
    go_wp2_with fail
    refine (laws_eqIntS _ _ _ _ _ _ _ _ _ rfl rfl oG_11.recs oW_11.recs (by omega) (by omega)).mono ?_; rintro e w12 ⟨rfl, hb12⟩
    have sz12 : w11.heap.size ≤ w12.heap.size := hb12.size
    have HW12 := below_go HW11 hb12
    have oW_12 := oW_11.up hb12
    have ox0_12 := ox0m.up hb12
    have oG_12 := oG_11.up hb12
    have Kp0_12 := Kp0_11.up hb12
    have Kx0_12 := Kx0_11.up hb12
    have kKp00_12 := Kp0_12.cell 0
    have kKp01_12 := Kp0_12.cell 1
    simp only [List.getElem?_cons_zero, List.getElem?_cons_succ] at kKp00_12 kKp01_12
    clear kKp00_11 kKp01_11
    have kKx00_12 := Kx0_12.cell 0
    have kKx01_12 := Kx0_12.cell 1
    simp only [List.getElem?_cons_zero, List.getElem?_cons_succ] at kKx00_12 kKx01_12
    clear kKx00_11 kKx01_11
    go_wp2_with fail
    have bm13 : w6.heap.size ≤ w12.heap.size := by omega
    refine (laws_markIntS _ _ _ _ _ _ _ oG_12 bm13 (by omega) (by omega)).mono ?_; rintro e w13 ⟨rfl, oGm, hg13, hb13⟩
    have sz13 : w12.heap.size ≤ w13.heap.size := hb13.size
    have HW13 := HW12.trans (hb13.mono (by omega))
    have oW_13 := oW_12.kept hg13 (roW.ne roG (by omega))
    have ox0_13 := ox0_12.kept hg13 (rox0.ne roG (by omega))
    have Kp0_13 := Kp0_12.grown hg13 (roG.out (by omega))
    have Kx0_13 := Kx0_12.grown hg13 (roG.out (by omega))
    have kKp00_13 := Kp0_13.cell 0
    have kKp01_13 := Kp0_13.cell 1
    simp only [List.getElem?_cons_zero, List.getElem?_cons_succ] at kKp00_13 kKp01_13
    clear kKp00_12 kKp01_12
    have kKx00_13 := Kx0_13.cell 0
    have kKx01_13 := Kx0_13.cell 1
    simp only [List.getElem?_cons_zero, List.getElem?_cons_succ] at kKx00_13 kKx01_13
    clear kKx00_12 kKx01_12
    go_wp2_with fail
    refine (laws_heldIntS _ _ _ _ _ oGm.recs (by omega) (by omega)).mono ?_; rintro e w' ⟨rfl, rfl⟩
    go_wp2_with fail
    refine (laws_toMatch _ _ _ _ _ _ rfl (h0.below HW13 (Nat.le_refl _)) (by omega)).mono ?_; rintro e w14 ⟨gy0, rfl, oy0, hb14⟩
    have sz14 : w13.heap.size ≤ w14.heap.size := hb14.size
    have HW14 := below_go HW13 hb14
    have oW_14 := oW_13.up hb14
    have ox0_14 := ox0_13.up hb14
    have oG_14 := oGm.up hb14
    have Kp0_14 := Kp0_13.up hb14
    have Kx0_14 := Kx0_13.up hb14
    have kKp00_14 := Kp0_14.cell 0
    have kKp01_14 := Kp0_14.cell 1
    simp only [List.getElem?_cons_zero, List.getElem?_cons_succ] at kKp00_14 kKp01_14
    clear kKp00_13 kKp01_13
    have kKx00_14 := Kx0_14.cell 0
    have kKx01_14 := Kx0_14.cell 1
    simp only [List.getElem?_cons_zero, List.getElem?_cons_succ] at kKx00_14 kKx01_14
    clear kKx00_13 kKx01_13
    have roy0 := oy0.range
    go_wp2_with fail
    refine (impl_MissedIn rfl oy0.recs (by omega)).mono ?_; rintro e w15 ⟨AH, cH, rfl, oH, nH, hb15⟩
    have sz15 : w14.heap.size ≤ w15.heap.size := hb15.size
    have HW15 := below_go HW14 hb15
    have oW_15 := oW_14.up hb15
    have ox0_15 := ox0_14.up hb15
    have oG_15 := oG_14.up hb15
    have oy0_15 := oy0.up hb15
    have Kp0_15 := Kp0_14.up hb15
    have Kx0_15 := Kx0_14.up hb15
    have kKp00_15 := Kp0_15.cell 0
    have kKp01_15 := Kp0_15.cell 1
    simp only [List.getElem?_cons_zero, List.getElem?_cons_succ] at kKp00_15 kKp01_15
    clear kKp00_14 kKp01_14
    have kKx00_15 := Kx0_15.cell 0
    have kKx01_15 := Kx0_15.cell 1
    simp only [List.getElem?_cons_zero, List.getElem?_cons_succ] at kKx00_15 kKx01_15
    clear kKx00_14 kKx01_14
    have roH := oH.range
    go_wp2_with fail
    refine (laws_eqIntS _ _ _ _ _ _ _ _ _ rfl rfl oH.recs oW_15.recs (by omega) (by omega)).mono ?_; rintro e w16 ⟨rfl, hb16⟩
    have sz16 : w15.heap.size ≤ w16.heap.size := hb16.size
    have HW16 := below_go HW15 hb16
    have oW_16 := oW_15.up hb16
    have ox0_16 := ox0_15.up hb16
    have oG_16 := oG_15.up hb16
    have oy0_16 := oy0_15.up hb16
    have oH_16 := oH.up hb16
    have Kp0_16 := Kp0_15.up hb16
    have Kx0_16 := Kx0_15.up hb16
    have kKp00_16 := Kp0_16.cell 0
    have kKp01_16 := Kp0_16.cell 1
    simp only [List.getElem?_cons_zero, List.getElem?_cons_succ] at kKp00_16 kKp01_16
    clear kKp00_15 kKp01_15
    have kKx00_16 := Kx0_16.cell 0
    have kKx01_16 := Kx0_16.cell 1
    simp only [List.getElem?_cons_zero, List.getElem?_cons_succ] at kKx00_16 kKx01_16
    clear kKx00_15 kKx01_15
    go_wp2_with fail
    refine (laws_heldIntS _ _ _ _ _ oG_16.recs (by omega) (by omega)).mono ?_; rintro e w' ⟨rfl, rfl⟩
    go_wp2
    go_ret
    exact ⟨rfl, HW16⟩
  · go_in
    go_wp2_with fail
    refine (laws_szMatch_no _ _ _ _ _ _ (by omega) (by omega) hm0).mono ?_; rintro e wz0 ⟨rfl, hbz0⟩
    go_wp2
    go_ret
    exact ⟨rfl, by (repeat' (first | (with_reducible exact Below.refl _ _) | (with_reducible assumption) | (with_reducible refine below_drewN ?_ _) | (with_reducible refine Below.drew ?_) | (with_reducible refine below_alloc ?_ _) | (with_reducible refine Below.alloc ?_ ?_ _) | (with_reducible refine Below.setCell ?_ ?_ _) | (with_reducible refine below_go ?_ (by with_reducible assumption)) | (with_reducible refine below_then (by with_reducible assumption) ?_ ?_) | go_size))⟩
end Go.Proofs.Ytnoipbldgondiaa
