/- The walk through FnExactExtraIn: both sides give the same, the arguments are left alone, the result is memory of its own. -/
import Derived.Test.YtnoipbldgondiaaMore
import Derived.Test.YtnoipbldgondiaaCints
import Derived.Test.YtnoipbldgondiaaCmatch
import Derived.Test.YtnoipbldgondiaaW22m
namespace Go.Proofs.Ytnoipbldgondiaa
set_option linter.unusedVariables false
set_option linter.unusedSimpArgs false
open Go.ChangeShapes Go.WideShapes Go.ChangeAt Go.RowKit Go.Deep
set_option maxHeartbeats 2000000 in
theorem law_ExtraIn (x0 : Int) (A1 : Option Addr) (c1 : Nat) (l1 : List Int) (x1 : Int) (w : World) (_hx0 : -9223372036854775808 ≤ x0 ∧ x0 ≤ 9223372036854775807) (h1 : Recs intE 1 w A1 l1) (hm1 : l1.length ≤ 9223372036854775807) (_hb1 : ∀ x ∈ l1, -9223372036854775808 ≤ x ∧ x ≤ 9223372036854775807) (_hx1 : -9223372036854775808 ≤ x1 ∧ x1 ≤ 9223372036854775807) :
    Calls Try.prog 7 #[.int .i64 x0, .agg #[.slice A1 l1.length c1, .int .i64 x1]] w fun e w' => e = .returned (.bool true) ∧ Below w.heap.size w w' := by
  clear _hx0 _hb1 _hx1
  by_cases hz1 : (l1.length : Int) ≤ 1048576
  · go_in
    go_wp2_with fail
    have hb1 : Below w.heap.size w (w.alloc (.cells #[.slice A1 l1.length c1, .int .i64 x1] 33)) := by (repeat' (first | (with_reducible exact Below.refl _ _) | (with_reducible assumption) | (with_reducible refine below_drewN ?_ _) | (with_reducible refine Below.drew ?_) | (with_reducible refine below_alloc ?_ _) | (with_reducible refine Below.alloc ?_ ?_ _) | (with_reducible refine Below.setCell ?_ ?_ _) | (with_reducible refine below_go ?_ (by with_reducible assumption)) | (with_reducible refine below_then (by with_reducible assumption) ?_ ?_) | go_size))
    have Kp1 := Blk.at_ w 33 [.slice A1 l1.length c1, .int .i64 x1] (b := w.heap.size) rfl
    have qp1 : w.heap.size < (w.alloc (.cells #[.slice A1 l1.length c1, .int .i64 x1] 33)).heap.size := by simp
    obtain ⟨w1, hw1⟩ : ∃ u, u = (w.alloc (.cells #[.slice A1 l1.length c1, .int .i64 x1] 33)) := ⟨_, rfl⟩
    rw [← hw1] at hb1 Kp1 qp1 ⊢
    clear hw1
    have sz1 : w.heap.size ≤ w1.heap.size := hb1.size
    have HW1 := hb1
    have kKp10_1 := Kp1.cell 0
    have kKp11_1 := Kp1.cell 1
    simp only [List.getElem?_cons_zero, List.getElem?_cons_succ] at kKp10_1 kKp11_1
    refine (laws_szMatch_ok _ _ _ _ _ _ (by omega) (by omega)).mono ?_; rintro e w2 ⟨rfl, hb2⟩
    have sz2 : w1.heap.size ≤ w2.heap.size := hb2.size
    have HW2 := below_go HW1 hb2
    have Kp1_2 := Kp1.up hb2
    have kKp10_2 := Kp1_2.cell 0
    have kKp11_2 := Kp1_2.cell 1
    simp only [List.getElem?_cons_zero, List.getElem?_cons_succ] at kKp10_2 kKp11_2
    clear kKp10_1 kKp11_1
    go_wp2_with fail
    refine (laws_toMatch _ _ _ _ _ _ rfl (h1.below HW2 (Nat.le_refl _)) (by omega)).mono ?_; rintro e w3 ⟨gs1, rfl, os1, hb3⟩
    have sz3 : w2.heap.size ≤ w3.heap.size := hb3.size
    have HW3 := below_go HW2 hb3
    have Kp1_3 := Kp1_2.up hb3
    have kKp10_3 := Kp1_3.cell 0
    have kKp11_3 := Kp1_3.cell 1
    simp only [List.getElem?_cons_zero, List.getElem?_cons_succ] at kKp10_3 kKp11_3
    clear kKp10_2 kKp11_2
    have ros1 := os1.range
    go_wp2_with fail
    refine (spec_ExtraIn rfl os1.recs (by omega)).mono ?_; rintro e w4 ⟨AW, cW, rfl, oW, nW, hb4⟩
    have sz4 : w3.heap.size ≤ w4.heap.size := hb4.size
    have HW4 := below_go HW3 hb4
    have os1_4 := os1.up hb4
    have Kp1_4 := Kp1_3.up hb4
    have kKp10_4 := Kp1_4.cell 0
    have kKp11_4 := Kp1_4.cell 1
    simp only [List.getElem?_cons_zero, List.getElem?_cons_succ] at kKp10_4 kKp11_4
    clear kKp10_3 kKp11_3
    have roW := oW.range
    go_wp2_with fail
    refine (laws_toMatch _ _ _ _ _ _ rfl (h1.below HW4 (Nat.le_refl _)) (by omega)).mono ?_; rintro e w5 ⟨gx1, rfl, ox1, hb5⟩
    have sz5 : w4.heap.size ≤ w5.heap.size := hb5.size
    have HW5 := below_go HW4 hb5
    have oW_5 := oW.up hb5
    have Kp1_5 := Kp1_4.up hb5
    have kKp10_5 := Kp1_5.cell 0
    have kKp11_5 := Kp1_5.cell 1
    simp only [List.getElem?_cons_zero, List.getElem?_cons_succ] at kKp10_5 kKp11_5
    clear kKp10_4 kKp11_4
    have rox1 := ox1.range
    go_wp2_with fail
    have hb6 : Below w5.heap.size w5 (w5.alloc (.cells #[.slice (some ⟨gx1, 0, none⟩) l1.length l1.length, .int .i64 x1] 37)) := by (repeat' (first | (with_reducible exact Below.refl _ _) | (with_reducible assumption) | (with_reducible refine below_drewN ?_ _) | (with_reducible refine Below.drew ?_) | (with_reducible refine below_alloc ?_ _) | (with_reducible refine Below.alloc ?_ ?_ _) | (with_reducible refine Below.setCell ?_ ?_ _) | (with_reducible refine below_go ?_ (by with_reducible assumption)) | (with_reducible refine below_then (by with_reducible assumption) ?_ ?_) | go_size))
    have Kx1 := Blk.at_ w5 37 [.slice (some ⟨gx1, 0, none⟩) l1.length l1.length, .int .i64 x1] (b := w5.heap.size) rfl
    have qx1 : w5.heap.size < (w5.alloc (.cells #[.slice (some ⟨gx1, 0, none⟩) l1.length l1.length, .int .i64 x1] 37)).heap.size := by simp
    obtain ⟨w6, hw6⟩ : ∃ u, u = (w5.alloc (.cells #[.slice (some ⟨gx1, 0, none⟩) l1.length l1.length, .int .i64 x1] 37)) := ⟨_, rfl⟩
    rw [← hw6] at hb6 Kx1 qx1 ⊢
    clear hw6
    have sz6 : w5.heap.size ≤ w6.heap.size := hb6.size
    have HW6 := below_go HW5 hb6
    have oW_6 := oW_5.up hb6
    have ox1_6 := ox1.up hb6
    have Kp1_6 := Kp1_5.up hb6
    have kKp10_6 := Kp1_6.cell 0
    have kKp11_6 := Kp1_6.cell 1
    simp only [List.getElem?_cons_zero, List.getElem?_cons_succ] at kKp10_6 kKp11_6
    clear kKp10_5 kKp11_5
    have kKx10_6 := Kx1.cell 0
    have kKx11_6 := Kx1.cell 1
    simp only [List.getElem?_cons_zero, List.getElem?_cons_succ] at kKx10_6 kKx11_6
    refine (impl_ExtraIn rfl ox1_6.recs (by omega)).mono ?_; rintro e w7 ⟨AG, cG, rfl, oG, nG, hb7⟩
    have sz7 : w6.heap.size ≤ w7.heap.size := hb7.size
    have HW7 := below_go HW6 hb7
    have oW_7 := oW_6.up hb7
    have ox1_7 := ox1_6.up hb7
    have Kp1_7 := Kp1_6.up hb7
    have Kx1_7 := Kx1.up hb7
    have kKp10_7 := Kp1_7.cell 0
    have kKp11_7 := Kp1_7.cell 1
    simp only [List.getElem?_cons_zero, List.getElem?_cons_succ] at kKp10_7 kKp11_7
    clear kKp10_6 kKp11_6
    have kKx10_7 := Kx1_7.cell 0
    have kKx11_7 := Kx1_7.cell 1
    simp only [List.getElem?_cons_zero, List.getElem?_cons_succ] at kKx10_7 kKx11_7
    clear kKx10_6 kKx11_6
    have roG := oG.range
    go_wp2_with fail
    refine (laws_eqIntS _ _ _ _ _ _ _ _ _ rfl rfl oG.recs oW_7.recs (by omega) (by omega)).mono ?_; rintro e w8 ⟨rfl, hb8⟩
    have sz8 : w7.heap.size ≤ w8.heap.size := hb8.size
    have HW8 := below_go HW7 hb8
    have oW_8 := oW_7.up hb8
    have ox1_8 := ox1_7.up hb8
    have oG_8 := oG.up hb8
    have Kp1_8 := Kp1_7.up hb8
    have Kx1_8 := Kx1_7.up hb8
    have kKp10_8 := Kp1_8.cell 0
    have kKp11_8 := Kp1_8.cell 1
    simp only [List.getElem?_cons_zero, List.getElem?_cons_succ] at kKp10_8 kKp11_8
    clear kKp10_7 kKp11_7
    have kKx10_8 := Kx1_8.cell 0
    have kKx11_8 := Kx1_8.cell 1
    simp only [List.getElem?_cons_zero, List.getElem?_cons_succ] at kKx10_8 kKx11_8
    clear kKx10_7 kKx11_7
    go_wp2_with fail
    go_region_held3 (fun u => u.cell? ⟨w.heap.size, 0, none⟩ = some (.slice A1 l1.length c1) ∧ u.cell? ⟨w.heap.size, 1, none⟩ = some (.int .i64 x1) ∧ u.cell? ⟨w5.heap.size, 0, none⟩ = some (.slice (some ⟨gx1, 0, none⟩) l1.length l1.length) ∧ u.cell? ⟨w5.heap.size, 1, none⟩ = some (.int .i64 x1)) (first | exact ⟨by assumption, by assumption, by assumption, by assumption⟩) (first | (go_at_call 24; refine (laws_toMatch _ _ _ _ _ _ rfl (h1.below HW8 (Nat.le_refl _)).drew (by omega)).mono ?_; rintro e w9 ⟨gt1, rfl, ot1, hbd9⟩; have hb9 := below_of_drew hbd9; clear hbd9; have sz9 : w8.heap.size ≤ w9.heap.size := hb9.size; have HW9 := below_go HW8 hb9; have oW_9 := oW_8.up hb9; have ox1_9 := ox1_8.up hb9; have oG_9 := oG_8.up hb9; have Kp1_9 := Kp1_8.up hb9; have Kx1_9 := Kx1_8.up hb9; have kKp10_9 := Kp1_9.cell 0; have kKp11_9 := Kp1_9.cell 1; simp only [List.getElem?_cons_zero, List.getElem?_cons_succ] at kKp10_9 kKp11_9; clear kKp10_8 kKp11_8; have kKx10_9 := Kx1_9.cell 0; have kKx11_9 := Kx1_9.cell 1; simp only [List.getElem?_cons_zero, List.getElem?_cons_succ] at kKx10_9 kKx11_9; clear kKx10_8 kKx11_8; have rot1 := ot1.range) | (go_at_call 27; refine (laws_eqMatch _ _ _ _ _ _ _ _ _ _ _ rfl rfl ox1_9.recs ot1.recs (by omega) (by omega)).mono ?_; rintro e w10 ⟨rfl, hb10⟩; have sz10 : w9.heap.size ≤ w10.heap.size := hb10.size; have HW10 := below_go HW9 hb10; have oW_10 := oW_9.up hb10; have ox1_10 := ox1_9.up hb10; have oG_10 := oG_9.up hb10; have ot1_10 := ot1.up hb10; have Kp1_10 := Kp1_9.up hb10; have Kx1_10 := Kx1_9.up hb10; have kKp10_10 := Kp1_10.cell 0; have kKp11_10 := Kp1_10.cell 1; simp only [List.getElem?_cons_zero, List.getElem?_cons_succ] at kKp10_10 kKp11_10; clear kKp10_9 kKp11_9; have kKx10_10 := Kx1_10.cell 0; have kKx11_10 := Kx1_10.cell 1; simp only [List.getElem?_cons_zero, List.getElem?_cons_succ] at kKx10_10 kKx11_10; clear kKx10_9 kKx11_9))
    go_wp2_with fail
    have bm11 : w4.heap.size ≤ w10.heap.size := by omega
    refine (laws_markMatch _ _ _ _ _ _ _ _ ox1_10 bm11 (by omega) (by omega)).mono ?_; rintro e w11 ⟨rfl, ox1m, hg11, hb11⟩
    have sz11 : w10.heap.size ≤ w11.heap.size := hb11.size
    have HW11 := HW10.trans (hb11.mono (by omega))
    have oW_11 := oW_10.kept hg11 (roW.ne rox1 (by omega))
    have oG_11 := oG_10.kept hg11 (roG.ne rox1 (by omega))
    have Kp1_11 := Kp1_10.grown hg11 (rox1.out (by omega))
    have Kx1_11 := Kx1_10.grown hg11 (rox1.out (by omega))
    have kKp10_11 := Kp1_11.cell 0
    have kKp11_11 := Kp1_11.cell 1
    simp only [List.getElem?_cons_zero, List.getElem?_cons_succ] at kKp10_11 kKp11_11
    clear kKp10_10 kKp11_10
    have kKx10_11 := Kx1_11.cell 0
    have kKx11_11 := Kx1_11.cell 1
    simp only [List.getElem?_cons_zero, List.getElem?_cons_succ] at kKx10_11 kKx11_11
    clear kKx10_10 kKx11_10
    go_wp2_with fail
    refine (laws_eqIntS _ _ _ _ _ _ _ _ _ rfl rfl oG_11.recs oW_11.recs (by omega) (by omega)).mono ?_; rintro e w12 ⟨rfl, hb12⟩
    have sz12 : w11.heap.size ≤ w12.heap.size := hb12.size
    have HW12 := below_go HW11 hb12
    have oW_12 := oW_11.up hb12
    have ox1_12 := ox1m.up hb12
    have oG_12 := oG_11.up hb12
    have Kp1_12 := Kp1_11.up hb12
    have Kx1_12 := Kx1_11.up hb12
    have kKp10_12 := Kp1_12.cell 0
    have kKp11_12 := Kp1_12.cell 1
    simp only [List.getElem?_cons_zero, List.getElem?_cons_succ] at kKp10_12 kKp11_12
    clear kKp10_11 kKp11_11
    have kKx10_12 := Kx1_12.cell 0
    have kKx11_12 := Kx1_12.cell 1
    simp only [List.getElem?_cons_zero, List.getElem?_cons_succ] at kKx10_12 kKx11_12
    clear kKx10_11 kKx11_11
    go_wp2_with fail
    have bm13 : w6.heap.size ≤ w12.heap.size := by omega
    refine (laws_markIntS _ _ _ _ _ _ _ oG_12 bm13 (by omega) (by omega)).mono ?_; rintro e w13 ⟨rfl, oGm, hg13, hb13⟩
    have sz13 : w12.heap.size ≤ w13.heap.size := hb13.size
    have HW13 := HW12.trans (hb13.mono (by omega))
    have oW_13 := oW_12.kept hg13 (roW.ne roG (by omega))
    have ox1_13 := ox1_12.kept hg13 (rox1.ne roG (by omega))
    have Kp1_13 := Kp1_12.grown hg13 (roG.out (by omega))
    have Kx1_13 := Kx1_12.grown hg13 (roG.out (by omega))
    have kKp10_13 := Kp1_13.cell 0
    have kKp11_13 := Kp1_13.cell 1
    simp only [List.getElem?_cons_zero, List.getElem?_cons_succ] at kKp10_13 kKp11_13
    clear kKp10_12 kKp11_12
    have kKx10_13 := Kx1_13.cell 0
    have kKx11_13 := Kx1_13.cell 1
    simp only [List.getElem?_cons_zero, List.getElem?_cons_succ] at kKx10_13 kKx11_13
    clear kKx10_12 kKx11_12
    go_wp2_with fail
    refine (laws_heldIntS _ _ _ _ _ oGm.recs (by omega) (by omega)).mono ?_; rintro e w' ⟨rfl, rfl⟩
    go_wp2_with fail
    refine (laws_toMatch _ _ _ _ _ _ rfl (h1.below HW13 (Nat.le_refl _)) (by omega)).mono ?_; rintro e w14 ⟨gy1, rfl, oy1, hb14⟩
    have sz14 : w13.heap.size ≤ w14.heap.size := hb14.size
    have HW14 := below_go HW13 hb14
    have oW_14 := oW_13.up hb14
    have ox1_14 := ox1_13.up hb14
    have oG_14 := oGm.up hb14
    have Kp1_14 := Kp1_13.up hb14
    have Kx1_14 := Kx1_13.up hb14
    have kKp10_14 := Kp1_14.cell 0
    have kKp11_14 := Kp1_14.cell 1
    simp only [List.getElem?_cons_zero, List.getElem?_cons_succ] at kKp10_14 kKp11_14
    clear kKp10_13 kKp11_13
    have kKx10_14 := Kx1_14.cell 0
    have kKx11_14 := Kx1_14.cell 1
    simp only [List.getElem?_cons_zero, List.getElem?_cons_succ] at kKx10_14 kKx11_14
    clear kKx10_13 kKx11_13
    have roy1 := oy1.range
    go_wp2_with fail
    refine (impl_ExtraIn rfl oy1.recs (by omega)).mono ?_; rintro e w15 ⟨AH, cH, rfl, oH, nH, hb15⟩
    have sz15 : w14.heap.size ≤ w15.heap.size := hb15.size
    have HW15 := below_go HW14 hb15
    have oW_15 := oW_14.up hb15
    have ox1_15 := ox1_14.up hb15
    have oG_15 := oG_14.up hb15
    have oy1_15 := oy1.up hb15
    have Kp1_15 := Kp1_14.up hb15
    have Kx1_15 := Kx1_14.up hb15
    have kKp10_15 := Kp1_15.cell 0
    have kKp11_15 := Kp1_15.cell 1
    simp only [List.getElem?_cons_zero, List.getElem?_cons_succ] at kKp10_15 kKp11_15
    clear kKp10_14 kKp11_14
    have kKx10_15 := Kx1_15.cell 0
    have kKx11_15 := Kx1_15.cell 1
    simp only [List.getElem?_cons_zero, List.getElem?_cons_succ] at kKx10_15 kKx11_15
    clear kKx10_14 kKx11_14
    have roH := oH.range
    go_wp2_with fail
    refine (laws_eqIntS _ _ _ _ _ _ _ _ _ rfl rfl oH.recs oW_15.recs (by omega) (by omega)).mono ?_; rintro e w16 ⟨rfl, hb16⟩
    have sz16 : w15.heap.size ≤ w16.heap.size := hb16.size
    have HW16 := below_go HW15 hb16
    have oW_16 := oW_15.up hb16
    have ox1_16 := ox1_15.up hb16
    have oG_16 := oG_15.up hb16
    have oy1_16 := oy1_15.up hb16
    have oH_16 := oH.up hb16
    have Kp1_16 := Kp1_15.up hb16
    have Kx1_16 := Kx1_15.up hb16
    have kKp10_16 := Kp1_16.cell 0
    have kKp11_16 := Kp1_16.cell 1
    simp only [List.getElem?_cons_zero, List.getElem?_cons_succ] at kKp10_16 kKp11_16
    clear kKp10_15 kKp11_15
    have kKx10_16 := Kx1_16.cell 0
    have kKx11_16 := Kx1_16.cell 1
    simp only [List.getElem?_cons_zero, List.getElem?_cons_succ] at kKx10_16 kKx11_16
    clear kKx10_15 kKx11_15
    go_wp2_with fail
    refine (laws_heldIntS _ _ _ _ _ oG_16.recs (by omega) (by omega)).mono ?_; rintro e w' ⟨rfl, rfl⟩
    go_wp2
    go_ret
    exact ⟨rfl, HW16⟩
  · go_in
    go_wp2_with fail
    refine (laws_szMatch_no _ _ _ _ _ _ (by omega) (by omega) hm1).mono ?_; rintro e wz1 ⟨rfl, hbz1⟩
    go_wp2
    go_ret
    exact ⟨rfl, by (repeat' (first | (with_reducible exact Below.refl _ _) | (with_reducible assumption) | (with_reducible refine below_drewN ?_ _) | (with_reducible refine Below.drew ?_) | (with_reducible refine below_alloc ?_ _) | (with_reducible refine Below.alloc ?_ ?_ _) | (with_reducible refine Below.setCell ?_ ?_ _) | (with_reducible refine below_go ?_ (by with_reducible assumption)) | (with_reducible refine below_then (by with_reducible assumption) ?_ ?_) | go_size))⟩
end Go.Proofs.Ytnoipbldgondiaa
