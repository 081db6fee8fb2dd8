/- The walk through FnExactErrorsOf: both sides give the same, the arguments are left alone, the result is memory of its own. -/
import Derived.Test.YtcpfcgcdahhnjaaCblow
import Derived.Test.YtcpfcgcdahhnjaaCints
import Derived.Test.YtcpfcgcdahhnjaaW23e
namespace Go.Proofs.Ytcpfcgcdahhnjaa
set_option linter.unusedVariables false
set_option linter.unusedSimpArgs false
open Go.ChangeShapes Go.WideShapes Go.ChangeAt Go.RowKit Go.Deep
set_option maxHeartbeats 2000000 in
theorem law_ErrorsOf (x0 : Int) (A1 : Option Addr) (c1 : Nat) (l1 : List (Int × Int × Int)) (x2 y2 z2 : Int) (w : World) (_hx0 : -9223372036854775808 ≤ x0 ∧ x0 ≤ 9223372036854775807) (h1 : Recs blowE 3 w A1 l1) (hm1 : l1.length ≤ 9223372036854775807) (_hb1 : ∀ x ∈ l1, I64 x.1 ∧ I64 x.2.1 ∧ I64 x.2.2) (_hx2 : -9223372036854775808 ≤ x2 ∧ x2 ≤ 9223372036854775807) (_hy2 : -9223372036854775808 ≤ y2 ∧ y2 ≤ 9223372036854775807) (_hz2 : -9223372036854775808 ≤ z2 ∧ z2 ≤ 9223372036854775807) :
    Calls Try.prog 3 #[.int .i64 x0, .slice A1 l1.length c1, .agg #[.int .i64 x2, .int .i64 y2, .int .i64 z2]] w fun e w' => e = .returned (.bool true) ∧ Below w.heap.size w w' := by
  clear _hx0 _hb1 _hx2 _hy2 _hz2
  by_cases hz1 : (l1.length : Int) ≤ 1048576
  · go_in
    go_wp2_with fail
    have hb1 : Below w.heap.size w (w.alloc (.cells #[.int .i64 x2, .int .i64 y2, .int .i64 z2] 24)) := by (repeat' (first | (with_reducible exact Below.refl _ _) | (with_reducible assumption) | (with_reducible refine below_drewN ?_ _) | (with_reducible refine Below.drew ?_) | (with_reducible refine below_alloc ?_ _) | (with_reducible refine Below.alloc ?_ ?_ _) | (with_reducible refine Below.setCell ?_ ?_ _) | (with_reducible refine below_go ?_ (by with_reducible assumption)) | (with_reducible refine below_then (by with_reducible assumption) ?_ ?_) | go_size))
    have Kp2 := Blk.at_ w 24 [.int .i64 x2, .int .i64 y2, .int .i64 z2] (b := w.heap.size) rfl
    have qp2 : w.heap.size < (w.alloc (.cells #[.int .i64 x2, .int .i64 y2, .int .i64 z2] 24)).heap.size := by simp
    obtain ⟨w1, hw1⟩ : ∃ u, u = (w.alloc (.cells #[.int .i64 x2, .int .i64 y2, .int .i64 z2] 24)) := ⟨_, rfl⟩
    rw [← hw1] at hb1 Kp2 qp2 ⊢
    clear hw1
    have sz1 : w.heap.size ≤ w1.heap.size := hb1.size
    have HW1 := hb1
    have kKp20_1 := Kp2.cell 0
    have kKp21_1 := Kp2.cell 1
    have kKp22_1 := Kp2.cell 2
    simp only [List.getElem?_cons_zero, List.getElem?_cons_succ] at kKp20_1 kKp21_1 kKp22_1
    refine (laws_szBlowS_ok _ _ _ _ _ (by omega) (by omega)).mono ?_; rintro e w' ⟨rfl, rfl⟩
    go_wp2_with fail
    go_region_held3 (fun u => u.cell? ⟨w.heap.size, 0, none⟩ = some (.int .i64 x2) ∧ u.cell? ⟨w.heap.size, 1, none⟩ = some (.int .i64 y2) ∧ u.cell? ⟨w.heap.size, 2, none⟩ = some (.int .i64 z2)) (first | exact ⟨by assumption, by assumption, by assumption⟩) (first | (go_at_call 17; refine (laws_toBlowS _ _ _ _ _ rfl (h1.below HW1 (Nat.le_refl _)).drew (by omega)).mono ?_; rintro e w2 ⟨gs1, rfl, os1, hbd2⟩; have hb2 := below_of_drew hbd2; clear hbd2; have sz2 : w1.heap.size ≤ w2.heap.size := hb2.size; have HW2 := below_go HW1 hb2; have Kp2_2 := Kp2.up hb2; have kKp20_2 := Kp2_2.cell 0; have kKp21_2 := Kp2_2.cell 1; have kKp22_2 := Kp2_2.cell 2; simp only [List.getElem?_cons_zero, List.getElem?_cons_succ] at kKp20_2 kKp21_2 kKp22_2; clear kKp20_1 kKp21_1 kKp22_1; have ros1 := os1.range) | (go_at_call 18; refine (laws_toBeat _ _ _ _).mono ?_; rintro e w3 ⟨rfl, hb3⟩; have sz3 : w2.heap.size ≤ w3.heap.size := hb3.size; have HW3 := below_go HW2 hb3; have os1_3 := os1.up hb3; have Kp2_3 := Kp2_2.up hb3; have kKp20_3 := Kp2_3.cell 0; have kKp21_3 := Kp2_3.cell 1; have kKp22_3 := Kp2_3.cell 2; simp only [List.getElem?_cons_zero, List.getElem?_cons_succ] at kKp20_3 kKp21_3 kKp22_3; clear kKp20_2 kKp21_2 kKp22_2) | (go_at_call 16; refine (spec_ErrorsOf rfl os1_3.recs (by omega) (Nat.le_refl _) (by omega)).mono ?_; rintro e w4 ⟨AW, cW, rfl, oW, nW, hb4⟩; have sz4 : w3.heap.size ≤ w4.heap.size := hb4.size; have HW4 := below_go HW3 hb4; have os1_4 := os1_3.up hb4; have Kp2_4 := Kp2_3.up hb4; have kKp20_4 := Kp2_4.cell 0; have kKp21_4 := Kp2_4.cell 1; have kKp22_4 := Kp2_4.cell 2; simp only [List.getElem?_cons_zero, List.getElem?_cons_succ] at kKp20_4 kKp21_4 kKp22_4; clear kKp20_3 kKp21_3 kKp22_3; have roW := oW.range))
    go_wp2_with fail
    refine (laws_toBlowS _ _ _ _ _ rfl (h1.below HW4 (Nat.le_refl _)) (by omega)).mono ?_; rintro e w5 ⟨gx1, rfl, ox1, hb5⟩
    have sz5 : w4.heap.size ≤ w5.heap.size := hb5.size
    have HW5 := below_go HW4 hb5
    have oW_5 := oW.up hb5
    have Kp2_5 := Kp2_4.up hb5
    have kKp20_5 := Kp2_5.cell 0
    have kKp21_5 := Kp2_5.cell 1
    have kKp22_5 := Kp2_5.cell 2
    simp only [List.getElem?_cons_zero, List.getElem?_cons_succ] at kKp20_5 kKp21_5 kKp22_5
    clear kKp20_4 kKp21_4 kKp22_4
    have rox1 := ox1.range
    go_wp2_with fail
    refine (laws_toBeat _ _ _ _).mono ?_; rintro e w6 ⟨rfl, hb6⟩
    have sz6 : w5.heap.size ≤ w6.heap.size := hb6.size
    have HW6 := below_go HW5 hb6
    have oW_6 := oW_5.up hb6
    have ox1_6 := ox1.up hb6
    have Kp2_6 := Kp2_5.up hb6
    have kKp20_6 := Kp2_6.cell 0
    have kKp21_6 := Kp2_6.cell 1
    have kKp22_6 := Kp2_6.cell 2
    simp only [List.getElem?_cons_zero, List.getElem?_cons_succ] at kKp20_6 kKp21_6 kKp22_6
    clear kKp20_5 kKp21_5 kKp22_5
    go_wp2_with fail
    refine (impl_ErrorsOf rfl ox1_6.recs (by omega)).mono ?_; rintro e w7 ⟨AG, cG, rfl, oG, nG, hb7⟩
    have sz7 : w6.heap.size ≤ w7.heap.size := hb7.size
    have HW7 := below_go HW6 hb7
    have oW_7 := oW_6.up hb7
    have ox1_7 := ox1_6.up hb7
    have Kp2_7 := Kp2_6.up hb7
    have kKp20_7 := Kp2_7.cell 0
    have kKp21_7 := Kp2_7.cell 1
    have kKp22_7 := Kp2_7.cell 2
    simp only [List.getElem?_cons_zero, List.getElem?_cons_succ] at kKp20_7 kKp21_7 kKp22_7
    clear kKp20_6 kKp21_6 kKp22_6
    have roG := oG.range
    go_wp2_with fail
    refine (laws_eqIntS _ _ _ _ _ _ _ _ _ rfl rfl oG.recs oW_7.recs (by omega) (by omega)).mono ?_; rintro e w8 ⟨rfl, hb8⟩
    have sz8 : w7.heap.size ≤ w8.heap.size := hb8.size
    have HW8 := below_go HW7 hb8
    have oW_8 := oW_7.up hb8
    have ox1_8 := ox1_7.up hb8
    have oG_8 := oG.up hb8
    have Kp2_8 := Kp2_7.up hb8
    have kKp20_8 := Kp2_8.cell 0
    have kKp21_8 := Kp2_8.cell 1
    have kKp22_8 := Kp2_8.cell 2
    simp only [List.getElem?_cons_zero, List.getElem?_cons_succ] at kKp20_8 kKp21_8 kKp22_8
    clear kKp20_7 kKp21_7 kKp22_7
    go_wp2_with fail
    refine (laws_toBlowS _ _ _ _ _ rfl (h1.below HW8 (Nat.le_refl _)) (by omega)).mono ?_; rintro e w9 ⟨gt1, rfl, ot1, hb9⟩
    have sz9 : w8.heap.size ≤ w9.heap.size := hb9.size
    have HW9 := below_go HW8 hb9
    have oW_9 := oW_8.up hb9
    have ox1_9 := ox1_8.up hb9
    have oG_9 := oG_8.up hb9
    have Kp2_9 := Kp2_8.up hb9
    have kKp20_9 := Kp2_9.cell 0
    have kKp21_9 := Kp2_9.cell 1
    have kKp22_9 := Kp2_9.cell 2
    simp only [List.getElem?_cons_zero, List.getElem?_cons_succ] at kKp20_9 kKp21_9 kKp22_9
    clear kKp20_8 kKp21_8 kKp22_8
    have rot1 := ot1.range
    go_wp2_with fail
    refine (laws_eqBlowS _ _ _ _ _ _ _ _ _ rfl rfl ox1_9.recs ot1.recs (by omega) (by omega)).mono ?_; rintro e w10 ⟨rfl, hb10⟩
    have sz10 : w9.heap.size ≤ w10.heap.size := hb10.size
    have HW10 := below_go HW9 hb10
    have oW_10 := oW_9.up hb10
    have ox1_10 := ox1_9.up hb10
    have oG_10 := oG_9.up hb10
    have ot1_10 := ot1.up hb10
    have Kp2_10 := Kp2_9.up hb10
    have kKp20_10 := Kp2_10.cell 0
    have kKp21_10 := Kp2_10.cell 1
    have kKp22_10 := Kp2_10.cell 2
    simp only [List.getElem?_cons_zero, List.getElem?_cons_succ] at kKp20_10 kKp21_10 kKp22_10
    clear kKp20_9 kKp21_9 kKp22_9
    go_wp2_with fail
    have bm11 : w4.heap.size ≤ w10.heap.size := by omega
    refine (laws_markBlowS _ _ _ _ _ _ _ ox1_10 bm11 (by omega) (by omega)).mono ?_; rintro e w11 ⟨rfl, ox1m, hg11, hb11⟩
    have sz11 : w10.heap.size ≤ w11.heap.size := hb11.size
    have HW11 := HW10.trans (hb11.mono (by omega))
    have oW_11 := oW_10.kept hg11 (roW.ne rox1 (by omega))
    have oG_11 := oG_10.kept hg11 (roG.ne rox1 (by omega))
    have Kp2_11 := Kp2_10.grown hg11 (rox1.out (by omega))
    have kKp20_11 := Kp2_11.cell 0
    have kKp21_11 := Kp2_11.cell 1
    have kKp22_11 := Kp2_11.cell 2
    simp only [List.getElem?_cons_zero, List.getElem?_cons_succ] at kKp20_11 kKp21_11 kKp22_11
    clear kKp20_10 kKp21_10 kKp22_10
    go_wp2_with fail
    refine (laws_eqIntS _ _ _ _ _ _ _ _ _ rfl rfl oG_11.recs oW_11.recs (by omega) (by omega)).mono ?_; rintro e w12 ⟨rfl, hb12⟩
    have sz12 : w11.heap.size ≤ w12.heap.size := hb12.size
    have HW12 := below_go HW11 hb12
    have oW_12 := oW_11.up hb12
    have ox1_12 := ox1m.up hb12
    have oG_12 := oG_11.up hb12
    have Kp2_12 := Kp2_11.up hb12
    have kKp20_12 := Kp2_12.cell 0
    have kKp21_12 := Kp2_12.cell 1
    have kKp22_12 := Kp2_12.cell 2
    simp only [List.getElem?_cons_zero, List.getElem?_cons_succ] at kKp20_12 kKp21_12 kKp22_12
    clear kKp20_11 kKp21_11 kKp22_11
    go_wp2_with fail
    have bm13 : w6.heap.size ≤ w12.heap.size := by omega
    refine (laws_markIntS _ _ _ _ _ _ _ oG_12 bm13 (by omega) (by omega)).mono ?_; rintro e w13 ⟨rfl, oGm, hg13, hb13⟩
    have sz13 : w12.heap.size ≤ w13.heap.size := hb13.size
    have HW13 := HW12.trans (hb13.mono (by omega))
    have oW_13 := oW_12.kept hg13 (roW.ne roG (by omega))
    have ox1_13 := ox1_12.kept hg13 (rox1.ne roG (by omega))
    have Kp2_13 := Kp2_12.grown hg13 (roG.out (by omega))
    have kKp20_13 := Kp2_13.cell 0
    have kKp21_13 := Kp2_13.cell 1
    have kKp22_13 := Kp2_13.cell 2
    simp only [List.getElem?_cons_zero, List.getElem?_cons_succ] at kKp20_13 kKp21_13 kKp22_13
    clear kKp20_12 kKp21_12 kKp22_12
    go_wp2_with fail
    refine (laws_heldIntS _ _ _ _ _ oGm.recs (by omega) (by omega)).mono ?_; rintro e w' ⟨rfl, rfl⟩
    go_wp2_with fail
    go_region_held3 (fun u => u.cell? ⟨w.heap.size, 0, none⟩ = some (.int .i64 x2) ∧ u.cell? ⟨w.heap.size, 1, none⟩ = some (.int .i64 y2) ∧ u.cell? ⟨w.heap.size, 2, none⟩ = some (.int .i64 z2)) (first | exact ⟨by assumption, by assumption, by assumption⟩) (first | (go_at_call 17; refine (laws_toBlowS _ _ _ _ _ rfl (h1.below HW13 (Nat.le_refl _)).drew (by omega)).mono ?_; rintro e w14 ⟨gy1, rfl, oy1, hbd14⟩; have hb14 := below_of_drew hbd14; clear hbd14; have sz14 : w13.heap.size ≤ w14.heap.size := hb14.size; have HW14 := below_go HW13 hb14; have oW_14 := oW_13.up hb14; have ox1_14 := ox1_13.up hb14; have oG_14 := oGm.up hb14; have Kp2_14 := Kp2_13.up hb14; have kKp20_14 := Kp2_14.cell 0; have kKp21_14 := Kp2_14.cell 1; have kKp22_14 := Kp2_14.cell 2; simp only [List.getElem?_cons_zero, List.getElem?_cons_succ] at kKp20_14 kKp21_14 kKp22_14; clear kKp20_13 kKp21_13 kKp22_13; have roy1 := oy1.range) | (go_at_call 18; refine (laws_toBeat _ _ _ _).mono ?_; rintro e w15 ⟨rfl, hb15⟩; have sz15 : w14.heap.size ≤ w15.heap.size := hb15.size; have HW15 := below_go HW14 hb15; have oW_15 := oW_14.up hb15; have ox1_15 := ox1_14.up hb15; have oG_15 := oG_14.up hb15; have oy1_15 := oy1.up hb15; have Kp2_15 := Kp2_14.up hb15; have kKp20_15 := Kp2_15.cell 0; have kKp21_15 := Kp2_15.cell 1; have kKp22_15 := Kp2_15.cell 2; simp only [List.getElem?_cons_zero, List.getElem?_cons_succ] at kKp20_15 kKp21_15 kKp22_15; clear kKp20_14 kKp21_14 kKp22_14) | (go_at_call 19; refine (impl_ErrorsOf rfl oy1_15.recs (by omega)).mono ?_; rintro e w16 ⟨AH, cH, rfl, oH, nH, hb16⟩; have sz16 : w15.heap.size ≤ w16.heap.size := hb16.size; have HW16 := below_go HW15 hb16; have oW_16 := oW_15.up hb16; have ox1_16 := ox1_15.up hb16; have oG_16 := oG_15.up hb16; have oy1_16 := oy1_15.up hb16; have Kp2_16 := Kp2_15.up hb16; have kKp20_16 := Kp2_16.cell 0; have kKp21_16 := Kp2_16.cell 1; have kKp22_16 := Kp2_16.cell 2; simp only [List.getElem?_cons_zero, List.getElem?_cons_succ] at kKp20_16 kKp21_16 kKp22_16; clear kKp20_15 kKp21_15 kKp22_15; have roH := oH.range))
    go_wp2_with fail
    refine (laws_eqIntS _ _ _ _ _ _ _ _ _ rfl rfl oH.recs oW_16.recs (by omega) (by omega)).mono ?_; rintro e w17 ⟨rfl, hb17⟩
    have sz17 : w16.heap.size ≤ w17.heap.size := hb17.size
    have HW17 := below_go HW16 hb17
    have oW_17 := oW_16.up hb17
    have ox1_17 := ox1_16.up hb17
    have oG_17 := oG_16.up hb17
    have oy1_17 := oy1_16.up hb17
    have oH_17 := oH.up hb17
    have Kp2_17 := Kp2_16.up hb17
    have kKp20_17 := Kp2_17.cell 0
    have kKp21_17 := Kp2_17.cell 1
    have kKp22_17 := Kp2_17.cell 2
    simp only [List.getElem?_cons_zero, List.getElem?_cons_succ] at kKp20_17 kKp21_17 kKp22_17
    clear kKp20_16 kKp21_16 kKp22_16
    go_wp2_with fail
    refine (laws_heldIntS _ _ _ _ _ oG_17.recs (by omega) (by omega)).mono ?_; rintro e w' ⟨rfl, rfl⟩
    go_wp2
    go_ret
    exact ⟨rfl, HW17⟩
  · go_in
    go_wp2_with fail
    refine (laws_szBlowS_no _ _ _ _ _ (by omega) (by omega) hm1).mono ?_; rintro e w' ⟨rfl, rfl⟩
    go_wp2
    go_ret
    exact ⟨rfl, by (repeat' (first | (with_reducible exact Below.refl _ _) | (with_reducible assumption) | (with_reducible refine below_drewN ?_ _) | (with_reducible refine Below.drew ?_) | (with_reducible refine below_alloc ?_ _) | (with_reducible refine Below.alloc ?_ ?_ _) | (with_reducible refine Below.setCell ?_ ?_ _) | (with_reducible refine below_go ?_ (by with_reducible assumption)) | (with_reducible refine below_then (by with_reducible assumption) ?_ ?_) | go_size))⟩
end Go.Proofs.Ytcpfcgcdahhnjaa
