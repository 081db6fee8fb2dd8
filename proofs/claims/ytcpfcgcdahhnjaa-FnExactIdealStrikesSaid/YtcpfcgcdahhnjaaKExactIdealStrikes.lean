/- The walk through FnExactIdealStrikes: both sides give the same, the arguments are left alone, the result is memory of its own. -/
import Derived.Test.YtcpfcgcdahhnjaaCstrike
import Derived.Test.YtcpfcgcdahhnjaaCstrs
import Derived.Test.YtcpfcgcdahhnjaaW21i
namespace Go.Proofs.Ytcpfcgcdahhnjaa
set_option linter.unusedVariables false
set_option linter.unusedSimpArgs false
open Go.ChangeShapes Go.WideShapes Go.ChangeAt Go.RowKit Go.Deep
set_option maxHeartbeats 2000000 in
theorem law_IdealStrikes (x0 y0 z0 : Int) (A1 : Option Addr) (c1 : Nat) (l1 : List ByteArray) (w : World) (_hx0 : -9223372036854775808 ≤ x0 ∧ x0 ≤ 9223372036854775807) (_hy0 : -9223372036854775808 ≤ y0 ∧ y0 ≤ 9223372036854775807) (_hz0 : -9223372036854775808 ≤ z0 ∧ z0 ≤ 9223372036854775807) (h1 : Recs strE 1 w A1 l1) (hm1 : l1.length ≤ 9223372036854775807) (_hb1 : ∀ x ∈ l1, x.size ≤ maxLen) :
    Calls Try.prog 8 #[.agg #[.int .i64 x0, .int .i64 y0, .int .i64 z0], .slice A1 l1.length c1] w fun e w' => e = .returned (.bool true) ∧ Below w.heap.size w w' := by
  clear _hx0 _hy0 _hz0
  by_cases hz1 : szS l1 ≤ 1048576
  · go_in
    have hq1 := szS_len l1
    have hs1 : ∀ s ∈ l1, s.size ≤ 16777216 := fun s hs => by (have := szS_each l1 s hs; omega)
    go_wp2_with fail
    have hb1 : Below w.heap.size w (w.alloc (.cells #[.int .i64 x0, .int .i64 y0, .int .i64 z0] 24)) := by (repeat' (first | (with_reducible exact Below.refl _ _) | (with_reducible assumption) | (with_reducible refine below_drewN ?_ _) | (with_reducible refine Below.drew ?_) | (with_reducible refine below_alloc ?_ _) | (with_reducible refine Below.alloc ?_ ?_ _) | (with_reducible refine Below.setCell ?_ ?_ _) | (with_reducible refine below_go ?_ (by with_reducible assumption)) | (with_reducible refine below_then (by with_reducible assumption) ?_ ?_) | go_size))
    have Kp0 := Blk.at_ w 24 [.int .i64 x0, .int .i64 y0, .int .i64 z0] (b := w.heap.size) rfl
    have qp0 : w.heap.size < (w.alloc (.cells #[.int .i64 x0, .int .i64 y0, .int .i64 z0] 24)).heap.size := by simp
    obtain ⟨w1, hw1⟩ : ∃ u, u = (w.alloc (.cells #[.int .i64 x0, .int .i64 y0, .int .i64 z0] 24)) := ⟨_, rfl⟩
    rw [← hw1] at hb1 Kp0 qp0 ⊢
    clear hw1
    have sz1 : w.heap.size ≤ w1.heap.size := hb1.size
    have HW1 := hb1
    have kKp00_1 := Kp0.cell 0
    have kKp01_1 := Kp0.cell 1
    have kKp02_1 := Kp0.cell 2
    simp only [List.getElem?_cons_zero, List.getElem?_cons_succ] at kKp00_1 kKp01_1 kKp02_1
    refine (laws_szStringS_ok _ _ _ _ _ _ rfl (h1.below HW1 (Nat.le_refl _)) (by omega) (by omega) hm1 _hb1 (by omega)).mono ?_; rintro e w' ⟨rfl, rfl⟩
    go_wp2_with fail
    refine (laws_toBeat _ _ _ _).mono ?_; rintro e w2 ⟨rfl, hb2⟩
    have sz2 : w1.heap.size ≤ w2.heap.size := hb2.size
    have HW2 := below_go HW1 hb2
    have Kp0_2 := Kp0.up hb2
    have kKp00_2 := Kp0_2.cell 0
    have kKp01_2 := Kp0_2.cell 1
    have kKp02_2 := Kp0_2.cell 2
    simp only [List.getElem?_cons_zero, List.getElem?_cons_succ] at kKp00_2 kKp01_2 kKp02_2
    clear kKp00_1 kKp01_1 kKp02_1
    go_wp2_with fail
    refine (laws_toStringS _ _ _ _ _ rfl (h1.below HW2 (Nat.le_refl _)) (by omega)).mono ?_; rintro e w3 ⟨gs1, rfl, os1, hb3⟩
    have sz3 : w2.heap.size ≤ w3.heap.size := hb3.size
    have HW3 := below_go HW2 hb3
    have Kp0_3 := Kp0_2.up hb3
    have kKp00_3 := Kp0_3.cell 0
    have kKp01_3 := Kp0_3.cell 1
    have kKp02_3 := Kp0_3.cell 2
    simp only [List.getElem?_cons_zero, List.getElem?_cons_succ] at kKp00_3 kKp01_3 kKp02_3
    clear kKp00_2 kKp01_2 kKp02_2
    have ros1 := os1.range
    go_wp2_with fail
    refine (spec_IdealStrikes rfl os1.recs (by omega) hs1).mono ?_; rintro e w4 ⟨AW, cW, rfl, oW, nW, hb4⟩
    have sz4 : w3.heap.size ≤ w4.heap.size := hb4.size
    have HW4 := below_go HW3 hb4
    have os1_4 := os1.up hb4
    have Kp0_4 := Kp0_3.up hb4
    have kKp00_4 := Kp0_4.cell 0
    have kKp01_4 := Kp0_4.cell 1
    have kKp02_4 := Kp0_4.cell 2
    simp only [List.getElem?_cons_zero, List.getElem?_cons_succ] at kKp00_4 kKp01_4 kKp02_4
    clear kKp00_3 kKp01_3 kKp02_3
    have roW := oW.range
    go_wp2_with fail
    refine (laws_toStringS _ _ _ _ _ rfl (h1.below HW4 (Nat.le_refl _)) (by omega)).mono ?_; rintro e w5 ⟨gx1, rfl, ox1, hb5⟩
    have sz5 : w4.heap.size ≤ w5.heap.size := hb5.size
    have HW5 := below_go HW4 hb5
    have oW_5 := oW.up hb5
    have Kp0_5 := Kp0_4.up hb5
    have kKp00_5 := Kp0_5.cell 0
    have kKp01_5 := Kp0_5.cell 1
    have kKp02_5 := Kp0_5.cell 2
    simp only [List.getElem?_cons_zero, List.getElem?_cons_succ] at kKp00_5 kKp01_5 kKp02_5
    clear kKp00_4 kKp01_4 kKp02_4
    have rox1 := ox1.range
    go_wp2_with fail
    refine (laws_toBeat _ _ _ _).mono ?_; rintro e w6 ⟨rfl, hb6⟩
    have sz6 : w5.heap.size ≤ w6.heap.size := hb6.size
    have HW6 := below_go HW5 hb6
    have oW_6 := oW_5.up hb6
    have ox1_6 := ox1.up hb6
    have Kp0_6 := Kp0_5.up hb6
    have kKp00_6 := Kp0_6.cell 0
    have kKp01_6 := Kp0_6.cell 1
    have kKp02_6 := Kp0_6.cell 2
    simp only [List.getElem?_cons_zero, List.getElem?_cons_succ] at kKp00_6 kKp01_6 kKp02_6
    clear kKp00_5 kKp01_5 kKp02_5
    go_wp2_with fail
    refine (impl_IdealStrikes rfl ox1_6.recs (by omega) hs1).mono ?_; rintro e w7 ⟨AG, cG, rfl, oG, nG, hb7⟩
    have sz7 : w6.heap.size ≤ w7.heap.size := hb7.size
    have HW7 := below_go HW6 hb7
    have oW_7 := oW_6.up hb7
    have ox1_7 := ox1_6.up hb7
    have Kp0_7 := Kp0_6.up hb7
    have kKp00_7 := Kp0_7.cell 0
    have kKp01_7 := Kp0_7.cell 1
    have kKp02_7 := Kp0_7.cell 2
    simp only [List.getElem?_cons_zero, List.getElem?_cons_succ] at kKp00_7 kKp01_7 kKp02_7
    clear kKp00_6 kKp01_6 kKp02_6
    have roG := oG.range
    go_wp2_with fail
    refine (laws_eqStrikeS _ _ _ _ _ _ _ _ _ rfl rfl oG.recs oW_7.recs (by omega) (by omega)).mono ?_; rintro e w8 ⟨rfl, hb8⟩
    have sz8 : w7.heap.size ≤ w8.heap.size := hb8.size
    have HW8 := below_go HW7 hb8
    have oW_8 := oW_7.up hb8
    have ox1_8 := ox1_7.up hb8
    have oG_8 := oG.up hb8
    have Kp0_8 := Kp0_7.up hb8
    have kKp00_8 := Kp0_8.cell 0
    have kKp01_8 := Kp0_8.cell 1
    have kKp02_8 := Kp0_8.cell 2
    simp only [List.getElem?_cons_zero, List.getElem?_cons_succ] at kKp00_8 kKp01_8 kKp02_8
    clear kKp00_7 kKp01_7 kKp02_7
    go_wp2_with fail
    refine (laws_toStringS _ _ _ _ _ rfl (h1.below HW8 (Nat.le_refl _)) (by omega)).mono ?_; rintro e w9 ⟨gt1, rfl, ot1, hb9⟩
    have sz9 : w8.heap.size ≤ w9.heap.size := hb9.size
    have HW9 := below_go HW8 hb9
    have oW_9 := oW_8.up hb9
    have ox1_9 := ox1_8.up hb9
    have oG_9 := oG_8.up hb9
    have Kp0_9 := Kp0_8.up hb9
    have kKp00_9 := Kp0_9.cell 0
    have kKp01_9 := Kp0_9.cell 1
    have kKp02_9 := Kp0_9.cell 2
    simp only [List.getElem?_cons_zero, List.getElem?_cons_succ] at kKp00_9 kKp01_9 kKp02_9
    clear kKp00_8 kKp01_8 kKp02_8
    have rot1 := ot1.range
    go_wp2_with fail
    refine (laws_eqStringS _ _ _ _ _ _ _ _ _ rfl rfl ox1_9.recs ot1.recs (by omega) (by omega)).mono ?_; rintro e w10 ⟨rfl, hb10⟩
    have sz10 : w9.heap.size ≤ w10.heap.size := hb10.size
    have HW10 := below_go HW9 hb10
    have oW_10 := oW_9.up hb10
    have ox1_10 := ox1_9.up hb10
    have oG_10 := oG_9.up hb10
    have ot1_10 := ot1.up hb10
    have Kp0_10 := Kp0_9.up hb10
    have kKp00_10 := Kp0_10.cell 0
    have kKp01_10 := Kp0_10.cell 1
    have kKp02_10 := Kp0_10.cell 2
    simp only [List.getElem?_cons_zero, List.getElem?_cons_succ] at kKp00_10 kKp01_10 kKp02_10
    clear kKp00_9 kKp01_9 kKp02_9
    go_wp2_with fail
    have bm11 : w4.heap.size ≤ w10.heap.size := by omega
    refine (laws_markStringS _ _ _ _ _ _ _ ox1_10 bm11 (by omega) (by omega)).mono ?_; rintro e w11 ⟨rfl, ox1m, hg11, hb11⟩
    have sz11 : w10.heap.size ≤ w11.heap.size := hb11.size
    have HW11 := HW10.trans (hb11.mono (by omega))
    have oW_11 := oW_10.kept hg11 (roW.ne rox1 (by omega))
    have oG_11 := oG_10.kept hg11 (roG.ne rox1 (by omega))
    have Kp0_11 := Kp0_10.grown hg11 (rox1.out (by omega))
    have kKp00_11 := Kp0_11.cell 0
    have kKp01_11 := Kp0_11.cell 1
    have kKp02_11 := Kp0_11.cell 2
    simp only [List.getElem?_cons_zero, List.getElem?_cons_succ] at kKp00_11 kKp01_11 kKp02_11
    clear kKp00_10 kKp01_10 kKp02_10
    go_wp2_with fail
    refine (laws_eqStrikeS _ _ _ _ _ _ _ _ _ rfl rfl oG_11.recs oW_11.recs (by omega) (by omega)).mono ?_; rintro e w12 ⟨rfl, hb12⟩
    have sz12 : w11.heap.size ≤ w12.heap.size := hb12.size
    have HW12 := below_go HW11 hb12
    have oW_12 := oW_11.up hb12
    have ox1_12 := ox1m.up hb12
    have oG_12 := oG_11.up hb12
    have Kp0_12 := Kp0_11.up hb12
    have kKp00_12 := Kp0_12.cell 0
    have kKp01_12 := Kp0_12.cell 1
    have kKp02_12 := Kp0_12.cell 2
    simp only [List.getElem?_cons_zero, List.getElem?_cons_succ] at kKp00_12 kKp01_12 kKp02_12
    clear kKp00_11 kKp01_11 kKp02_11
    go_wp2_with fail
    have bm13 : w6.heap.size ≤ w12.heap.size := by omega
    refine (laws_markStrikeS _ _ _ _ _ _ _ oG_12 bm13 (by omega) (by omega)).mono ?_; rintro e w13 ⟨rfl, oGm, hg13, hb13⟩
    have sz13 : w12.heap.size ≤ w13.heap.size := hb13.size
    have HW13 := HW12.trans (hb13.mono (by omega))
    have oW_13 := oW_12.kept hg13 (roW.ne roG (by omega))
    have ox1_13 := ox1_12.kept hg13 (rox1.ne roG (by omega))
    have Kp0_13 := Kp0_12.grown hg13 (roG.out (by omega))
    have kKp00_13 := Kp0_13.cell 0
    have kKp01_13 := Kp0_13.cell 1
    have kKp02_13 := Kp0_13.cell 2
    simp only [List.getElem?_cons_zero, List.getElem?_cons_succ] at kKp00_13 kKp01_13 kKp02_13
    clear kKp00_12 kKp01_12 kKp02_12
    go_wp2_with fail
    refine (laws_heldStrikeS _ _ _ _ _ oGm.recs (by omega) (by omega)).mono ?_; rintro e w' ⟨rfl, rfl⟩
    go_wp2_with fail
    refine (laws_toBeat _ _ _ _).mono ?_; rintro e w14 ⟨rfl, hb14⟩
    have sz14 : w13.heap.size ≤ w14.heap.size := hb14.size
    have HW14 := below_go HW13 hb14
    have oW_14 := oW_13.up hb14
    have ox1_14 := ox1_13.up hb14
    have oG_14 := oGm.up hb14
    have Kp0_14 := Kp0_13.up hb14
    have kKp00_14 := Kp0_14.cell 0
    have kKp01_14 := Kp0_14.cell 1
    have kKp02_14 := Kp0_14.cell 2
    simp only [List.getElem?_cons_zero, List.getElem?_cons_succ] at kKp00_14 kKp01_14 kKp02_14
    clear kKp00_13 kKp01_13 kKp02_13
    go_wp2_with fail
    refine (laws_toStringS _ _ _ _ _ rfl (h1.below HW14 (Nat.le_refl _)) (by omega)).mono ?_; rintro e w15 ⟨gy1, rfl, oy1, hb15⟩
    have sz15 : w14.heap.size ≤ w15.heap.size := hb15.size
    have HW15 := below_go HW14 hb15
    have oW_15 := oW_14.up hb15
    have ox1_15 := ox1_14.up hb15
    have oG_15 := oG_14.up hb15
    have Kp0_15 := Kp0_14.up hb15
    have kKp00_15 := Kp0_15.cell 0
    have kKp01_15 := Kp0_15.cell 1
    have kKp02_15 := Kp0_15.cell 2
    simp only [List.getElem?_cons_zero, List.getElem?_cons_succ] at kKp00_15 kKp01_15 kKp02_15
    clear kKp00_14 kKp01_14 kKp02_14
    have roy1 := oy1.range
    go_wp2_with fail
    refine (impl_IdealStrikes rfl oy1.recs (by omega) hs1).mono ?_; rintro e w16 ⟨AH, cH, rfl, oH, nH, hb16⟩
    have sz16 : w15.heap.size ≤ w16.heap.size := hb16.size
    have HW16 := below_go HW15 hb16
    have oW_16 := oW_15.up hb16
    have ox1_16 := ox1_15.up hb16
    have oG_16 := oG_15.up hb16
    have oy1_16 := oy1.up hb16
    have Kp0_16 := Kp0_15.up hb16
    have kKp00_16 := Kp0_16.cell 0
    have kKp01_16 := Kp0_16.cell 1
    have kKp02_16 := Kp0_16.cell 2
    simp only [List.getElem?_cons_zero, List.getElem?_cons_succ] at kKp00_16 kKp01_16 kKp02_16
    clear kKp00_15 kKp01_15 kKp02_15
    have roH := oH.range
    go_wp2_with fail
    refine (laws_eqStrikeS _ _ _ _ _ _ _ _ _ rfl rfl oH.recs oW_16.recs (by omega) (by omega)).mono ?_; rintro e w17 ⟨rfl, hb17⟩
    have sz17 : w16.heap.size ≤ w17.heap.size := hb17.size
    have HW17 := below_go HW16 hb17
    have oW_17 := oW_16.up hb17
    have ox1_17 := ox1_16.up hb17
    have oG_17 := oG_16.up hb17
    have oy1_17 := oy1_16.up hb17
    have oH_17 := oH.up hb17
    have Kp0_17 := Kp0_16.up hb17
    have kKp00_17 := Kp0_17.cell 0
    have kKp01_17 := Kp0_17.cell 1
    have kKp02_17 := Kp0_17.cell 2
    simp only [List.getElem?_cons_zero, List.getElem?_cons_succ] at kKp00_17 kKp01_17 kKp02_17
    clear kKp00_16 kKp01_16 kKp02_16
    go_wp2_with fail
    refine (laws_heldStrikeS _ _ _ _ _ oG_17.recs (by omega) (by omega)).mono ?_; rintro e w' ⟨rfl, rfl⟩
    go_wp2
    go_ret
    exact ⟨rfl, HW17⟩
  · have hbE : Below w.heap.size w (w.alloc (.cells #[.int .i64 x0, .int .i64 y0, .int .i64 z0] 24)) := by (repeat' (first | (with_reducible exact Below.refl _ _) | (with_reducible assumption) | (with_reducible refine below_drewN ?_ _) | (with_reducible refine Below.drew ?_) | (with_reducible refine below_alloc ?_ _) | (with_reducible refine Below.alloc ?_ ?_ _) | (with_reducible refine Below.setCell ?_ ?_ _) | (with_reducible refine below_go ?_ (by with_reducible assumption)) | (with_reducible refine below_then (by with_reducible assumption) ?_ ?_) | go_size))
    go_in
    go_wp2_with fail
    refine (laws_szStringS_no _ _ _ _ _ _ rfl (h1.below hbE (Nat.le_refl _)) (by omega) (by omega) hm1 _hb1 (by omega)).mono ?_; rintro e w' ⟨rfl, rfl⟩
    go_wp2
    go_ret
    exact ⟨rfl, by (repeat' (first | (with_reducible exact Below.refl _ _) | (with_reducible assumption) | (with_reducible refine below_drewN ?_ _) | (with_reducible refine Below.drew ?_) | (with_reducible refine below_alloc ?_ _) | (with_reducible refine Below.alloc ?_ ?_ _) | (with_reducible refine Below.setCell ?_ ?_ _) | (with_reducible refine below_go ?_ (by with_reducible assumption)) | (with_reducible refine below_then (by with_reducible assumption) ?_ ?_) | go_size))⟩
end Go.Proofs.Ytcpfcgcdahhnjaa
