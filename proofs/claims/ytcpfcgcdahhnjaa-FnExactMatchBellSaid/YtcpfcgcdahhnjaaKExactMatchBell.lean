/- The walk through FnExactMatchBell: both sides give the same, the arguments are left alone, the result is memory of its own. -/
import Derived.Test.YtcpfcgcdahhnjaaCstrike
import Derived.Test.YtcpfcgcdahhnjaaCstrs
import Derived.Test.YtcpfcgcdahhnjaaCmatch
import Derived.Test.YtcpfcgcdahhnjaaW22e
namespace Go.Proofs.Ytcpfcgcdahhnjaa
set_option linter.unusedVariables false
set_option linter.unusedSimpArgs false
open Go.ChangeShapes Go.WideShapes Go.ChangeAt Go.RowKit Go.Deep
set_option maxHeartbeats 2000000 in
theorem law_MatchBell (x0 y0 z0 : Int) (A1 : Option Addr) (c1 : Nat) (l1 : List ByteArray) (A2 : Option Addr) (c2 : Nat) (l2 : List (Int × Int)) (x3 : Int) (x4 : Int) (w : World) (_hx0 : -9223372036854775808 ≤ x0 ∧ x0 ≤ 9223372036854775807) (_hy0 : -9223372036854775808 ≤ y0 ∧ y0 ≤ 9223372036854775807) (_hz0 : -9223372036854775808 ≤ z0 ∧ z0 ≤ 9223372036854775807) (h1 : Recs strE 1 w A1 l1) (hm1 : l1.length ≤ 9223372036854775807) (_hb1 : ∀ x ∈ l1, x.size ≤ maxLen) (h2 : Recs strikeE 2 w A2 l2) (hm2 : l2.length ≤ 9223372036854775807) (_hb2 : ∀ x ∈ l2, I64 x.1 ∧ I64 x.2) (_hx3 : -9223372036854775808 ≤ x3 ∧ x3 ≤ 9223372036854775807) (_hx4 : -9223372036854775808 ≤ x4 ∧ x4 ≤ 9223372036854775807) :
    Calls Try.prog 10 #[.agg #[.int .i64 x0, .int .i64 y0, .int .i64 z0], .slice A1 l1.length c1, .slice A2 l2.length c2, .int .i64 x3, .int .i64 x4] w fun e w' => e = .returned (.bool true) ∧ Below w.heap.size w w' := by
  clear _hx0 _hy0 _hz0 _hb2 _hx3 _hx4
  by_cases hz1 : szS l1 ≤ 1048576
  · by_cases hz2 : (l2.length : Int) ≤ 1048576 - szS l1
    · go_in
      have hq1 := szS_len l1
      have hs1 : ∀ s ∈ l1, s.size ≤ 16777216 := fun s hs => by (have := szS_each l1 s hs; omega)
      go_wp2_with fail
      have hb1 : Below w.heap.size w (w.alloc (.cells #[.int .i64 x0, .int .i64 y0, .int .i64 z0] 24)) := by (repeat' (first | (with_reducible exact Below.refl _ _) | (with_reducible assumption) | (with_reducible refine below_drewN ?_ _) | (with_reducible refine Below.drew ?_) | (with_reducible refine below_alloc ?_ _) | (with_reducible refine Below.alloc ?_ ?_ _) | (with_reducible refine Below.setCell ?_ ?_ _) | (with_reducible refine below_go ?_ (by with_reducible assumption)) | (with_reducible refine below_then (by with_reducible assumption) ?_ ?_) | go_size))
      have Kp0 := Blk.at_ w 24 [.int .i64 x0, .int .i64 y0, .int .i64 z0] (b := w.heap.size) rfl
      have qp0 : w.heap.size < (w.alloc (.cells #[.int .i64 x0, .int .i64 y0, .int .i64 z0] 24)).heap.size := by simp
      obtain ⟨w1, hw1⟩ : ∃ u, u = (w.alloc (.cells #[.int .i64 x0, .int .i64 y0, .int .i64 z0] 24)) := ⟨_, rfl⟩
      rw [← hw1] at hb1 Kp0 qp0 ⊢
      clear hw1
      have sz1 : w.heap.size ≤ w1.heap.size := hb1.size
      have HW1 := hb1
      have kKp00_1 := Kp0.cell 0
      have kKp01_1 := Kp0.cell 1
      have kKp02_1 := Kp0.cell 2
      simp only [List.getElem?_cons_zero, List.getElem?_cons_succ] at kKp00_1 kKp01_1 kKp02_1
      refine (laws_szStringS_ok _ _ _ _ _ _ rfl (h1.below HW1 (Nat.le_refl _)) (by omega) (by omega) hm1 _hb1 (by omega)).mono ?_; rintro e w' ⟨rfl, rfl⟩
      go_wp2_with fail
      refine (laws_szStrikeS_ok _ _ _ _ _ (by omega) (by omega)).mono ?_; rintro e w' ⟨rfl, rfl⟩
      go_wp2_with fail
      refine (laws_toBeat _ _ _ _).mono ?_; rintro e w2 ⟨rfl, hb2⟩
      have sz2 : w1.heap.size ≤ w2.heap.size := hb2.size
      have HW2 := below_go HW1 hb2
      have Kp0_2 := Kp0.up hb2
      have kKp00_2 := Kp0_2.cell 0
      have kKp01_2 := Kp0_2.cell 1
      have kKp02_2 := Kp0_2.cell 2
      simp only [List.getElem?_cons_zero, List.getElem?_cons_succ] at kKp00_2 kKp01_2 kKp02_2
      clear kKp00_1 kKp01_1 kKp02_1
      go_wp2_with fail
      refine (laws_toStringS _ _ _ _ _ rfl (h1.below HW2 (Nat.le_refl _)) (by omega)).mono ?_; rintro e w3 ⟨gs1, rfl, os1, hb3⟩
      have sz3 : w2.heap.size ≤ w3.heap.size := hb3.size
      have HW3 := below_go HW2 hb3
      have Kp0_3 := Kp0_2.up hb3
      have kKp00_3 := Kp0_3.cell 0
      have kKp01_3 := Kp0_3.cell 1
      have kKp02_3 := Kp0_3.cell 2
      simp only [List.getElem?_cons_zero, List.getElem?_cons_succ] at kKp00_3 kKp01_3 kKp02_3
      clear kKp00_2 kKp01_2 kKp02_2
      have ros1 := os1.range
      go_wp2_with fail
      refine (laws_toStrikeS _ _ _ _ _ rfl (h2.below HW3 (Nat.le_refl _)) (by omega)).mono ?_; rintro e w4 ⟨gs2, rfl, os2, hb4⟩
      have sz4 : w3.heap.size ≤ w4.heap.size := hb4.size
      have HW4 := below_go HW3 hb4
      have os1_4 := os1.up hb4
      have Kp0_4 := Kp0_3.up hb4
      have kKp00_4 := Kp0_4.cell 0
      have kKp01_4 := Kp0_4.cell 1
      have kKp02_4 := Kp0_4.cell 2
      simp only [List.getElem?_cons_zero, List.getElem?_cons_succ] at kKp00_4 kKp01_4 kKp02_4
      clear kKp00_3 kKp01_3 kKp02_3
      have ros2 := os2.range
      go_wp2_with fail
      refine (spec_MatchBell rfl os1_4.recs (by omega) rfl os2.recs (by omega) hs1).mono ?_; rintro e w5 ⟨AW, cW, rfl, oW, nW, hb5⟩
      have sz5 : w4.heap.size ≤ w5.heap.size := hb5.size
      have HW5 := below_go HW4 hb5
      have os1_5 := os1_4.up hb5
      have os2_5 := os2.up hb5
      have Kp0_5 := Kp0_4.up hb5
      have kKp00_5 := Kp0_5.cell 0
      have kKp01_5 := Kp0_5.cell 1
      have kKp02_5 := Kp0_5.cell 2
      simp only [List.getElem?_cons_zero, List.getElem?_cons_succ] at kKp00_5 kKp01_5 kKp02_5
      clear kKp00_4 kKp01_4 kKp02_4
      have roW := oW.range
      have zW0 := (Blk.at_ w5 48 [.slice AW ((mbOf x0 y0 z0 l1 l2 x3 x4)).length cW, .int .i64 ((mbCost x0 y0 z0 l1 l2 x3 x4))] (b := w5.heap.size) rfl).cell 0
      have zW1 := (Blk.at_ w5 48 [.slice AW ((mbOf x0 y0 z0 l1 l2 x3 x4)).length cW, .int .i64 ((mbCost x0 y0 z0 l1 l2 x3 x4))] (b := w5.heap.size) rfl).cell 1
      simp only [List.getElem?_cons_zero, List.getElem?_cons_succ] at zW0 zW1
      have zKp00 := (Kp0_5.alloc (.cells #[.slice AW ((mbOf x0 y0 z0 l1 l2 x3 x4)).length cW, .int .i64 ((mbCost x0 y0 z0 l1 l2 x3 x4))] 48)).cell 0
      have zKp01 := (Kp0_5.alloc (.cells #[.slice AW ((mbOf x0 y0 z0 l1 l2 x3 x4)).length cW, .int .i64 ((mbCost x0 y0 z0 l1 l2 x3 x4))] 48)).cell 1
      have zKp02 := (Kp0_5.alloc (.cells #[.slice AW ((mbOf x0 y0 z0 l1 l2 x3 x4)).length cW, .int .i64 ((mbCost x0 y0 z0 l1 l2 x3 x4))] 48)).cell 2
      simp only [List.getElem?_cons_zero, List.getElem?_cons_succ] at zKp00 zKp01 zKp02
      go_wp2_with fail
      clear zW0 zW1 zKp00 zKp01 zKp02
      have hb6 : Below w5.heap.size w5 (w5.alloc (.cells #[.slice AW ((mbOf x0 y0 z0 l1 l2 x3 x4)).length cW, .int .i64 ((mbCost x0 y0 z0 l1 l2 x3 x4))] 48)) := by (repeat' (first | (with_reducible exact Below.refl _ _) | (with_reducible assumption) | (with_reducible refine below_drewN ?_ _) | (with_reducible refine Below.drew ?_) | (with_reducible refine below_alloc ?_ _) | (with_reducible refine Below.alloc ?_ ?_ _) | (with_reducible refine Below.setCell ?_ ?_ _) | (with_reducible refine below_go ?_ (by with_reducible assumption)) | (with_reducible refine below_then (by with_reducible assumption) ?_ ?_) | go_size))
      have KW := Blk.at_ w5 48 [.slice AW ((mbOf x0 y0 z0 l1 l2 x3 x4)).length cW, .int .i64 ((mbCost x0 y0 z0 l1 l2 x3 x4))] (b := w5.heap.size) rfl
      have qW : w5.heap.size < (w5.alloc (.cells #[.slice AW ((mbOf x0 y0 z0 l1 l2 x3 x4)).length cW, .int .i64 ((mbCost x0 y0 z0 l1 l2 x3 x4))] 48)).heap.size := by simp
      obtain ⟨w6, hw6⟩ : ∃ u, u = (w5.alloc (.cells #[.slice AW ((mbOf x0 y0 z0 l1 l2 x3 x4)).length cW, .int .i64 ((mbCost x0 y0 z0 l1 l2 x3 x4))] 48)) := ⟨_, rfl⟩
      rw [← hw6] at hb6 KW qW ⊢
      clear hw6
      have sz6 : w5.heap.size ≤ w6.heap.size := hb6.size
      have HW6 := below_go HW5 hb6
      have oW_6 := oW.up hb6
      have Kp0_6 := Kp0_5.up hb6
      have kKp00_6 := Kp0_6.cell 0
      have kKp01_6 := Kp0_6.cell 1
      have kKp02_6 := Kp0_6.cell 2
      simp only [List.getElem?_cons_zero, List.getElem?_cons_succ] at kKp00_6 kKp01_6 kKp02_6
      clear kKp00_5 kKp01_5 kKp02_5
      have kKW0_6 := KW.cell 0
      have kKW1_6 := KW.cell 1
      simp only [List.getElem?_cons_zero, List.getElem?_cons_succ] at kKW0_6 kKW1_6
      refine (laws_toStringS _ _ _ _ _ rfl (h1.below HW6 (Nat.le_refl _)) (by omega)).mono ?_; rintro e w7 ⟨gx1, rfl, ox1, hb7⟩
      have sz7 : w6.heap.size ≤ w7.heap.size := hb7.size
      have HW7 := below_go HW6 hb7
      have oW_7 := oW_6.up hb7
      have Kp0_7 := Kp0_6.up hb7
      have KW_7 := KW.up hb7
      have kKp00_7 := Kp0_7.cell 0
      have kKp01_7 := Kp0_7.cell 1
      have kKp02_7 := Kp0_7.cell 2
      simp only [List.getElem?_cons_zero, List.getElem?_cons_succ] at kKp00_7 kKp01_7 kKp02_7
      clear kKp00_6 kKp01_6 kKp02_6
      have kKW0_7 := KW_7.cell 0
      have kKW1_7 := KW_7.cell 1
      simp only [List.getElem?_cons_zero, List.getElem?_cons_succ] at kKW0_7 kKW1_7
      clear kKW0_6 kKW1_6
      have rox1 := ox1.range
      go_wp2_with fail
      refine (laws_toStrikeS _ _ _ _ _ rfl (h2.below HW7 (Nat.le_refl _)) (by omega)).mono ?_; rintro e w8 ⟨gx2, rfl, ox2, hb8⟩
      have sz8 : w7.heap.size ≤ w8.heap.size := hb8.size
      have HW8 := below_go HW7 hb8
      have oW_8 := oW_7.up hb8
      have ox1_8 := ox1.up hb8
      have Kp0_8 := Kp0_7.up hb8
      have KW_8 := KW_7.up hb8
      have kKp00_8 := Kp0_8.cell 0
      have kKp01_8 := Kp0_8.cell 1
      have kKp02_8 := Kp0_8.cell 2
      simp only [List.getElem?_cons_zero, List.getElem?_cons_succ] at kKp00_8 kKp01_8 kKp02_8
      clear kKp00_7 kKp01_7 kKp02_7
      have kKW0_8 := KW_8.cell 0
      have kKW1_8 := KW_8.cell 1
      simp only [List.getElem?_cons_zero, List.getElem?_cons_succ] at kKW0_8 kKW1_8
      clear kKW0_7 kKW1_7
      have rox2 := ox2.range
      go_wp2_with fail
      refine (laws_toBeat _ _ _ _).mono ?_; rintro e w9 ⟨rfl, hb9⟩
      have sz9 : w8.heap.size ≤ w9.heap.size := hb9.size
      have HW9 := below_go HW8 hb9
      have oW_9 := oW_8.up hb9
      have ox1_9 := ox1_8.up hb9
      have ox2_9 := ox2.up hb9
      have Kp0_9 := Kp0_8.up hb9
      have KW_9 := KW_8.up hb9
      have kKp00_9 := Kp0_9.cell 0
      have kKp01_9 := Kp0_9.cell 1
      have kKp02_9 := Kp0_9.cell 2
      simp only [List.getElem?_cons_zero, List.getElem?_cons_succ] at kKp00_9 kKp01_9 kKp02_9
      clear kKp00_8 kKp01_8 kKp02_8
      have kKW0_9 := KW_9.cell 0
      have kKW1_9 := KW_9.cell 1
      simp only [List.getElem?_cons_zero, List.getElem?_cons_succ] at kKW0_9 kKW1_9
      clear kKW0_8 kKW1_8
      go_wp2_with fail
      refine (impl_MatchBell rfl ox1_9.recs (by omega) rfl ox2_9.recs (by omega) hs1).mono ?_; rintro e w10 ⟨AG, cG, rfl, oG, nG, hb10⟩
      have sz10 : w9.heap.size ≤ w10.heap.size := hb10.size
      have HW10 := below_go HW9 hb10
      have oW_10 := oW_9.up hb10
      have ox1_10 := ox1_9.up hb10
      have ox2_10 := ox2_9.up hb10
      have Kp0_10 := Kp0_9.up hb10
      have KW_10 := KW_9.up hb10
      have kKp00_10 := Kp0_10.cell 0
      have kKp01_10 := Kp0_10.cell 1
      have kKp02_10 := Kp0_10.cell 2
      simp only [List.getElem?_cons_zero, List.getElem?_cons_succ] at kKp00_10 kKp01_10 kKp02_10
      clear kKp00_9 kKp01_9 kKp02_9
      have kKW0_10 := KW_10.cell 0
      have kKW1_10 := KW_10.cell 1
      simp only [List.getElem?_cons_zero, List.getElem?_cons_succ] at kKW0_10 kKW1_10
      clear kKW0_9 kKW1_9
      have roG := oG.range
      have zG0 := (Blk.at_ w10 48 [.slice AG ((mbOf x0 y0 z0 l1 l2 x3 x4)).length cG, .int .i64 ((mbCost x0 y0 z0 l1 l2 x3 x4))] (b := w10.heap.size) rfl).cell 0
      have zG1 := (Blk.at_ w10 48 [.slice AG ((mbOf x0 y0 z0 l1 l2 x3 x4)).length cG, .int .i64 ((mbCost x0 y0 z0 l1 l2 x3 x4))] (b := w10.heap.size) rfl).cell 1
      simp only [List.getElem?_cons_zero, List.getElem?_cons_succ] at zG0 zG1
      have zKp00 := (Kp0_10.alloc (.cells #[.slice AG ((mbOf x0 y0 z0 l1 l2 x3 x4)).length cG, .int .i64 ((mbCost x0 y0 z0 l1 l2 x3 x4))] 48)).cell 0
      have zKp01 := (Kp0_10.alloc (.cells #[.slice AG ((mbOf x0 y0 z0 l1 l2 x3 x4)).length cG, .int .i64 ((mbCost x0 y0 z0 l1 l2 x3 x4))] 48)).cell 1
      have zKp02 := (Kp0_10.alloc (.cells #[.slice AG ((mbOf x0 y0 z0 l1 l2 x3 x4)).length cG, .int .i64 ((mbCost x0 y0 z0 l1 l2 x3 x4))] 48)).cell 2
      simp only [List.getElem?_cons_zero, List.getElem?_cons_succ] at zKp00 zKp01 zKp02
      have zKW0 := (KW_10.alloc (.cells #[.slice AG ((mbOf x0 y0 z0 l1 l2 x3 x4)).length cG, .int .i64 ((mbCost x0 y0 z0 l1 l2 x3 x4))] 48)).cell 0
      have zKW1 := (KW_10.alloc (.cells #[.slice AG ((mbOf x0 y0 z0 l1 l2 x3 x4)).length cG, .int .i64 ((mbCost x0 y0 z0 l1 l2 x3 x4))] 48)).cell 1
      simp only [List.getElem?_cons_zero, List.getElem?_cons_succ] at zKW0 zKW1
      go_wp2_with fail
      clear zG0 zG1 zKp00 zKp01 zKp02 zKW0 zKW1
      have hb11 : Below w10.heap.size w10 (w10.alloc (.cells #[.slice AG ((mbOf x0 y0 z0 l1 l2 x3 x4)).length cG, .int .i64 ((mbCost x0 y0 z0 l1 l2 x3 x4))] 48)) := by (repeat' (first | (with_reducible exact Below.refl _ _) | (with_reducible assumption) | (with_reducible refine below_drewN ?_ _) | (with_reducible refine Below.drew ?_) | (with_reducible refine below_alloc ?_ _) | (with_reducible refine Below.alloc ?_ ?_ _) | (with_reducible refine Below.setCell ?_ ?_ _) | (with_reducible refine below_go ?_ (by with_reducible assumption)) | (with_reducible refine below_then (by with_reducible assumption) ?_ ?_) | go_size))
      have KG := Blk.at_ w10 48 [.slice AG ((mbOf x0 y0 z0 l1 l2 x3 x4)).length cG, .int .i64 ((mbCost x0 y0 z0 l1 l2 x3 x4))] (b := w10.heap.size) rfl
      have qG : w10.heap.size < (w10.alloc (.cells #[.slice AG ((mbOf x0 y0 z0 l1 l2 x3 x4)).length cG, .int .i64 ((mbCost x0 y0 z0 l1 l2 x3 x4))] 48)).heap.size := by simp
      obtain ⟨w11, hw11⟩ : ∃ u, u = (w10.alloc (.cells #[.slice AG ((mbOf x0 y0 z0 l1 l2 x3 x4)).length cG, .int .i64 ((mbCost x0 y0 z0 l1 l2 x3 x4))] 48)) := ⟨_, rfl⟩
      rw [← hw11] at hb11 KG qG ⊢
      clear hw11
      have sz11 : w10.heap.size ≤ w11.heap.size := hb11.size
      have HW11 := below_go HW10 hb11
      have oW_11 := oW_10.up hb11
      have ox1_11 := ox1_10.up hb11
      have ox2_11 := ox2_10.up hb11
      have oG_11 := oG.up hb11
      have Kp0_11 := Kp0_10.up hb11
      have KW_11 := KW_10.up hb11
      have kKp00_11 := Kp0_11.cell 0
      have kKp01_11 := Kp0_11.cell 1
      have kKp02_11 := Kp0_11.cell 2
      simp only [List.getElem?_cons_zero, List.getElem?_cons_succ] at kKp00_11 kKp01_11 kKp02_11
      clear kKp00_10 kKp01_10 kKp02_10
      have kKW0_11 := KW_11.cell 0
      have kKW1_11 := KW_11.cell 1
      simp only [List.getElem?_cons_zero, List.getElem?_cons_succ] at kKW0_11 kKW1_11
      clear kKW0_10 kKW1_10
      have kKG0_11 := KG.cell 0
      have kKG1_11 := KG.cell 1
      simp only [List.getElem?_cons_zero, List.getElem?_cons_succ] at kKG0_11 kKG1_11
      refine (laws_eqMatch _ _ _ _ _ _ _ _ _ _ _ rfl rfl oG_11.recs oW_11.recs (by omega) (by omega)).mono ?_; rintro e w12 ⟨rfl, hb12⟩
      have sz12 : w11.heap.size ≤ w12.heap.size := hb12.size
      have HW12 := below_go HW11 hb12
      have oW_12 := oW_11.up hb12
      have ox1_12 := ox1_11.up hb12
      have ox2_12 := ox2_11.up hb12
      have oG_12 := oG_11.up hb12
      have Kp0_12 := Kp0_11.up hb12
      have KW_12 := KW_11.up hb12
      have KG_12 := KG.up hb12
      have kKp00_12 := Kp0_12.cell 0
      have kKp01_12 := Kp0_12.cell 1
      have kKp02_12 := Kp0_12.cell 2
      simp only [List.getElem?_cons_zero, List.getElem?_cons_succ] at kKp00_12 kKp01_12 kKp02_12
      clear kKp00_11 kKp01_11 kKp02_11
      have kKW0_12 := KW_12.cell 0
      have kKW1_12 := KW_12.cell 1
      simp only [List.getElem?_cons_zero, List.getElem?_cons_succ] at kKW0_12 kKW1_12
      clear kKW0_11 kKW1_11
      have kKG0_12 := KG_12.cell 0
      have kKG1_12 := KG_12.cell 1
      simp only [List.getElem?_cons_zero, List.getElem?_cons_succ] at kKG0_12 kKG1_12
      clear kKG0_11 kKG1_11
      go_wp2_with fail
      refine (laws_toStringS _ _ _ _ _ rfl (h1.below HW12 (Nat.le_refl _)) (by omega)).mono ?_; rintro e w13 ⟨gt1, rfl, ot1, hb13⟩
      have sz13 : w12.heap.size ≤ w13.heap.size := hb13.size
      have HW13 := below_go HW12 hb13
      have oW_13 := oW_12.up hb13
      have ox1_13 := ox1_12.up hb13
      have ox2_13 := ox2_12.up hb13
      have oG_13 := oG_12.up hb13
      have Kp0_13 := Kp0_12.up hb13
      have KW_13 := KW_12.up hb13
      have KG_13 := KG_12.up hb13
      have kKp00_13 := Kp0_13.cell 0
      have kKp01_13 := Kp0_13.cell 1
      have kKp02_13 := Kp0_13.cell 2
      simp only [List.getElem?_cons_zero, List.getElem?_cons_succ] at kKp00_13 kKp01_13 kKp02_13
      clear kKp00_12 kKp01_12 kKp02_12
      have kKW0_13 := KW_13.cell 0
      have kKW1_13 := KW_13.cell 1
      simp only [List.getElem?_cons_zero, List.getElem?_cons_succ] at kKW0_13 kKW1_13
      clear kKW0_12 kKW1_12
      have kKG0_13 := KG_13.cell 0
      have kKG1_13 := KG_13.cell 1
      simp only [List.getElem?_cons_zero, List.getElem?_cons_succ] at kKG0_13 kKG1_13
      clear kKG0_12 kKG1_12
      have rot1 := ot1.range
      go_wp2_with fail
      refine (laws_eqStringS _ _ _ _ _ _ _ _ _ rfl rfl ox1_13.recs ot1.recs (by omega) (by omega)).mono ?_; rintro e w14 ⟨rfl, hb14⟩
      have sz14 : w13.heap.size ≤ w14.heap.size := hb14.size
      have HW14 := below_go HW13 hb14
      have oW_14 := oW_13.up hb14
      have ox1_14 := ox1_13.up hb14
      have ox2_14 := ox2_13.up hb14
      have oG_14 := oG_13.up hb14
      have ot1_14 := ot1.up hb14
      have Kp0_14 := Kp0_13.up hb14
      have KW_14 := KW_13.up hb14
      have KG_14 := KG_13.up hb14
      have kKp00_14 := Kp0_14.cell 0
      have kKp01_14 := Kp0_14.cell 1
      have kKp02_14 := Kp0_14.cell 2
      simp only [List.getElem?_cons_zero, List.getElem?_cons_succ] at kKp00_14 kKp01_14 kKp02_14
      clear kKp00_13 kKp01_13 kKp02_13
      have kKW0_14 := KW_14.cell 0
      have kKW1_14 := KW_14.cell 1
      simp only [List.getElem?_cons_zero, List.getElem?_cons_succ] at kKW0_14 kKW1_14
      clear kKW0_13 kKW1_13
      have kKG0_14 := KG_14.cell 0
      have kKG1_14 := KG_14.cell 1
      simp only [List.getElem?_cons_zero, List.getElem?_cons_succ] at kKG0_14 kKG1_14
      clear kKG0_13 kKG1_13
      go_wp2_with fail
      refine (laws_toStrikeS _ _ _ _ _ rfl (h2.below HW14 (Nat.le_refl _)) (by omega)).mono ?_; rintro e w15 ⟨gt2, rfl, ot2, hb15⟩
      have sz15 : w14.heap.size ≤ w15.heap.size := hb15.size
      have HW15 := below_go HW14 hb15
      have oW_15 := oW_14.up hb15
      have ox1_15 := ox1_14.up hb15
      have ox2_15 := ox2_14.up hb15
      have oG_15 := oG_14.up hb15
      have Kp0_15 := Kp0_14.up hb15
      have KW_15 := KW_14.up hb15
      have KG_15 := KG_14.up hb15
      have kKp00_15 := Kp0_15.cell 0
      have kKp01_15 := Kp0_15.cell 1
      have kKp02_15 := Kp0_15.cell 2
      simp only [List.getElem?_cons_zero, List.getElem?_cons_succ] at kKp00_15 kKp01_15 kKp02_15
      clear kKp00_14 kKp01_14 kKp02_14
      have kKW0_15 := KW_15.cell 0
      have kKW1_15 := KW_15.cell 1
      simp only [List.getElem?_cons_zero, List.getElem?_cons_succ] at kKW0_15 kKW1_15
      clear kKW0_14 kKW1_14
      have kKG0_15 := KG_15.cell 0
      have kKG1_15 := KG_15.cell 1
      simp only [List.getElem?_cons_zero, List.getElem?_cons_succ] at kKG0_15 kKG1_15
      clear kKG0_14 kKG1_14
      have rot2 := ot2.range
      go_wp2_with fail
      refine (laws_eqStrikeS _ _ _ _ _ _ _ _ _ rfl rfl ox2_15.recs ot2.recs (by omega) (by omega)).mono ?_; rintro e w16 ⟨rfl, hb16⟩
      have sz16 : w15.heap.size ≤ w16.heap.size := hb16.size
      have HW16 := below_go HW15 hb16
      have oW_16 := oW_15.up hb16
      have ox1_16 := ox1_15.up hb16
      have ox2_16 := ox2_15.up hb16
      have oG_16 := oG_15.up hb16
      have ot2_16 := ot2.up hb16
      have Kp0_16 := Kp0_15.up hb16
      have KW_16 := KW_15.up hb16
      have KG_16 := KG_15.up hb16
      have kKp00_16 := Kp0_16.cell 0
      have kKp01_16 := Kp0_16.cell 1
      have kKp02_16 := Kp0_16.cell 2
      simp only [List.getElem?_cons_zero, List.getElem?_cons_succ] at kKp00_16 kKp01_16 kKp02_16
      clear kKp00_15 kKp01_15 kKp02_15
      have kKW0_16 := KW_16.cell 0
      have kKW1_16 := KW_16.cell 1
      simp only [List.getElem?_cons_zero, List.getElem?_cons_succ] at kKW0_16 kKW1_16
      clear kKW0_15 kKW1_15
      have kKG0_16 := KG_16.cell 0
      have kKG1_16 := KG_16.cell 1
      simp only [List.getElem?_cons_zero, List.getElem?_cons_succ] at kKG0_16 kKG1_16
      clear kKG0_15 kKG1_15
      go_wp2_with fail
      have bm17 : w6.heap.size ≤ w16.heap.size := by omega
      refine (laws_markStringS _ _ _ _ _ _ _ ox1_16 bm17 (by omega) (by omega)).mono ?_; rintro e w17 ⟨rfl, ox1m, hg17, hb17⟩
      have sz17 : w16.heap.size ≤ w17.heap.size := hb17.size
      have HW17 := HW16.trans (hb17.mono (by omega))
      have oW_17 := oW_16.kept hg17 (roW.ne rox1 (by omega))
      have ox2_17 := ox2_16.kept hg17 (rox2.ne rox1 (by omega))
      have oG_17 := oG_16.kept hg17 (roG.ne rox1 (by omega))
      have Kp0_17 := Kp0_16.grown hg17 (rox1.out (by omega))
      have KW_17 := KW_16.grown hg17 (rox1.out (by omega))
      have KG_17 := KG_16.grown hg17 (rox1.out (by omega))
      have kKp00_17 := Kp0_17.cell 0
      have kKp01_17 := Kp0_17.cell 1
      have kKp02_17 := Kp0_17.cell 2
      simp only [List.getElem?_cons_zero, List.getElem?_cons_succ] at kKp00_17 kKp01_17 kKp02_17
      clear kKp00_16 kKp01_16 kKp02_16
      have kKW0_17 := KW_17.cell 0
      have kKW1_17 := KW_17.cell 1
      simp only [List.getElem?_cons_zero, List.getElem?_cons_succ] at kKW0_17 kKW1_17
      clear kKW0_16 kKW1_16
      have kKG0_17 := KG_17.cell 0
      have kKG1_17 := KG_17.cell 1
      simp only [List.getElem?_cons_zero, List.getElem?_cons_succ] at kKG0_17 kKG1_17
      clear kKG0_16 kKG1_16
      go_wp2_with fail
      have bm18 : w7.heap.size ≤ w17.heap.size := by omega
      refine (laws_markStrikeS _ _ _ _ _ _ _ ox2_17 bm18 (by omega) (by omega)).mono ?_; rintro e w18 ⟨rfl, ox2m, hg18, hb18⟩
      have sz18 : w17.heap.size ≤ w18.heap.size := hb18.size
      have HW18 := HW17.trans (hb18.mono (by omega))
      have oW_18 := oW_17.kept hg18 (roW.ne rox2 (by omega))
      have ox1_18 := ox1m.kept hg18 (rox1.ne rox2 (by omega))
      have oG_18 := oG_17.kept hg18 (roG.ne rox2 (by omega))
      have Kp0_18 := Kp0_17.grown hg18 (rox2.out (by omega))
      have KW_18 := KW_17.grown hg18 (rox2.out (by omega))
      have KG_18 := KG_17.grown hg18 (rox2.out (by omega))
      have kKp00_18 := Kp0_18.cell 0
      have kKp01_18 := Kp0_18.cell 1
      have kKp02_18 := Kp0_18.cell 2
      simp only [List.getElem?_cons_zero, List.getElem?_cons_succ] at kKp00_18 kKp01_18 kKp02_18
      clear kKp00_17 kKp01_17 kKp02_17
      have kKW0_18 := KW_18.cell 0
      have kKW1_18 := KW_18.cell 1
      simp only [List.getElem?_cons_zero, List.getElem?_cons_succ] at kKW0_18 kKW1_18
      clear kKW0_17 kKW1_17
      have kKG0_18 := KG_18.cell 0
      have kKG1_18 := KG_18.cell 1
      simp only [List.getElem?_cons_zero, List.getElem?_cons_succ] at kKG0_18 kKG1_18
      clear kKG0_17 kKG1_17
      go_wp2_with fail
      refine (laws_eqMatch _ _ _ _ _ _ _ _ _ _ _ rfl rfl oG_18.recs oW_18.recs (by omega) (by omega)).mono ?_; rintro e w19 ⟨rfl, hb19⟩
      have sz19 : w18.heap.size ≤ w19.heap.size := hb19.size
      have HW19 := below_go HW18 hb19
      have oW_19 := oW_18.up hb19
      have ox1_19 := ox1_18.up hb19
      have ox2_19 := ox2m.up hb19
      have oG_19 := oG_18.up hb19
      have Kp0_19 := Kp0_18.up hb19
      have KW_19 := KW_18.up hb19
      have KG_19 := KG_18.up hb19
      have kKp00_19 := Kp0_19.cell 0
      have kKp01_19 := Kp0_19.cell 1
      have kKp02_19 := Kp0_19.cell 2
      simp only [List.getElem?_cons_zero, List.getElem?_cons_succ] at kKp00_19 kKp01_19 kKp02_19
      clear kKp00_18 kKp01_18 kKp02_18
      have kKW0_19 := KW_19.cell 0
      have kKW1_19 := KW_19.cell 1
      simp only [List.getElem?_cons_zero, List.getElem?_cons_succ] at kKW0_19 kKW1_19
      clear kKW0_18 kKW1_18
      have kKG0_19 := KG_19.cell 0
      have kKG1_19 := KG_19.cell 1
      simp only [List.getElem?_cons_zero, List.getElem?_cons_succ] at kKG0_19 kKG1_19
      clear kKG0_18 kKG1_18
      go_wp2_with fail
      have bm20 : w9.heap.size ≤ w19.heap.size := by omega
      refine (laws_markMatch _ _ _ _ _ _ _ _ oG_19 bm20 (by omega) (by omega)).mono ?_; rintro e w20 ⟨rfl, oGm, hg20, hb20⟩
      have sz20 : w19.heap.size ≤ w20.heap.size := hb20.size
      have HW20 := HW19.trans (hb20.mono (by omega))
      have oW_20 := oW_19.kept hg20 (roW.ne roG (by omega))
      have ox1_20 := ox1_19.kept hg20 (rox1.ne roG (by omega))
      have ox2_20 := ox2_19.kept hg20 (rox2.ne roG (by omega))
      have Kp0_20 := Kp0_19.grown hg20 (roG.out (by omega))
      have KW_20 := KW_19.grown hg20 (roG.out (by omega))
      have KG_20 := KG_19.grown hg20 (roG.out (by omega))
      have kKp00_20 := Kp0_20.cell 0
      have kKp01_20 := Kp0_20.cell 1
      have kKp02_20 := Kp0_20.cell 2
      simp only [List.getElem?_cons_zero, List.getElem?_cons_succ] at kKp00_20 kKp01_20 kKp02_20
      clear kKp00_19 kKp01_19 kKp02_19
      have kKW0_20 := KW_20.cell 0
      have kKW1_20 := KW_20.cell 1
      simp only [List.getElem?_cons_zero, List.getElem?_cons_succ] at kKW0_20 kKW1_20
      clear kKW0_19 kKW1_19
      have kKG0_20 := KG_20.cell 0
      have kKG1_20 := KG_20.cell 1
      simp only [List.getElem?_cons_zero, List.getElem?_cons_succ] at kKG0_20 kKG1_20
      clear kKG0_19 kKG1_19
      go_wp2_with fail
      refine (laws_heldMatch _ _ _ _ _ _ oGm.recs (by omega) (by omega)).mono ?_; rintro e w21 ⟨rfl, hb21⟩
      have sz21 : w20.heap.size ≤ w21.heap.size := hb21.size
      have HW21 := below_go HW20 hb21
      have oW_21 := oW_20.up hb21
      have ox1_21 := ox1_20.up hb21
      have ox2_21 := ox2_20.up hb21
      have oG_21 := oGm.up hb21
      have Kp0_21 := Kp0_20.up hb21
      have KW_21 := KW_20.up hb21
      have KG_21 := KG_20.up hb21
      have kKp00_21 := Kp0_21.cell 0
      have kKp01_21 := Kp0_21.cell 1
      have kKp02_21 := Kp0_21.cell 2
      simp only [List.getElem?_cons_zero, List.getElem?_cons_succ] at kKp00_21 kKp01_21 kKp02_21
      clear kKp00_20 kKp01_20 kKp02_20
      have kKW0_21 := KW_21.cell 0
      have kKW1_21 := KW_21.cell 1
      simp only [List.getElem?_cons_zero, List.getElem?_cons_succ] at kKW0_21 kKW1_21
      clear kKW0_20 kKW1_20
      have kKG0_21 := KG_21.cell 0
      have kKG1_21 := KG_21.cell 1
      simp only [List.getElem?_cons_zero, List.getElem?_cons_succ] at kKG0_21 kKG1_21
      clear kKG0_20 kKG1_20
      go_wp2_with fail
      refine (laws_toBeat _ _ _ _).mono ?_; rintro e w22 ⟨rfl, hb22⟩
      have sz22 : w21.heap.size ≤ w22.heap.size := hb22.size
      have HW22 := below_go HW21 hb22
      have oW_22 := oW_21.up hb22
      have ox1_22 := ox1_21.up hb22
      have ox2_22 := ox2_21.up hb22
      have oG_22 := oG_21.up hb22
      have Kp0_22 := Kp0_21.up hb22
      have KW_22 := KW_21.up hb22
      have KG_22 := KG_21.up hb22
      have kKp00_22 := Kp0_22.cell 0
      have kKp01_22 := Kp0_22.cell 1
      have kKp02_22 := Kp0_22.cell 2
      simp only [List.getElem?_cons_zero, List.getElem?_cons_succ] at kKp00_22 kKp01_22 kKp02_22
      clear kKp00_21 kKp01_21 kKp02_21
      have kKW0_22 := KW_22.cell 0
      have kKW1_22 := KW_22.cell 1
      simp only [List.getElem?_cons_zero, List.getElem?_cons_succ] at kKW0_22 kKW1_22
      clear kKW0_21 kKW1_21
      have kKG0_22 := KG_22.cell 0
      have kKG1_22 := KG_22.cell 1
      simp only [List.getElem?_cons_zero, List.getElem?_cons_succ] at kKG0_22 kKG1_22
      clear kKG0_21 kKG1_21
      go_wp2_with fail
      refine (laws_toStringS _ _ _ _ _ rfl (h1.below HW22 (Nat.le_refl _)) (by omega)).mono ?_; rintro e w23 ⟨gy1, rfl, oy1, hb23⟩
      have sz23 : w22.heap.size ≤ w23.heap.size := hb23.size
      have HW23 := below_go HW22 hb23
      have oW_23 := oW_22.up hb23
      have ox1_23 := ox1_22.up hb23
      have ox2_23 := ox2_22.up hb23
      have oG_23 := oG_22.up hb23
      have Kp0_23 := Kp0_22.up hb23
      have KW_23 := KW_22.up hb23
      have KG_23 := KG_22.up hb23
      have kKp00_23 := Kp0_23.cell 0
      have kKp01_23 := Kp0_23.cell 1
      have kKp02_23 := Kp0_23.cell 2
      simp only [List.getElem?_cons_zero, List.getElem?_cons_succ] at kKp00_23 kKp01_23 kKp02_23
      clear kKp00_22 kKp01_22 kKp02_22
      have kKW0_23 := KW_23.cell 0
      have kKW1_23 := KW_23.cell 1
      simp only [List.getElem?_cons_zero, List.getElem?_cons_succ] at kKW0_23 kKW1_23
      clear kKW0_22 kKW1_22
      have kKG0_23 := KG_23.cell 0
      have kKG1_23 := KG_23.cell 1
      simp only [List.getElem?_cons_zero, List.getElem?_cons_succ] at kKG0_23 kKG1_23
      clear kKG0_22 kKG1_22
      have roy1 := oy1.range
      go_wp2_with fail
      refine (laws_toStrikeS _ _ _ _ _ rfl (h2.below HW23 (Nat.le_refl _)) (by omega)).mono ?_; rintro e w24 ⟨gy2, rfl, oy2, hb24⟩
      have sz24 : w23.heap.size ≤ w24.heap.size := hb24.size
      have HW24 := below_go HW23 hb24
      have oW_24 := oW_23.up hb24
      have ox1_24 := ox1_23.up hb24
      have ox2_24 := ox2_23.up hb24
      have oG_24 := oG_23.up hb24
      have oy1_24 := oy1.up hb24
      have Kp0_24 := Kp0_23.up hb24
      have KW_24 := KW_23.up hb24
      have KG_24 := KG_23.up hb24
      have kKp00_24 := Kp0_24.cell 0
      have kKp01_24 := Kp0_24.cell 1
      have kKp02_24 := Kp0_24.cell 2
      simp only [List.getElem?_cons_zero, List.getElem?_cons_succ] at kKp00_24 kKp01_24 kKp02_24
      clear kKp00_23 kKp01_23 kKp02_23
      have kKW0_24 := KW_24.cell 0
      have kKW1_24 := KW_24.cell 1
      simp only [List.getElem?_cons_zero, List.getElem?_cons_succ] at kKW0_24 kKW1_24
      clear kKW0_23 kKW1_23
      have kKG0_24 := KG_24.cell 0
      have kKG1_24 := KG_24.cell 1
      simp only [List.getElem?_cons_zero, List.getElem?_cons_succ] at kKG0_24 kKG1_24
      clear kKG0_23 kKG1_23
      have roy2 := oy2.range
      go_wp2_with fail
      refine (impl_MatchBell rfl oy1_24.recs (by omega) rfl oy2.recs (by omega) hs1).mono ?_; rintro e w25 ⟨AH, cH, rfl, oH, nH, hb25⟩
      have sz25 : w24.heap.size ≤ w25.heap.size := hb25.size
      have HW25 := below_go HW24 hb25
      have oW_25 := oW_24.up hb25
      have ox1_25 := ox1_24.up hb25
      have ox2_25 := ox2_24.up hb25
      have oG_25 := oG_24.up hb25
      have oy1_25 := oy1_24.up hb25
      have oy2_25 := oy2.up hb25
      have Kp0_25 := Kp0_24.up hb25
      have KW_25 := KW_24.up hb25
      have KG_25 := KG_24.up hb25
      have kKp00_25 := Kp0_25.cell 0
      have kKp01_25 := Kp0_25.cell 1
      have kKp02_25 := Kp0_25.cell 2
      simp only [List.getElem?_cons_zero, List.getElem?_cons_succ] at kKp00_25 kKp01_25 kKp02_25
      clear kKp00_24 kKp01_24 kKp02_24
      have kKW0_25 := KW_25.cell 0
      have kKW1_25 := KW_25.cell 1
      simp only [List.getElem?_cons_zero, List.getElem?_cons_succ] at kKW0_25 kKW1_25
      clear kKW0_24 kKW1_24
      have kKG0_25 := KG_25.cell 0
      have kKG1_25 := KG_25.cell 1
      simp only [List.getElem?_cons_zero, List.getElem?_cons_succ] at kKG0_25 kKG1_25
      clear kKG0_24 kKG1_24
      have roH := oH.range
      have zH0 := (Blk.at_ w25 48 [.slice AH ((mbOf x0 y0 z0 l1 l2 x3 x4)).length cH, .int .i64 ((mbCost x0 y0 z0 l1 l2 x3 x4))] (b := w25.heap.size) rfl).cell 0
      have zH1 := (Blk.at_ w25 48 [.slice AH ((mbOf x0 y0 z0 l1 l2 x3 x4)).length cH, .int .i64 ((mbCost x0 y0 z0 l1 l2 x3 x4))] (b := w25.heap.size) rfl).cell 1
      simp only [List.getElem?_cons_zero, List.getElem?_cons_succ] at zH0 zH1
      have zKp00 := (Kp0_25.alloc (.cells #[.slice AH ((mbOf x0 y0 z0 l1 l2 x3 x4)).length cH, .int .i64 ((mbCost x0 y0 z0 l1 l2 x3 x4))] 48)).cell 0
      have zKp01 := (Kp0_25.alloc (.cells #[.slice AH ((mbOf x0 y0 z0 l1 l2 x3 x4)).length cH, .int .i64 ((mbCost x0 y0 z0 l1 l2 x3 x4))] 48)).cell 1
      have zKp02 := (Kp0_25.alloc (.cells #[.slice AH ((mbOf x0 y0 z0 l1 l2 x3 x4)).length cH, .int .i64 ((mbCost x0 y0 z0 l1 l2 x3 x4))] 48)).cell 2
      simp only [List.getElem?_cons_zero, List.getElem?_cons_succ] at zKp00 zKp01 zKp02
      have zKW0 := (KW_25.alloc (.cells #[.slice AH ((mbOf x0 y0 z0 l1 l2 x3 x4)).length cH, .int .i64 ((mbCost x0 y0 z0 l1 l2 x3 x4))] 48)).cell 0
      have zKW1 := (KW_25.alloc (.cells #[.slice AH ((mbOf x0 y0 z0 l1 l2 x3 x4)).length cH, .int .i64 ((mbCost x0 y0 z0 l1 l2 x3 x4))] 48)).cell 1
      simp only [List.getElem?_cons_zero, List.getElem?_cons_succ] at zKW0 zKW1
      have zKG0 := (KG_25.alloc (.cells #[.slice AH ((mbOf x0 y0 z0 l1 l2 x3 x4)).length cH, .int .i64 ((mbCost x0 y0 z0 l1 l2 x3 x4))] 48)).cell 0
      have zKG1 := (KG_25.alloc (.cells #[.slice AH ((mbOf x0 y0 z0 l1 l2 x3 x4)).length cH, .int .i64 ((mbCost x0 y0 z0 l1 l2 x3 x4))] 48)).cell 1
      simp only [List.getElem?_cons_zero, List.getElem?_cons_succ] at zKG0 zKG1
      go_wp2_with fail
      clear zH0 zH1 zKp00 zKp01 zKp02 zKW0 zKW1 zKG0 zKG1
      have hb26 : Below w25.heap.size w25 (w25.alloc (.cells #[.slice AH ((mbOf x0 y0 z0 l1 l2 x3 x4)).length cH, .int .i64 ((mbCost x0 y0 z0 l1 l2 x3 x4))] 48)) := by (repeat' (first | (with_reducible exact Below.refl _ _) | (with_reducible assumption) | (with_reducible refine below_drewN ?_ _) | (with_reducible refine Below.drew ?_) | (with_reducible refine below_alloc ?_ _) | (with_reducible refine Below.alloc ?_ ?_ _) | (with_reducible refine Below.setCell ?_ ?_ _) | (with_reducible refine below_go ?_ (by with_reducible assumption)) | (with_reducible refine below_then (by with_reducible assumption) ?_ ?_) | go_size))
      have KH := Blk.at_ w25 48 [.slice AH ((mbOf x0 y0 z0 l1 l2 x3 x4)).length cH, .int .i64 ((mbCost x0 y0 z0 l1 l2 x3 x4))] (b := w25.heap.size) rfl
      have qH : w25.heap.size < (w25.alloc (.cells #[.slice AH ((mbOf x0 y0 z0 l1 l2 x3 x4)).length cH, .int .i64 ((mbCost x0 y0 z0 l1 l2 x3 x4))] 48)).heap.size := by simp
      obtain ⟨w26, hw26⟩ : ∃ u, u = (w25.alloc (.cells #[.slice AH ((mbOf x0 y0 z0 l1 l2 x3 x4)).length cH, .int .i64 ((mbCost x0 y0 z0 l1 l2 x3 x4))] 48)) := ⟨_, rfl⟩
      rw [← hw26] at hb26 KH qH ⊢
      clear hw26
      have sz26 : w25.heap.size ≤ w26.heap.size := hb26.size
      have HW26 := below_go HW25 hb26
      have oW_26 := oW_25.up hb26
      have ox1_26 := ox1_25.up hb26
      have ox2_26 := ox2_25.up hb26
      have oG_26 := oG_25.up hb26
      have oy1_26 := oy1_25.up hb26
      have oy2_26 := oy2_25.up hb26
      have oH_26 := oH.up hb26
      have Kp0_26 := Kp0_25.up hb26
      have KW_26 := KW_25.up hb26
      have KG_26 := KG_25.up hb26
      have kKp00_26 := Kp0_26.cell 0
      have kKp01_26 := Kp0_26.cell 1
      have kKp02_26 := Kp0_26.cell 2
      simp only [List.getElem?_cons_zero, List.getElem?_cons_succ] at kKp00_26 kKp01_26 kKp02_26
      clear kKp00_25 kKp01_25 kKp02_25
      have kKW0_26 := KW_26.cell 0
      have kKW1_26 := KW_26.cell 1
      simp only [List.getElem?_cons_zero, List.getElem?_cons_succ] at kKW0_26 kKW1_26
      clear kKW0_25 kKW1_25
      have kKG0_26 := KG_26.cell 0
      have kKG1_26 := KG_26.cell 1
      simp only [List.getElem?_cons_zero, List.getElem?_cons_succ] at kKG0_26 kKG1_26
      clear kKG0_25 kKG1_25
      have kKH0_26 := KH.cell 0
      have kKH1_26 := KH.cell 1
      simp only [List.getElem?_cons_zero, List.getElem?_cons_succ] at kKH0_26 kKH1_26
      refine (laws_eqMatch _ _ _ _ _ _ _ _ _ _ _ rfl rfl oH_26.recs oW_26.recs (by omega) (by omega)).mono ?_; rintro e w27 ⟨rfl, hb27⟩
      have sz27 : w26.heap.size ≤ w27.heap.size := hb27.size
      have HW27 := below_go HW26 hb27
      have oW_27 := oW_26.up hb27
      have ox1_27 := ox1_26.up hb27
      have ox2_27 := ox2_26.up hb27
      have oG_27 := oG_26.up hb27
      have oy1_27 := oy1_26.up hb27
      have oy2_27 := oy2_26.up hb27
      have oH_27 := oH_26.up hb27
      have Kp0_27 := Kp0_26.up hb27
      have KW_27 := KW_26.up hb27
      have KG_27 := KG_26.up hb27
      have KH_27 := KH.up hb27
      have kKp00_27 := Kp0_27.cell 0
      have kKp01_27 := Kp0_27.cell 1
      have kKp02_27 := Kp0_27.cell 2
      simp only [List.getElem?_cons_zero, List.getElem?_cons_succ] at kKp00_27 kKp01_27 kKp02_27
      clear kKp00_26 kKp01_26 kKp02_26
      have kKW0_27 := KW_27.cell 0
      have kKW1_27 := KW_27.cell 1
      simp only [List.getElem?_cons_zero, List.getElem?_cons_succ] at kKW0_27 kKW1_27
      clear kKW0_26 kKW1_26
      have kKG0_27 := KG_27.cell 0
      have kKG1_27 := KG_27.cell 1
      simp only [List.getElem?_cons_zero, List.getElem?_cons_succ] at kKG0_27 kKG1_27
      clear kKG0_26 kKG1_26
      have kKH0_27 := KH_27.cell 0
      have kKH1_27 := KH_27.cell 1
      simp only [List.getElem?_cons_zero, List.getElem?_cons_succ] at kKH0_27 kKH1_27
      clear kKH0_26 kKH1_26
      go_wp2_with fail
      refine (laws_heldMatch _ _ _ _ _ _ oG_27.recs (by omega) (by omega)).mono ?_; rintro e w28 ⟨rfl, hb28⟩
      have sz28 : w27.heap.size ≤ w28.heap.size := hb28.size
      have HW28 := below_go HW27 hb28
      have oW_28 := oW_27.up hb28
      have ox1_28 := ox1_27.up hb28
      have ox2_28 := ox2_27.up hb28
      have oG_28 := oG_27.up hb28
      have oy1_28 := oy1_27.up hb28
      have oy2_28 := oy2_27.up hb28
      have oH_28 := oH_27.up hb28
      have Kp0_28 := Kp0_27.up hb28
      have KW_28 := KW_27.up hb28
      have KG_28 := KG_27.up hb28
      have KH_28 := KH_27.up hb28
      have kKp00_28 := Kp0_28.cell 0
      have kKp01_28 := Kp0_28.cell 1
      have kKp02_28 := Kp0_28.cell 2
      simp only [List.getElem?_cons_zero, List.getElem?_cons_succ] at kKp00_28 kKp01_28 kKp02_28
      clear kKp00_27 kKp01_27 kKp02_27
      have kKW0_28 := KW_28.cell 0
      have kKW1_28 := KW_28.cell 1
      simp only [List.getElem?_cons_zero, List.getElem?_cons_succ] at kKW0_28 kKW1_28
      clear kKW0_27 kKW1_27
      have kKG0_28 := KG_28.cell 0
      have kKG1_28 := KG_28.cell 1
      simp only [List.getElem?_cons_zero, List.getElem?_cons_succ] at kKG0_28 kKG1_28
      clear kKG0_27 kKG1_27
      have kKH0_28 := KH_28.cell 0
      have kKH1_28 := KH_28.cell 1
      simp only [List.getElem?_cons_zero, List.getElem?_cons_succ] at kKH0_28 kKH1_28
      clear kKH0_27 kKH1_27
      go_wp2
      go_ret
      exact ⟨rfl, HW28⟩
    · have hbE : Below w.heap.size w (w.alloc (.cells #[.int .i64 x0, .int .i64 y0, .int .i64 z0] 24)) := by (repeat' (first | (with_reducible exact Below.refl _ _) | (with_reducible assumption) | (with_reducible refine below_drewN ?_ _) | (with_reducible refine Below.drew ?_) | (with_reducible refine below_alloc ?_ _) | (with_reducible refine Below.alloc ?_ ?_ _) | (with_reducible refine Below.setCell ?_ ?_ _) | (with_reducible refine below_go ?_ (by with_reducible assumption)) | (with_reducible refine below_then (by with_reducible assumption) ?_ ?_) | go_size))
      go_in
      go_wp2_with fail
      refine (laws_szStringS_ok _ _ _ _ _ _ rfl (h1.below hbE (Nat.le_refl _)) (by omega) (by omega) hm1 _hb1 (by omega)).mono ?_; rintro e w' ⟨rfl, rfl⟩
      go_wp2_with fail
      refine (laws_szStrikeS_no _ _ _ _ _ (by omega) (by omega) hm2).mono ?_; rintro e w' ⟨rfl, rfl⟩
      go_wp2
      go_ret
      exact ⟨rfl, by (repeat' (first | (with_reducible exact Below.refl _ _) | (with_reducible assumption) | (with_reducible refine below_drewN ?_ _) | (with_reducible refine Below.drew ?_) | (with_reducible refine below_alloc ?_ _) | (with_reducible refine Below.alloc ?_ ?_ _) | (with_reducible refine Below.setCell ?_ ?_ _) | (with_reducible refine below_go ?_ (by with_reducible assumption)) | (with_reducible refine below_then (by with_reducible assumption) ?_ ?_) | go_size))⟩
  · have hbE : Below w.heap.size w (w.alloc (.cells #[.int .i64 x0, .int .i64 y0, .int .i64 z0] 24)) := by (repeat' (first | (with_reducible exact Below.refl _ _) | (with_reducible assumption) | (with_reducible refine below_drewN ?_ _) | (with_reducible refine Below.drew ?_) | (with_reducible refine below_alloc ?_ _) | (with_reducible refine Below.alloc ?_ ?_ _) | (with_reducible refine Below.setCell ?_ ?_ _) | (with_reducible refine below_go ?_ (by with_reducible assumption)) | (with_reducible refine below_then (by with_reducible assumption) ?_ ?_) | go_size))
    go_in
    go_wp2_with fail
    refine (laws_szStringS_no _ _ _ _ _ _ rfl (h1.below hbE (Nat.le_refl _)) (by omega) (by omega) hm1 _hb1 (by omega)).mono ?_; rintro e w' ⟨rfl, rfl⟩
    go_wp2
    go_ret
    exact ⟨rfl, by (repeat' (first | (with_reducible exact Below.refl _ _) | (with_reducible assumption) | (with_reducible refine below_drewN ?_ _) | (with_reducible refine Below.drew ?_) | (with_reducible refine below_alloc ?_ _) | (with_reducible refine Below.alloc ?_ ?_ _) | (with_reducible refine Below.setCell ?_ ?_ _) | (with_reducible refine below_go ?_ (by with_reducible assumption)) | (with_reducible refine below_then (by with_reducible assumption) ?_ ?_) | go_size))⟩
end Go.Proofs.Ytcpfcgcdahhnjaa
