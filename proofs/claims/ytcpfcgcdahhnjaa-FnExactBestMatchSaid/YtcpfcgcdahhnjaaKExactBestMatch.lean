/- The walk through FnExactBestMatch: both sides give the same, the arguments are left alone, the result is memory of its own. -/
import Derived.Test.YtcpfcgcdahhnjaaCints
import Derived.Test.YtcpfcgcdahhnjaaCmatch
import Derived.Test.YtcpfcgcdahhnjaaW22d
namespace Go.Proofs.Ytcpfcgcdahhnjaa
set_option linter.unusedVariables false
set_option linter.unusedSimpArgs false
open Go.ChangeShapes Go.WideShapes Go.ChangeAt Go.RowKit Go.Deep
set_option maxHeartbeats 2000000 in
theorem law_BestMatch (A0 : Option Addr) (c0 : Nat) (l0 : List Int) (A1 : Option Addr) (c1 : Nat) (l1 : List Int) (x2 : Int) (w : World) (h0 : Recs intE 1 w A0 l0) (hm0 : l0.length ≤ 9223372036854775807) (_hb0 : ∀ x ∈ l0, -9223372036854775808 ≤ x ∧ x ≤ 9223372036854775807) (h1 : Recs intE 1 w A1 l1) (hm1 : l1.length ≤ 9223372036854775807) (_hb1 : ∀ x ∈ l1, -9223372036854775808 ≤ x ∧ x ≤ 9223372036854775807) (_hx2 : -9223372036854775808 ≤ x2 ∧ x2 ≤ 9223372036854775807) :
    Calls Try.prog 6 #[.slice A0 l0.length c0, .slice A1 l1.length c1, .int .i64 x2] w fun e w' => e = .returned (.bool true) ∧ Below w.heap.size w w' := by
  clear _hb0 _hb1 _hx2
  by_cases hz0 : l0.length ≤ 1048576
  · by_cases hz1 : l1.length ≤ 1048576
    · go_in
      go_wp2_with fail
      refine (laws_toIntS _ _ _ _ _ rfl h0 (by omega)).mono ?_; rintro e w1 ⟨gs0, rfl, os0, hb1⟩
      have sz1 : w.heap.size ≤ w1.heap.size := hb1.size
      have HW1 := hb1
      have ros0 := os0.range
      go_wp2_with fail
      refine (laws_toIntS _ _ _ _ _ rfl (h1.below HW1 (Nat.le_refl _)) (by omega)).mono ?_; rintro e w2 ⟨gs1, rfl, os1, hb2⟩
      have sz2 : w1.heap.size ≤ w2.heap.size := hb2.size
      have HW2 := below_go HW1 hb2
      have os0_2 := os0.up hb2
      have ros1 := os1.range
      go_wp2_with fail
      refine (spec_BestMatch rfl os0_2.recs (by omega) rfl os1.recs (by omega)).mono ?_; rintro e w3 ⟨AW, cW, rfl, oW, nW, hb3⟩
      have sz3 : w2.heap.size ≤ w3.heap.size := hb3.size
      have HW3 := below_go HW2 hb3
      have os0_3 := os0_2.up hb3
      have os1_3 := os1.up hb3
      have roW := oW.range
      have zW0 := (Blk.at_ w3 48 [.slice AW ((bestOf l0 l1 x2)).length cW, .int .i64 ((bestCost l0 l1 x2))] (b := w3.heap.size) rfl).cell 0
      have zW1 := (Blk.at_ w3 48 [.slice AW ((bestOf l0 l1 x2)).length cW, .int .i64 ((bestCost l0 l1 x2))] (b := w3.heap.size) rfl).cell 1
      simp only [List.getElem?_cons_zero, List.getElem?_cons_succ] at zW0 zW1
      go_wp2_with fail
      clear zW0 zW1
      have hb4 : Below w3.heap.size w3 (w3.alloc (.cells #[.slice AW ((bestOf l0 l1 x2)).length cW, .int .i64 ((bestCost l0 l1 x2))] 48)) := by (repeat' (first | (with_reducible exact Below.refl _ _) | (with_reducible assumption) | (with_reducible refine below_drewN ?_ _) | (with_reducible refine Below.drew ?_) | (with_reducible refine below_alloc ?_ _) | (with_reducible refine Below.alloc ?_ ?_ _) | (with_reducible refine Below.setCell ?_ ?_ _) | (with_reducible refine below_go ?_ (by with_reducible assumption)) | (with_reducible refine below_then (by with_reducible assumption) ?_ ?_) | go_size))
      have KW := Blk.at_ w3 48 [.slice AW ((bestOf l0 l1 x2)).length cW, .int .i64 ((bestCost l0 l1 x2))] (b := w3.heap.size) rfl
      have qW : w3.heap.size < (w3.alloc (.cells #[.slice AW ((bestOf l0 l1 x2)).length cW, .int .i64 ((bestCost l0 l1 x2))] 48)).heap.size := by simp
      obtain ⟨w4, hw4⟩ : ∃ u, u = (w3.alloc (.cells #[.slice AW ((bestOf l0 l1 x2)).length cW, .int .i64 ((bestCost l0 l1 x2))] 48)) := ⟨_, rfl⟩
      rw [← hw4] at hb4 KW qW ⊢
      clear hw4
      have sz4 : w3.heap.size ≤ w4.heap.size := hb4.size
      have HW4 := below_go HW3 hb4
      have oW_4 := oW.up hb4
      have kKW0_4 := KW.cell 0
      have kKW1_4 := KW.cell 1
      simp only [List.getElem?_cons_zero, List.getElem?_cons_succ] at kKW0_4 kKW1_4
      refine (laws_toIntS _ _ _ _ _ rfl (h0.below HW4 (Nat.le_refl _)) (by omega)).mono ?_; rintro e w5 ⟨gx0, rfl, ox0, hb5⟩
      have sz5 : w4.heap.size ≤ w5.heap.size := hb5.size
      have HW5 := below_go HW4 hb5
      have oW_5 := oW_4.up hb5
      have KW_5 := KW.up hb5
      have kKW0_5 := KW_5.cell 0
      have kKW1_5 := KW_5.cell 1
      simp only [List.getElem?_cons_zero, List.getElem?_cons_succ] at kKW0_5 kKW1_5
      clear kKW0_4 kKW1_4
      have rox0 := ox0.range
      go_wp2_with fail
      refine (laws_toIntS _ _ _ _ _ rfl (h1.below HW5 (Nat.le_refl _)) (by omega)).mono ?_; rintro e w6 ⟨gx1, rfl, ox1, hb6⟩
      have sz6 : w5.heap.size ≤ w6.heap.size := hb6.size
      have HW6 := below_go HW5 hb6
      have oW_6 := oW_5.up hb6
      have ox0_6 := ox0.up hb6
      have KW_6 := KW_5.up hb6
      have kKW0_6 := KW_6.cell 0
      have kKW1_6 := KW_6.cell 1
      simp only [List.getElem?_cons_zero, List.getElem?_cons_succ] at kKW0_6 kKW1_6
      clear kKW0_5 kKW1_5
      have rox1 := ox1.range
      go_wp2_with fail
      refine (impl_BestMatch rfl ox0_6.recs (by omega) rfl ox1.recs (by omega)).mono ?_; rintro e w7 ⟨AG, cG, rfl, oG, nG, hb7⟩
      have sz7 : w6.heap.size ≤ w7.heap.size := hb7.size
      have HW7 := below_go HW6 hb7
      have oW_7 := oW_6.up hb7
      have ox0_7 := ox0_6.up hb7
      have ox1_7 := ox1.up hb7
      have KW_7 := KW_6.up hb7
      have kKW0_7 := KW_7.cell 0
      have kKW1_7 := KW_7.cell 1
      simp only [List.getElem?_cons_zero, List.getElem?_cons_succ] at kKW0_7 kKW1_7
      clear kKW0_6 kKW1_6
      have roG := oG.range
      have zG0 := (Blk.at_ w7 48 [.slice AG ((bestOf l0 l1 x2)).length cG, .int .i64 ((bestCost l0 l1 x2))] (b := w7.heap.size) rfl).cell 0
      have zG1 := (Blk.at_ w7 48 [.slice AG ((bestOf l0 l1 x2)).length cG, .int .i64 ((bestCost l0 l1 x2))] (b := w7.heap.size) rfl).cell 1
      simp only [List.getElem?_cons_zero, List.getElem?_cons_succ] at zG0 zG1
      have zKW0 := (KW_7.alloc (.cells #[.slice AG ((bestOf l0 l1 x2)).length cG, .int .i64 ((bestCost l0 l1 x2))] 48)).cell 0
      have zKW1 := (KW_7.alloc (.cells #[.slice AG ((bestOf l0 l1 x2)).length cG, .int .i64 ((bestCost l0 l1 x2))] 48)).cell 1
      simp only [List.getElem?_cons_zero, List.getElem?_cons_succ] at zKW0 zKW1
      go_wp2_with fail
      clear zG0 zG1 zKW0 zKW1
      have hb8 : Below w7.heap.size w7 (w7.alloc (.cells #[.slice AG ((bestOf l0 l1 x2)).length cG, .int .i64 ((bestCost l0 l1 x2))] 48)) := by (repeat' (first | (with_reducible exact Below.refl _ _) | (with_reducible assumption) | (with_reducible refine below_drewN ?_ _) | (with_reducible refine Below.drew ?_) | (with_reducible refine below_alloc ?_ _) | (with_reducible refine Below.alloc ?_ ?_ _) | (with_reducible refine Below.setCell ?_ ?_ _) | (with_reducible refine below_go ?_ (by with_reducible assumption)) | (with_reducible refine below_then (by with_reducible assumption) ?_ ?_) | go_size))
      have KG := Blk.at_ w7 48 [.slice AG ((bestOf l0 l1 x2)).length cG, .int .i64 ((bestCost l0 l1 x2))] (b := w7.heap.size) rfl
      have qG : w7.heap.size < (w7.alloc (.cells #[.slice AG ((bestOf l0 l1 x2)).length cG, .int .i64 ((bestCost l0 l1 x2))] 48)).heap.size := by simp
      obtain ⟨w8, hw8⟩ : ∃ u, u = (w7.alloc (.cells #[.slice AG ((bestOf l0 l1 x2)).length cG, .int .i64 ((bestCost l0 l1 x2))] 48)) := ⟨_, rfl⟩
      rw [← hw8] at hb8 KG qG ⊢
      clear hw8
      have sz8 : w7.heap.size ≤ w8.heap.size := hb8.size
      have HW8 := below_go HW7 hb8
      have oW_8 := oW_7.up hb8
      have ox0_8 := ox0_7.up hb8
      have ox1_8 := ox1_7.up hb8
      have oG_8 := oG.up hb8
      have KW_8 := KW_7.up hb8
      have kKW0_8 := KW_8.cell 0
      have kKW1_8 := KW_8.cell 1
      simp only [List.getElem?_cons_zero, List.getElem?_cons_succ] at kKW0_8 kKW1_8
      clear kKW0_7 kKW1_7
      have kKG0_8 := KG.cell 0
      have kKG1_8 := KG.cell 1
      simp only [List.getElem?_cons_zero, List.getElem?_cons_succ] at kKG0_8 kKG1_8
      refine (laws_eqMatch _ _ _ _ _ _ _ _ _ _ _ rfl rfl oG_8.recs oW_8.recs (by omega) (by omega)).mono ?_; rintro e w9 ⟨rfl, hb9⟩
      have sz9 : w8.heap.size ≤ w9.heap.size := hb9.size
      have HW9 := below_go HW8 hb9
      have oW_9 := oW_8.up hb9
      have ox0_9 := ox0_8.up hb9
      have ox1_9 := ox1_8.up hb9
      have oG_9 := oG_8.up hb9
      have KW_9 := KW_8.up hb9
      have KG_9 := KG.up hb9
      have kKW0_9 := KW_9.cell 0
      have kKW1_9 := KW_9.cell 1
      simp only [List.getElem?_cons_zero, List.getElem?_cons_succ] at kKW0_9 kKW1_9
      clear kKW0_8 kKW1_8
      have kKG0_9 := KG_9.cell 0
      have kKG1_9 := KG_9.cell 1
      simp only [List.getElem?_cons_zero, List.getElem?_cons_succ] at kKG0_9 kKG1_9
      clear kKG0_8 kKG1_8
      go_wp2_with fail
      refine (laws_toIntS _ _ _ _ _ rfl (h0.below HW9 (Nat.le_refl _)) (by omega)).mono ?_; rintro e w10 ⟨gt0, rfl, ot0, hb10⟩
      have sz10 : w9.heap.size ≤ w10.heap.size := hb10.size
      have HW10 := below_go HW9 hb10
      have oW_10 := oW_9.up hb10
      have ox0_10 := ox0_9.up hb10
      have ox1_10 := ox1_9.up hb10
      have oG_10 := oG_9.up hb10
      have KW_10 := KW_9.up hb10
      have KG_10 := KG_9.up hb10
      have kKW0_10 := KW_10.cell 0
      have kKW1_10 := KW_10.cell 1
      simp only [List.getElem?_cons_zero, List.getElem?_cons_succ] at kKW0_10 kKW1_10
      clear kKW0_9 kKW1_9
      have kKG0_10 := KG_10.cell 0
      have kKG1_10 := KG_10.cell 1
      simp only [List.getElem?_cons_zero, List.getElem?_cons_succ] at kKG0_10 kKG1_10
      clear kKG0_9 kKG1_9
      have rot0 := ot0.range
      go_wp2_with fail
      refine (laws_eqIntS _ _ _ _ _ _ _ _ _ rfl rfl ox0_10.recs ot0.recs (by omega) (by omega)).mono ?_; rintro e w11 ⟨rfl, hb11⟩
      have sz11 : w10.heap.size ≤ w11.heap.size := hb11.size
      have HW11 := below_go HW10 hb11
      have oW_11 := oW_10.up hb11
      have ox0_11 := ox0_10.up hb11
      have ox1_11 := ox1_10.up hb11
      have oG_11 := oG_10.up hb11
      have ot0_11 := ot0.up hb11
      have KW_11 := KW_10.up hb11
      have KG_11 := KG_10.up hb11
      have kKW0_11 := KW_11.cell 0
      have kKW1_11 := KW_11.cell 1
      simp only [List.getElem?_cons_zero, List.getElem?_cons_succ] at kKW0_11 kKW1_11
      clear kKW0_10 kKW1_10
      have kKG0_11 := KG_11.cell 0
      have kKG1_11 := KG_11.cell 1
      simp only [List.getElem?_cons_zero, List.getElem?_cons_succ] at kKG0_11 kKG1_11
      clear kKG0_10 kKG1_10
      go_wp2_with fail
      refine (laws_toIntS _ _ _ _ _ rfl (h1.below HW11 (Nat.le_refl _)) (by omega)).mono ?_; rintro e w12 ⟨gt1, rfl, ot1, hb12⟩
      have sz12 : w11.heap.size ≤ w12.heap.size := hb12.size
      have HW12 := below_go HW11 hb12
      have oW_12 := oW_11.up hb12
      have ox0_12 := ox0_11.up hb12
      have ox1_12 := ox1_11.up hb12
      have oG_12 := oG_11.up hb12
      have KW_12 := KW_11.up hb12
      have KG_12 := KG_11.up hb12
      have kKW0_12 := KW_12.cell 0
      have kKW1_12 := KW_12.cell 1
      simp only [List.getElem?_cons_zero, List.getElem?_cons_succ] at kKW0_12 kKW1_12
      clear kKW0_11 kKW1_11
      have kKG0_12 := KG_12.cell 0
      have kKG1_12 := KG_12.cell 1
      simp only [List.getElem?_cons_zero, List.getElem?_cons_succ] at kKG0_12 kKG1_12
      clear kKG0_11 kKG1_11
      have rot1 := ot1.range
      go_wp2_with fail
      refine (laws_eqIntS _ _ _ _ _ _ _ _ _ rfl rfl ox1_12.recs ot1.recs (by omega) (by omega)).mono ?_; rintro e w13 ⟨rfl, hb13⟩
      have sz13 : w12.heap.size ≤ w13.heap.size := hb13.size
      have HW13 := below_go HW12 hb13
      have oW_13 := oW_12.up hb13
      have ox0_13 := ox0_12.up hb13
      have ox1_13 := ox1_12.up hb13
      have oG_13 := oG_12.up hb13
      have ot1_13 := ot1.up hb13
      have KW_13 := KW_12.up hb13
      have KG_13 := KG_12.up hb13
      have kKW0_13 := KW_13.cell 0
      have kKW1_13 := KW_13.cell 1
      simp only [List.getElem?_cons_zero, List.getElem?_cons_succ] at kKW0_13 kKW1_13
      clear kKW0_12 kKW1_12
      have kKG0_13 := KG_13.cell 0
      have kKG1_13 := KG_13.cell 1
      simp only [List.getElem?_cons_zero, List.getElem?_cons_succ] at kKG0_13 kKG1_13
      clear kKG0_12 kKG1_12
      go_wp2_with fail
      have bm14 : w4.heap.size ≤ w13.heap.size := by omega
      refine (laws_markIntS _ _ _ _ _ _ _ ox0_13 bm14 (by omega) (by omega)).mono ?_; rintro e w14 ⟨rfl, ox0m, hg14, hb14⟩
      have sz14 : w13.heap.size ≤ w14.heap.size := hb14.size
      have HW14 := HW13.trans (hb14.mono (by omega))
      have oW_14 := oW_13.kept hg14 (roW.ne rox0 (by omega))
      have ox1_14 := ox1_13.kept hg14 (rox1.ne rox0 (by omega))
      have oG_14 := oG_13.kept hg14 (roG.ne rox0 (by omega))
      have KW_14 := KW_13.grown hg14 (rox0.out (by omega))
      have KG_14 := KG_13.grown hg14 (rox0.out (by omega))
      have kKW0_14 := KW_14.cell 0
      have kKW1_14 := KW_14.cell 1
      simp only [List.getElem?_cons_zero, List.getElem?_cons_succ] at kKW0_14 kKW1_14
      clear kKW0_13 kKW1_13
      have kKG0_14 := KG_14.cell 0
      have kKG1_14 := KG_14.cell 1
      simp only [List.getElem?_cons_zero, List.getElem?_cons_succ] at kKG0_14 kKG1_14
      clear kKG0_13 kKG1_13
      go_wp2_with fail
      have bm15 : w5.heap.size ≤ w14.heap.size := by omega
      refine (laws_markIntS _ _ _ _ _ _ _ ox1_14 bm15 (by omega) (by omega)).mono ?_; rintro e w15 ⟨rfl, ox1m, hg15, hb15⟩
      have sz15 : w14.heap.size ≤ w15.heap.size := hb15.size
      have HW15 := HW14.trans (hb15.mono (by omega))
      have oW_15 := oW_14.kept hg15 (roW.ne rox1 (by omega))
      have ox0_15 := ox0m.kept hg15 (rox0.ne rox1 (by omega))
      have oG_15 := oG_14.kept hg15 (roG.ne rox1 (by omega))
      have KW_15 := KW_14.grown hg15 (rox1.out (by omega))
      have KG_15 := KG_14.grown hg15 (rox1.out (by omega))
      have kKW0_15 := KW_15.cell 0
      have kKW1_15 := KW_15.cell 1
      simp only [List.getElem?_cons_zero, List.getElem?_cons_succ] at kKW0_15 kKW1_15
      clear kKW0_14 kKW1_14
      have kKG0_15 := KG_15.cell 0
      have kKG1_15 := KG_15.cell 1
      simp only [List.getElem?_cons_zero, List.getElem?_cons_succ] at kKG0_15 kKG1_15
      clear kKG0_14 kKG1_14
      go_wp2_with fail
      refine (laws_eqMatch _ _ _ _ _ _ _ _ _ _ _ rfl rfl oG_15.recs oW_15.recs (by omega) (by omega)).mono ?_; rintro e w16 ⟨rfl, hb16⟩
      have sz16 : w15.heap.size ≤ w16.heap.size := hb16.size
      have HW16 := below_go HW15 hb16
      have oW_16 := oW_15.up hb16
      have ox0_16 := ox0_15.up hb16
      have ox1_16 := ox1m.up hb16
      have oG_16 := oG_15.up hb16
      have KW_16 := KW_15.up hb16
      have KG_16 := KG_15.up hb16
      have kKW0_16 := KW_16.cell 0
      have kKW1_16 := KW_16.cell 1
      simp only [List.getElem?_cons_zero, List.getElem?_cons_succ] at kKW0_16 kKW1_16
      clear kKW0_15 kKW1_15
      have kKG0_16 := KG_16.cell 0
      have kKG1_16 := KG_16.cell 1
      simp only [List.getElem?_cons_zero, List.getElem?_cons_succ] at kKG0_16 kKG1_16
      clear kKG0_15 kKG1_15
      go_wp2_with fail
      have bm17 : w6.heap.size ≤ w16.heap.size := by omega
      refine (laws_markMatch _ _ _ _ _ _ _ _ oG_16 bm17 (by omega) (by omega)).mono ?_; rintro e w17 ⟨rfl, oGm, hg17, hb17⟩
      have sz17 : w16.heap.size ≤ w17.heap.size := hb17.size
      have HW17 := HW16.trans (hb17.mono (by omega))
      have oW_17 := oW_16.kept hg17 (roW.ne roG (by omega))
      have ox0_17 := ox0_16.kept hg17 (rox0.ne roG (by omega))
      have ox1_17 := ox1_16.kept hg17 (rox1.ne roG (by omega))
      have KW_17 := KW_16.grown hg17 (roG.out (by omega))
      have KG_17 := KG_16.grown hg17 (roG.out (by omega))
      have kKW0_17 := KW_17.cell 0
      have kKW1_17 := KW_17.cell 1
      simp only [List.getElem?_cons_zero, List.getElem?_cons_succ] at kKW0_17 kKW1_17
      clear kKW0_16 kKW1_16
      have kKG0_17 := KG_17.cell 0
      have kKG1_17 := KG_17.cell 1
      simp only [List.getElem?_cons_zero, List.getElem?_cons_succ] at kKG0_17 kKG1_17
      clear kKG0_16 kKG1_16
      go_wp2_with fail
      refine (laws_heldMatch _ _ _ _ _ _ oGm.recs (by omega) (by omega)).mono ?_; rintro e w18 ⟨rfl, hb18⟩
      have sz18 : w17.heap.size ≤ w18.heap.size := hb18.size
      have HW18 := below_go HW17 hb18
      have oW_18 := oW_17.up hb18
      have ox0_18 := ox0_17.up hb18
      have ox1_18 := ox1_17.up hb18
      have oG_18 := oGm.up hb18
      have KW_18 := KW_17.up hb18
      have KG_18 := KG_17.up hb18
      have kKW0_18 := KW_18.cell 0
      have kKW1_18 := KW_18.cell 1
      simp only [List.getElem?_cons_zero, List.getElem?_cons_succ] at kKW0_18 kKW1_18
      clear kKW0_17 kKW1_17
      have kKG0_18 := KG_18.cell 0
      have kKG1_18 := KG_18.cell 1
      simp only [List.getElem?_cons_zero, List.getElem?_cons_succ] at kKG0_18 kKG1_18
      clear kKG0_17 kKG1_17
      go_wp2_with fail
      refine (laws_toIntS _ _ _ _ _ rfl (h0.below HW18 (Nat.le_refl _)) (by omega)).mono ?_; rintro e w19 ⟨gy0, rfl, oy0, hb19⟩
      have sz19 : w18.heap.size ≤ w19.heap.size := hb19.size
      have HW19 := below_go HW18 hb19
      have oW_19 := oW_18.up hb19
      have ox0_19 := ox0_18.up hb19
      have ox1_19 := ox1_18.up hb19
      have oG_19 := oG_18.up hb19
      have KW_19 := KW_18.up hb19
      have KG_19 := KG_18.up hb19
      have kKW0_19 := KW_19.cell 0
      have kKW1_19 := KW_19.cell 1
      simp only [List.getElem?_cons_zero, List.getElem?_cons_succ] at kKW0_19 kKW1_19
      clear kKW0_18 kKW1_18
      have kKG0_19 := KG_19.cell 0
      have kKG1_19 := KG_19.cell 1
      simp only [List.getElem?_cons_zero, List.getElem?_cons_succ] at kKG0_19 kKG1_19
      clear kKG0_18 kKG1_18
      have roy0 := oy0.range
      go_wp2_with fail
      refine (laws_toIntS _ _ _ _ _ rfl (h1.below HW19 (Nat.le_refl _)) (by omega)).mono ?_; rintro e w20 ⟨gy1, rfl, oy1, hb20⟩
      have sz20 : w19.heap.size ≤ w20.heap.size := hb20.size
      have HW20 := below_go HW19 hb20
      have oW_20 := oW_19.up hb20
      have ox0_20 := ox0_19.up hb20
      have ox1_20 := ox1_19.up hb20
      have oG_20 := oG_19.up hb20
      have oy0_20 := oy0.up hb20
      have KW_20 := KW_19.up hb20
      have KG_20 := KG_19.up hb20
      have kKW0_20 := KW_20.cell 0
      have kKW1_20 := KW_20.cell 1
      simp only [List.getElem?_cons_zero, List.getElem?_cons_succ] at kKW0_20 kKW1_20
      clear kKW0_19 kKW1_19
      have kKG0_20 := KG_20.cell 0
      have kKG1_20 := KG_20.cell 1
      simp only [List.getElem?_cons_zero, List.getElem?_cons_succ] at kKG0_20 kKG1_20
      clear kKG0_19 kKG1_19
      have roy1 := oy1.range
      go_wp2_with fail
      refine (impl_BestMatch rfl oy0_20.recs (by omega) rfl oy1.recs (by omega)).mono ?_; rintro e w21 ⟨AH, cH, rfl, oH, nH, hb21⟩
      have sz21 : w20.heap.size ≤ w21.heap.size := hb21.size
      have HW21 := below_go HW20 hb21
      have oW_21 := oW_20.up hb21
      have ox0_21 := ox0_20.up hb21
      have ox1_21 := ox1_20.up hb21
      have oG_21 := oG_20.up hb21
      have oy0_21 := oy0_20.up hb21
      have oy1_21 := oy1.up hb21
      have KW_21 := KW_20.up hb21
      have KG_21 := KG_20.up hb21
      have kKW0_21 := KW_21.cell 0
      have kKW1_21 := KW_21.cell 1
      simp only [List.getElem?_cons_zero, List.getElem?_cons_succ] at kKW0_21 kKW1_21
      clear kKW0_20 kKW1_20
      have kKG0_21 := KG_21.cell 0
      have kKG1_21 := KG_21.cell 1
      simp only [List.getElem?_cons_zero, List.getElem?_cons_succ] at kKG0_21 kKG1_21
      clear kKG0_20 kKG1_20
      have roH := oH.range
      have zH0 := (Blk.at_ w21 48 [.slice AH ((bestOf l0 l1 x2)).length cH, .int .i64 ((bestCost l0 l1 x2))] (b := w21.heap.size) rfl).cell 0
      have zH1 := (Blk.at_ w21 48 [.slice AH ((bestOf l0 l1 x2)).length cH, .int .i64 ((bestCost l0 l1 x2))] (b := w21.heap.size) rfl).cell 1
      simp only [List.getElem?_cons_zero, List.getElem?_cons_succ] at zH0 zH1
      have zKW0 := (KW_21.alloc (.cells #[.slice AH ((bestOf l0 l1 x2)).length cH, .int .i64 ((bestCost l0 l1 x2))] 48)).cell 0
      have zKW1 := (KW_21.alloc (.cells #[.slice AH ((bestOf l0 l1 x2)).length cH, .int .i64 ((bestCost l0 l1 x2))] 48)).cell 1
      simp only [List.getElem?_cons_zero, List.getElem?_cons_succ] at zKW0 zKW1
      have zKG0 := (KG_21.alloc (.cells #[.slice AH ((bestOf l0 l1 x2)).length cH, .int .i64 ((bestCost l0 l1 x2))] 48)).cell 0
      have zKG1 := (KG_21.alloc (.cells #[.slice AH ((bestOf l0 l1 x2)).length cH, .int .i64 ((bestCost l0 l1 x2))] 48)).cell 1
      simp only [List.getElem?_cons_zero, List.getElem?_cons_succ] at zKG0 zKG1
      go_wp2_with fail
      clear zH0 zH1 zKW0 zKW1 zKG0 zKG1
      have hb22 : Below w21.heap.size w21 (w21.alloc (.cells #[.slice AH ((bestOf l0 l1 x2)).length cH, .int .i64 ((bestCost l0 l1 x2))] 48)) := by (repeat' (first | (with_reducible exact Below.refl _ _) | (with_reducible assumption) | (with_reducible refine below_drewN ?_ _) | (with_reducible refine Below.drew ?_) | (with_reducible refine below_alloc ?_ _) | (with_reducible refine Below.alloc ?_ ?_ _) | (with_reducible refine Below.setCell ?_ ?_ _) | (with_reducible refine below_go ?_ (by with_reducible assumption)) | (with_reducible refine below_then (by with_reducible assumption) ?_ ?_) | go_size))
      have KH := Blk.at_ w21 48 [.slice AH ((bestOf l0 l1 x2)).length cH, .int .i64 ((bestCost l0 l1 x2))] (b := w21.heap.size) rfl
      have qH : w21.heap.size < (w21.alloc (.cells #[.slice AH ((bestOf l0 l1 x2)).length cH, .int .i64 ((bestCost l0 l1 x2))] 48)).heap.size := by simp
      obtain ⟨w22, hw22⟩ : ∃ u, u = (w21.alloc (.cells #[.slice AH ((bestOf l0 l1 x2)).length cH, .int .i64 ((bestCost l0 l1 x2))] 48)) := ⟨_, rfl⟩
      rw [← hw22] at hb22 KH qH ⊢
      clear hw22
      have sz22 : w21.heap.size ≤ w22.heap.size := hb22.size
      have HW22 := below_go HW21 hb22
      have oW_22 := oW_21.up hb22
      have ox0_22 := ox0_21.up hb22
      have ox1_22 := ox1_21.up hb22
      have oG_22 := oG_21.up hb22
      have oy0_22 := oy0_21.up hb22
      have oy1_22 := oy1_21.up hb22
      have oH_22 := oH.up hb22
      have KW_22 := KW_21.up hb22
      have KG_22 := KG_21.up hb22
      have kKW0_22 := KW_22.cell 0
      have kKW1_22 := KW_22.cell 1
      simp only [List.getElem?_cons_zero, List.getElem?_cons_succ] at kKW0_22 kKW1_22
      clear kKW0_21 kKW1_21
      have kKG0_22 := KG_22.cell 0
      have kKG1_22 := KG_22.cell 1
      simp only [List.getElem?_cons_zero, List.getElem?_cons_succ] at kKG0_22 kKG1_22
      clear kKG0_21 kKG1_21
      have kKH0_22 := KH.cell 0
      have kKH1_22 := KH.cell 1
      simp only [List.getElem?_cons_zero, List.getElem?_cons_succ] at kKH0_22 kKH1_22
      refine (laws_eqMatch _ _ _ _ _ _ _ _ _ _ _ rfl rfl oH_22.recs oW_22.recs (by omega) (by omega)).mono ?_; rintro e w23 ⟨rfl, hb23⟩
      have sz23 : w22.heap.size ≤ w23.heap.size := hb23.size
      have HW23 := below_go HW22 hb23
      have oW_23 := oW_22.up hb23
      have ox0_23 := ox0_22.up hb23
      have ox1_23 := ox1_22.up hb23
      have oG_23 := oG_22.up hb23
      have oy0_23 := oy0_22.up hb23
      have oy1_23 := oy1_22.up hb23
      have oH_23 := oH_22.up hb23
      have KW_23 := KW_22.up hb23
      have KG_23 := KG_22.up hb23
      have KH_23 := KH.up hb23
      have kKW0_23 := KW_23.cell 0
      have kKW1_23 := KW_23.cell 1
      simp only [List.getElem?_cons_zero, List.getElem?_cons_succ] at kKW0_23 kKW1_23
      clear kKW0_22 kKW1_22
      have kKG0_23 := KG_23.cell 0
      have kKG1_23 := KG_23.cell 1
      simp only [List.getElem?_cons_zero, List.getElem?_cons_succ] at kKG0_23 kKG1_23
      clear kKG0_22 kKG1_22
      have kKH0_23 := KH_23.cell 0
      have kKH1_23 := KH_23.cell 1
      simp only [List.getElem?_cons_zero, List.getElem?_cons_succ] at kKH0_23 kKH1_23
      clear kKH0_22 kKH1_22
      go_wp2_with fail
      refine (laws_heldMatch _ _ _ _ _ _ oG_23.recs (by omega) (by omega)).mono ?_; rintro e w24 ⟨rfl, hb24⟩
      have sz24 : w23.heap.size ≤ w24.heap.size := hb24.size
      have HW24 := below_go HW23 hb24
      have oW_24 := oW_23.up hb24
      have ox0_24 := ox0_23.up hb24
      have ox1_24 := ox1_23.up hb24
      have oG_24 := oG_23.up hb24
      have oy0_24 := oy0_23.up hb24
      have oy1_24 := oy1_23.up hb24
      have oH_24 := oH_23.up hb24
      have KW_24 := KW_23.up hb24
      have KG_24 := KG_23.up hb24
      have KH_24 := KH_23.up hb24
      have kKW0_24 := KW_24.cell 0
      have kKW1_24 := KW_24.cell 1
      simp only [List.getElem?_cons_zero, List.getElem?_cons_succ] at kKW0_24 kKW1_24
      clear kKW0_23 kKW1_23
      have kKG0_24 := KG_24.cell 0
      have kKG1_24 := KG_24.cell 1
      simp only [List.getElem?_cons_zero, List.getElem?_cons_succ] at kKG0_24 kKG1_24
      clear kKG0_23 kKG1_23
      have kKH0_24 := KH_24.cell 0
      have kKH1_24 := KH_24.cell 1
      simp only [List.getElem?_cons_zero, List.getElem?_cons_succ] at kKH0_24 kKH1_24
      clear kKH0_23 kKH1_23
      go_wp2
      go_ret
      exact ⟨rfl, HW24⟩
    · go_in
      go_wp2
      go_ret
      exact ⟨rfl, by (repeat' (first | (with_reducible exact Below.refl _ _) | (with_reducible assumption) | (with_reducible refine below_drewN ?_ _) | (with_reducible refine Below.drew ?_) | (with_reducible refine below_alloc ?_ _) | (with_reducible refine Below.alloc ?_ ?_ _) | (with_reducible refine Below.setCell ?_ ?_ _) | (with_reducible refine below_go ?_ (by with_reducible assumption)) | (with_reducible refine below_then (by with_reducible assumption) ?_ ?_) | go_size))⟩
  · go_in
    go_wp2
    go_ret
    exact ⟨rfl, by (repeat' (first | (with_reducible exact Below.refl _ _) | (with_reducible assumption) | (with_reducible refine below_drewN ?_ _) | (with_reducible refine Below.drew ?_) | (with_reducible refine below_alloc ?_ _) | (with_reducible refine Below.alloc ?_ ?_ _) | (with_reducible refine Below.setCell ?_ ?_ _) | (with_reducible refine below_go ?_ (by with_reducible assumption)) | (with_reducible refine below_then (by with_reducible assumption) ?_ ?_) | go_size))⟩
end Go.Proofs.Ytcpfcgcdahhnjaa
