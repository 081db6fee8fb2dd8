/- The walk through FnExactMergeStrikes: both sides give the same, the arguments are left alone, the result is memory of its own. -/
import Derived.Test.YthffeljicohpdaaCstrike
import Derived.Test.YthffeljicohpdaaWsw8
namespace Go.Proofs.Ythffeljicohpdaa
set_option linter.unusedVariables false
set_option linter.unusedSimpArgs false
open Go.ChangeShapes Go.WideShapes Go.ChangeAt Go.RowKit Go.Deep
set_option maxHeartbeats 2000000 in
theorem law_MergeStrikes (A0 : Option Addr) (c0 : Nat) (l0 : List (Int × Int)) (A1 : Option Addr) (c1 : Nat) (l1 : List (Int × Int)) (w : World) (h0 : Recs strikeE 2 w A0 l0) (hm0 : l0.length ≤ 9223372036854775807) (_hb0 : ∀ x ∈ l0, I64 x.1 ∧ I64 x.2) (h1 : Recs strikeE 2 w A1 l1) (hm1 : l1.length ≤ 9223372036854775807) (_hb1 : ∀ x ∈ l1, I64 x.1 ∧ I64 x.2) :
    Calls Try.prog 3 #[.slice A0 l0.length c0, .slice A1 l1.length c1] w fun e w' => e = .returned (.bool true) ∧ Below w.heap.size w w' := by
  clear _hb0 _hb1
  by_cases hz0 : (l0.length : Int) ≤ 1048576
  · by_cases hz1 : (l1.length : Int) ≤ 1048576 - (l0.length : Int)
    · go_in
      go_wp2_with fail
      refine (laws_szStrikeS_ok _ _ _ _ _ (by omega) (by omega)).mono ?_; rintro e w' ⟨rfl, rfl⟩
      go_wp2_with fail
      refine (laws_szStrikeS_ok _ _ _ _ _ (by omega) (by omega)).mono ?_; rintro e w' ⟨rfl, rfl⟩
      go_wp2_with fail
      refine (laws_toStrikeS _ _ _ _ _ rfl h0 (by omega)).mono ?_; rintro e w1 ⟨gs0, rfl, os0, hb1⟩
      have sz1 : w.heap.size ≤ w1.heap.size := hb1.size
      have HW1 := hb1
      have ros0 := os0.range
      go_wp2_with fail
      refine (laws_toStrikeS _ _ _ _ _ rfl (h1.below HW1 (Nat.le_refl _)) (by omega)).mono ?_; rintro e w2 ⟨gs1, rfl, os1, hb2⟩
      have sz2 : w1.heap.size ≤ w2.heap.size := hb2.size
      have HW2 := below_go HW1 hb2
      have os0_2 := os0.up hb2
      have ros1 := os1.range
      go_wp2_with fail
      refine (spec_MergeStrikes rfl os0_2.recs (by omega) rfl os1.recs (by omega) (Nat.le_refl _) (Nat.le_refl _) (by omega) (by omega)).mono ?_; rintro e w3 ⟨AW, cW, rfl, oW, nW, hb3⟩
      have sz3 : w2.heap.size ≤ w3.heap.size := hb3.size
      have HW3 := below_go HW2 hb3
      have os0_3 := os0_2.up hb3
      have os1_3 := os1.up hb3
      have roW := oW.range
      go_wp2_with fail
      refine (laws_toStrikeS _ _ _ _ _ rfl (h0.below HW3 (Nat.le_refl _)) (by omega)).mono ?_; rintro e w4 ⟨gx0, rfl, ox0, hb4⟩
      have sz4 : w3.heap.size ≤ w4.heap.size := hb4.size
      have HW4 := below_go HW3 hb4
      have oW_4 := oW.up hb4
      have rox0 := ox0.range
      go_wp2_with fail
      refine (laws_toStrikeS _ _ _ _ _ rfl (h1.below HW4 (Nat.le_refl _)) (by omega)).mono ?_; rintro e w5 ⟨gx1, rfl, ox1, hb5⟩
      have sz5 : w4.heap.size ≤ w5.heap.size := hb5.size
      have HW5 := below_go HW4 hb5
      have oW_5 := oW_4.up hb5
      have ox0_5 := ox0.up hb5
      have rox1 := ox1.range
      go_wp2_with fail
      refine (impl_MergeStrikes rfl ox0_5.recs (by omega) rfl ox1.recs (by omega)).mono ?_; rintro e w6 ⟨AG, cG, rfl, oG, nG, hb6⟩
      have sz6 : w5.heap.size ≤ w6.heap.size := hb6.size
      have HW6 := below_go HW5 hb6
      have oW_6 := oW_5.up hb6
      have ox0_6 := ox0_5.up hb6
      have ox1_6 := ox1.up hb6
      have roG := oG.range
      go_wp2_with fail
      refine (laws_eqStrikeS _ _ _ _ _ _ _ _ _ rfl rfl oG.recs oW_6.recs (by omega) (by omega)).mono ?_; rintro e w7 ⟨rfl, hb7⟩
      have sz7 : w6.heap.size ≤ w7.heap.size := hb7.size
      have HW7 := below_go HW6 hb7
      have oW_7 := oW_6.up hb7
      have ox0_7 := ox0_6.up hb7
      have ox1_7 := ox1_6.up hb7
      have oG_7 := oG.up hb7
      go_wp2_with fail
      refine (laws_toStrikeS _ _ _ _ _ rfl (h0.below HW7 (Nat.le_refl _)) (by omega)).mono ?_; rintro e w8 ⟨gt0, rfl, ot0, hb8⟩
      have sz8 : w7.heap.size ≤ w8.heap.size := hb8.size
      have HW8 := below_go HW7 hb8
      have oW_8 := oW_7.up hb8
      have ox0_8 := ox0_7.up hb8
      have ox1_8 := ox1_7.up hb8
      have oG_8 := oG_7.up hb8
      have rot0 := ot0.range
      go_wp2_with fail
      refine (laws_eqStrikeS _ _ _ _ _ _ _ _ _ rfl rfl ox0_8.recs ot0.recs (by omega) (by omega)).mono ?_; rintro e w9 ⟨rfl, hb9⟩
      have sz9 : w8.heap.size ≤ w9.heap.size := hb9.size
      have HW9 := below_go HW8 hb9
      have oW_9 := oW_8.up hb9
      have ox0_9 := ox0_8.up hb9
      have ox1_9 := ox1_8.up hb9
      have oG_9 := oG_8.up hb9
      have ot0_9 := ot0.up hb9
      go_wp2_with fail
      refine (laws_toStrikeS _ _ _ _ _ rfl (h1.below HW9 (Nat.le_refl _)) (by omega)).mono ?_; rintro e w10 ⟨gt1, rfl, ot1, hb10⟩
      have sz10 : w9.heap.size ≤ w10.heap.size := hb10.size
      have HW10 := below_go HW9 hb10
      have oW_10 := oW_9.up hb10
      have ox0_10 := ox0_9.up hb10
      have ox1_10 := ox1_9.up hb10
      have oG_10 := oG_9.up hb10
      have rot1 := ot1.range
      go_wp2_with fail
      refine (laws_eqStrikeS _ _ _ _ _ _ _ _ _ rfl rfl ox1_10.recs ot1.recs (by omega) (by omega)).mono ?_; rintro e w11 ⟨rfl, hb11⟩
      have sz11 : w10.heap.size ≤ w11.heap.size := hb11.size
      have HW11 := below_go HW10 hb11
      have oW_11 := oW_10.up hb11
      have ox0_11 := ox0_10.up hb11
      have ox1_11 := ox1_10.up hb11
      have oG_11 := oG_10.up hb11
      have ot1_11 := ot1.up hb11
      go_wp2_with fail
      have bm12 : w3.heap.size ≤ w11.heap.size := by omega
      refine (laws_markStrikeS _ _ _ _ _ _ _ ox0_11 bm12 (by omega) (by omega)).mono ?_; rintro e w12 ⟨rfl, ox0m, hg12, hb12⟩
      have sz12 : w11.heap.size ≤ w12.heap.size := hb12.size
      have HW12 := HW11.trans (hb12.mono (by omega))
      have oW_12 := oW_11.kept hg12 (roW.ne rox0 (by omega))
      have ox1_12 := ox1_11.kept hg12 (rox1.ne rox0 (by omega))
      have oG_12 := oG_11.kept hg12 (roG.ne rox0 (by omega))
      go_wp2_with fail
      have bm13 : w4.heap.size ≤ w12.heap.size := by omega
      refine (laws_markStrikeS _ _ _ _ _ _ _ ox1_12 bm13 (by omega) (by omega)).mono ?_; rintro e w13 ⟨rfl, ox1m, hg13, hb13⟩
      have sz13 : w12.heap.size ≤ w13.heap.size := hb13.size
      have HW13 := HW12.trans (hb13.mono (by omega))
      have oW_13 := oW_12.kept hg13 (roW.ne rox1 (by omega))
      have ox0_13 := ox0m.kept hg13 (rox0.ne rox1 (by omega))
      have oG_13 := oG_12.kept hg13 (roG.ne rox1 (by omega))
      go_wp2_with fail
      refine (laws_eqStrikeS _ _ _ _ _ _ _ _ _ rfl rfl oG_13.recs oW_13.recs (by omega) (by omega)).mono ?_; rintro e w14 ⟨rfl, hb14⟩
      have sz14 : w13.heap.size ≤ w14.heap.size := hb14.size
      have HW14 := below_go HW13 hb14
      have oW_14 := oW_13.up hb14
      have ox0_14 := ox0_13.up hb14
      have ox1_14 := ox1m.up hb14
      have oG_14 := oG_13.up hb14
      go_wp2_with fail
      have bm15 : w5.heap.size ≤ w14.heap.size := by omega
      refine (laws_markStrikeS _ _ _ _ _ _ _ oG_14 bm15 (by omega) (by omega)).mono ?_; rintro e w15 ⟨rfl, oGm, hg15, hb15⟩
      have sz15 : w14.heap.size ≤ w15.heap.size := hb15.size
      have HW15 := HW14.trans (hb15.mono (by omega))
      have oW_15 := oW_14.kept hg15 (roW.ne roG (by omega))
      have ox0_15 := ox0_14.kept hg15 (rox0.ne roG (by omega))
      have ox1_15 := ox1_14.kept hg15 (rox1.ne roG (by omega))
      go_wp2_with fail
      refine (laws_heldStrikeS _ _ _ _ _ oGm.recs (by omega) (by omega)).mono ?_; rintro e w' ⟨rfl, rfl⟩
      go_wp2_with fail
      refine (laws_toStrikeS _ _ _ _ _ rfl (h0.below HW15 (Nat.le_refl _)) (by omega)).mono ?_; rintro e w16 ⟨gy0, rfl, oy0, hb16⟩
      have sz16 : w15.heap.size ≤ w16.heap.size := hb16.size
      have HW16 := below_go HW15 hb16
      have oW_16 := oW_15.up hb16
      have ox0_16 := ox0_15.up hb16
      have ox1_16 := ox1_15.up hb16
      have oG_16 := oGm.up hb16
      have roy0 := oy0.range
      go_wp2_with fail
      refine (laws_toStrikeS _ _ _ _ _ rfl (h1.below HW16 (Nat.le_refl _)) (by omega)).mono ?_; rintro e w17 ⟨gy1, rfl, oy1, hb17⟩
      have sz17 : w16.heap.size ≤ w17.heap.size := hb17.size
      have HW17 := below_go HW16 hb17
      have oW_17 := oW_16.up hb17
      have ox0_17 := ox0_16.up hb17
      have ox1_17 := ox1_16.up hb17
      have oG_17 := oG_16.up hb17
      have oy0_17 := oy0.up hb17
      have roy1 := oy1.range
      go_wp2_with fail
      refine (impl_MergeStrikes rfl oy0_17.recs (by omega) rfl oy1.recs (by omega)).mono ?_; rintro e w18 ⟨AH, cH, rfl, oH, nH, hb18⟩
      have sz18 : w17.heap.size ≤ w18.heap.size := hb18.size
      have HW18 := below_go HW17 hb18
      have oW_18 := oW_17.up hb18
      have ox0_18 := ox0_17.up hb18
      have ox1_18 := ox1_17.up hb18
      have oG_18 := oG_17.up hb18
      have oy0_18 := oy0_17.up hb18
      have oy1_18 := oy1.up hb18
      have roH := oH.range
      go_wp2_with fail
      refine (laws_eqStrikeS _ _ _ _ _ _ _ _ _ rfl rfl oH.recs oW_18.recs (by omega) (by omega)).mono ?_; rintro e w19 ⟨rfl, hb19⟩
      have sz19 : w18.heap.size ≤ w19.heap.size := hb19.size
      have HW19 := below_go HW18 hb19
      have oW_19 := oW_18.up hb19
      have ox0_19 := ox0_18.up hb19
      have ox1_19 := ox1_18.up hb19
      have oG_19 := oG_18.up hb19
      have oy0_19 := oy0_18.up hb19
      have oy1_19 := oy1_18.up hb19
      have oH_19 := oH.up hb19
      go_wp2_with fail
      refine (laws_heldStrikeS _ _ _ _ _ oG_19.recs (by omega) (by omega)).mono ?_; rintro e w' ⟨rfl, rfl⟩
      go_wp2
      go_ret
      exact ⟨rfl, HW19⟩
    · go_in
      go_wp2_with fail
      refine (laws_szStrikeS_ok _ _ _ _ _ (by omega) (by omega)).mono ?_; rintro e w' ⟨rfl, rfl⟩
      go_wp2_with fail
      refine (laws_szStrikeS_no _ _ _ _ _ (by omega) (by omega) hm1).mono ?_; rintro e w' ⟨rfl, rfl⟩
      go_wp2
      go_ret
      exact ⟨rfl, by (repeat' (first | (with_reducible exact Below.refl _ _) | (with_reducible assumption) | (with_reducible refine below_drewN ?_ _) | (with_reducible refine Below.drew ?_) | (with_reducible refine below_alloc ?_ _) | (with_reducible refine Below.alloc ?_ ?_ _) | (with_reducible refine Below.setCell ?_ ?_ _) | (with_reducible refine below_go ?_ (by with_reducible assumption)) | (with_reducible refine below_then (by with_reducible assumption) ?_ ?_) | go_size))⟩
  · go_in
    go_wp2_with fail
    refine (laws_szStrikeS_no _ _ _ _ _ (by omega) (by omega) hm0).mono ?_; rintro e w' ⟨rfl, rfl⟩
    go_wp2
    go_ret
    exact ⟨rfl, by (repeat' (first | (with_reducible exact Below.refl _ _) | (with_reducible assumption) | (with_reducible refine below_drewN ?_ _) | (with_reducible refine Below.drew ?_) | (with_reducible refine below_alloc ?_ _) | (with_reducible refine Below.alloc ?_ ?_ _) | (with_reducible refine Below.setCell ?_ ?_ _) | (with_reducible refine below_go ?_ (by with_reducible assumption)) | (with_reducible refine below_then (by with_reducible assumption) ?_ ?_) | go_size))⟩
end Go.Proofs.Ythffeljicohpdaa
