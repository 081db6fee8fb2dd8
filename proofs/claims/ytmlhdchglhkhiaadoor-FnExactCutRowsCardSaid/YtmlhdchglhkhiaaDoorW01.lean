/- The walks through rows: good rows, even rows. -/
import Derived.Test.YtmlhdchglhkhiaaDoorW0
import Derived.Test.YtmlhdchglhkhiaaDoorMore
import Derived.Test.YtmlhdchglhkhiaaDoorP01
namespace Go.Proofs.YtmlhdchglhkhiaaDoor
set_option linter.unusedVariables false
set_option linter.unusedSimpArgs false
open Go.ChangeShapes Go.WideShapes Go.ChangeAt Go.RowKit Go.Deep
set_option maxRecDepth 100000 in
theorem spec_l1Row {s : ByteArray} {w : World} (hz : s.size ≤ 16777216) :
    Calls Tryd.prog 39 #[.string s] w fun e w' => e = .returned (.bool (goodRow s)) ∧ Below w.heap.size w w' := by
  have hb := PlainAid.get_bt s
  rcases h1 : inB s.size 3 8
  · have e0 := Lib.hid (goodRow_stage h1)
    go_in
    go_wp2_with (first | (go_at_call 37; refine (spec_l1In _ _ _ _).mono ?_; rintro e w' ⟨rfl, rfl⟩))
    go_ret
    exact ⟨ret_bool e0.out.symm, Below.refl _ _⟩
  have hs8 := inB_t h1
  have HG := Lib.hid (goodRow_all h1)
  have HO : Hid (∀ i, okDig s i = (inB (dg s i) 1 s.size && (List.range i).all (fresh s i))) := Lib.hid (fun _ => rfl)
  go_in
  go_wp2_with (first | (go_at_call 37; refine (spec_l1In _ _ _ _).mono ?_; rintro e w' ⟨rfl, rfl⟩))
  go_loopw [3] (fun i wr => ∃ k : Nat, k ≤ s.size ∧ i = .int .i64 k ∧ Hid (∀ j, j < k → okDig s j = true) ∧ Below w.heap.size w wr) (fun i _ => s.size - (intOf i).toNat)
  case atStart => exact ⟨0, Nat.zero_le _, rfl, Lib.hid (fun j hj => absurd hj (by omega)), Below.refl _ _⟩
  case round =>
    obtain ⟨i, hi, rfl, HK, hbl⟩ := hrel
    by_cases hlt : i < s.size
    · have hn0 := PlainAid.bt_nonneg s i
      have hn1 := PlainAid.bt_le s i
      have hdg : PlainAid.bt s i - 48 = dg s i := rfl
      have EO := Lib.hid (HO.out i)
      by_cases hlo : PlainAid.bt s i < 49
      · have e0 := Lib.hid (show okDig s i = false by rw [EO.out, show inB (dg s i) 1 s.size = false by rw [inB, decide_eq_false_iff_not, ← hdg]; omega]; rfl)
        go_wp2
        go_ret
        refine ⟨ret_bool ?_, hbl⟩
        rw [HG.out, all_no hlt e0.out]
      by_cases hhi : (s.size : Int) < dg s i
      · have e0 := Lib.hid (show okDig s i = false by rw [EO.out, show inB (dg s i) 1 s.size = false by rw [inB, decide_eq_false_iff_not]; omega]; rfl)
        go_wp2
        go_ret
        refine ⟨ret_bool ?_, hbl⟩
        rw [HG.out, all_no hlt e0.out]
      have e1 := Lib.hid (show okDig s i = (List.range i).all (fresh s i) by rw [EO.out, show inB (dg s i) 1 s.size = true by rw [inB, decide_eq_true_iff, ← hdg]; omega]; rfl)
      have HF : Hid (∀ k, fresh s i k = !(PlainAid.bt s k == PlainAid.bt s i)) := Lib.hid (fun k => by
        rw [fresh, Bool.eq_iff_iff]
        simp [dg])
      go_wp2
      go_loopw [4] (fun x wr => ∃ k : Nat, k ≤ i ∧ x = .int .i64 k ∧ Hid (∀ j, j < k → fresh s i j = true) ∧ Below w.heap.size w wr) (fun x _ => i - (intOf x).toNat)
      case atStart => exact ⟨0, Nat.zero_le _, rfl, Lib.hid (fun j hj => absurd hj (by omega)), hbl⟩
      case round =>
        obtain ⟨k, hk, rfl, HJ, hb2⟩ := hrel
        by_cases hlt2 : k < i
        · have hks : k < s.size := by omega
          have EF := Lib.hid (HF.out k)
          rcases hc : (PlainAid.bt s k == PlainAid.bt s i)
          · have e2 := Lib.hid (show fresh s i k = true by rw [EF.out, hc]; rfl)
            go_wp2
            go_quiet (fail)
            go_wp2
            go_roundw
            case rel => exact ⟨k + 1, by omega, by go_num, Lib.hid (upto_succ HJ.out e2.out), by (repeat' (first | (with_reducible exact Below.refl _ _) | (with_reducible assumption) | (with_reducible refine below_drewN ?_ _) | (with_reducible refine Below.drew ?_) | (with_reducible refine below_alloc ?_ _) | (with_reducible refine Below.alloc ?_ ?_ _) | (with_reducible refine Below.setCell ?_ ?_ _) | (with_reducible refine below_go ?_ (by with_reducible assumption)) | (with_reducible refine below_then (by with_reducible assumption) ?_ ?_) | go_size))⟩
            case measure => simp [intOf]; omega
          · have e2 := Lib.hid (show fresh s i k = false by rw [EF.out, hc]; rfl)
            go_wp2
            go_quiet (fail)
            go_wp2
            go_ret
            refine ⟨ret_bool ?_, by (repeat' (first | (with_reducible exact Below.refl _ _) | (with_reducible assumption) | (with_reducible refine below_drewN ?_ _) | (with_reducible refine Below.drew ?_) | (with_reducible refine below_alloc ?_ _) | (with_reducible refine Below.alloc ?_ ?_ _) | (with_reducible refine Below.setCell ?_ ?_ _) | (with_reducible refine below_go ?_ (by with_reducible assumption)) | (with_reducible refine below_then (by with_reducible assumption) ?_ ?_) | go_size))⟩
            rw [HG.out, all_no hlt (by rw [e1.out, all_no hlt2 e2.out])]
        · obtain rfl : k = i := by omega
          have e3 := Lib.hid (show okDig s k = true by rw [e1.out, all_yes (fun j hj => HJ.out j hj)])
          go_wp2
          go_roundw
          case rel => exact ⟨k + 1, by omega, by go_num, Lib.hid (upto_succ HK.out e3.out), hb2⟩
          case measure => simp [intOf]; omega
    · obtain rfl : i = s.size := by omega
      go_wp2
      go_ret
      refine ⟨ret_bool ?_, hbl⟩
      rw [HG.out, all_yes (fun j hj => HK.out j hj)]
end Go.Proofs.YtmlhdchglhkhiaaDoor
