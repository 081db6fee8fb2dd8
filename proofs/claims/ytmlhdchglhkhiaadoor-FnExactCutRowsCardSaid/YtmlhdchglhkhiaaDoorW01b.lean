/- GoodRow of the program: the bits. -/
import Derived.Test.YtmlhdchglhkhiaaDoorW01
namespace Go.Proofs.YtmlhdchglhkhiaaDoor
set_option linter.unusedVariables false
set_option linter.unusedSimpArgs false
open Go.ChangeShapes Go.WideShapes Go.ChangeAt Go.RowKit Go.Deep
set_option maxRecDepth 100000 in
theorem impl_GoodRow {s : ByteArray} {w : World} (hz : s.size ≤ 16777216) :
    Calls Tryd.prog 42 #[.string s] w fun e w' => e = .returned (.bool (goodRow s)) ∧ w = w' := by
  have hb := PlainAid.get_bt s
  rcases h1 : inB s.size 3 8
  · have e0 := Lib.hid (goodRow_stage h1)
    go_in
    go_wp2_with (first | (go_at_call 40; refine (impl_isStage _ _).mono ?_; rintro e w' ⟨rfl, rfl⟩))
    go_ret
    exact ⟨ret_bool e0.out.symm, rfl⟩
  have hs8 := inB_t h1
  have HG := Lib.hid (goodRow_all h1)
  have HO : Hid (∀ i, okDig s i = (inB (dg s i) 1 s.size && (List.range i).all (fresh s i))) := Lib.hid (fun _ => rfl)
  go_in
  go_wp2_with (first | (go_at_call 40; refine (impl_isStage _ _).mono ?_; rintro e w' ⟨rfl, rfl⟩))
  go_loopw [3, 12] (fun v i wr => ∃ k : Nat, k ≤ s.size ∧ i = .int .i64 k ∧ v = .int .i64 (mask s k) ∧ mask s k < 256 ∧ Hid (∀ j, j < k → okDig s j = true) ∧ w = wr) (fun _ i _ => s.size - (intOf i).toNat)
  case atStart => exact ⟨0, Nat.zero_le _, rfl, rfl, by rw [mask_0]; decide, Lib.hid (fun j hj => absurd hj (by omega)), rfl⟩
  case round =>
    obtain ⟨i, hi, rfl, rfl, hm, HK, rfl⟩ := hrel
    by_cases hlt : i < s.size
    · have hn0 := PlainAid.bt_nonneg s i
      have hn1 := PlainAid.bt_le s i
      have hw := wrap_bt s i
      have hdg : dg s i = PlainAid.bt s i - 48 := rfl
      have EO := Lib.hid (HO.out i)
      by_cases hlo : PlainAid.bt s i < 49
      · have e0 := Lib.hid (show okDig s i = false by rw [EO.out, show inB (dg s i) 1 s.size = false by rw [inB, decide_eq_false_iff_not]; omega]; rfl)
        go_wp2
        go_ret
        refine ⟨ret_bool ?_, rfl⟩
        rw [HG.out, all_no hlt e0.out]
      by_cases hhi : (s.size : Int) ≤ PlainAid.bt s i - 49
      · have e0 := Lib.hid (show okDig s i = false by rw [EO.out, show inB (dg s i) 1 s.size = false by rw [inB, decide_eq_false_iff_not]; omega]; rfl)
        go_wp2
        go_ret
        refine ⟨ret_bool ?_, rfl⟩
        rw [HG.out, all_no hlt e0.out]
      have hB8 : (PlainAid.bt s i - 49).toNat < 8 := by omega
      have hBd : (PlainAid.bt s i - 49).toNat = (dg s i - 1).toNat := by omega
      have hA := bits_and _ hm _ hB8
      have hOr := (bits_or _ hm _ hB8).1
      have hOr8 := (bits_or _ hm _ hB8).2
      have hmk : (mask s i ||| (1 <<< (PlainAid.bt s i - 49).toNat)) = mask s (i + 1) := by rw [hBd]; rfl
      rw [hmk] at hOr hOr8
      have e1 := Lib.hid (show okDig s i = !(mask s i).testBit (PlainAid.bt s i - 49).toNat by
        rw [EO.out, show inB (dg s i) 1 s.size = true by (rw [inB, decide_eq_true_iff]; omega), hBd, mask_bit i (fun j hj => by
          have := HK.out j hj
          rw [HO.out, Bool.and_eq_true] at this
          exact (inB_t this.1).1) (by omega), Bool.not_not]
        rfl)
      clear hmk hBd hdg
      rcases hbit : (mask s i).testBit (PlainAid.bt s i - 49).toNat
      · rw [hbit] at hA
        have e2 := Lib.hid (show okDig s i = true by rw [e1.out, hbit]; rfl)
        clear hbit
        go_wp2
        go_roundw
        case rel => exact ⟨i + 1, by omega, by go_num, rfl, hOr8, Lib.hid (upto_succ HK.out e2.out), trivial⟩
        case measure => simp [intOf]; omega
      · rw [hbit] at hA
        have e2 := Lib.hid (show okDig s i = false by rw [e1.out, hbit]; rfl)
        clear hbit
        go_wp2
        go_ret
        refine ⟨ret_bool ?_, rfl⟩
        rw [HG.out, all_no hlt e2.out]
    · obtain rfl : i = s.size := by omega
      go_wp2
      go_ret
      refine ⟨ret_bool ?_, rfl⟩
      rw [HG.out, all_yes (fun j hj => HK.out j hj)]
end Go.Proofs.YtmlhdchglhkhiaaDoor
