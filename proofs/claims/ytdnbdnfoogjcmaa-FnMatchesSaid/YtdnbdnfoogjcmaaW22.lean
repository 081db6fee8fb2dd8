/- The walks through the checks of lists of times, both sides, and the law on them. -/
import Derived.Test.YtdnbdnfoogjcmaaW0
namespace Go.Proofs.Ytdnbdnfoogjcmaa
set_option linter.unusedVariables false
set_option linter.unusedSimpArgs false
open Go.ChangeShapes Go.WideShapes Go.ChangeAt Go.RowKit Go.Deep

set_option maxRecDepth 100000 in
theorem impl_GoodTimes {A : Option Addr} {n c : Nat} {l : List Int} {w : World} (hn : l.length = n) (h : Ints w A l) (hz : n ≤ 16777216) :
    Calls Try.prog 19 #[.slice A n c] w fun e w' => e = .returned (.bool (goodTimes l)) ∧ w = w' := by
  subst hn
  have HG : Hid (goodTimes l = ((List.range l.length).all (okTime l) && decide (l.length ≤ 60))) := rfl
  go_in
  go_wp2
  go_loop [7] (fun i => ∃ k : Nat, k ≤ l.length ∧ i = .int .i64 k ∧ Hid (∀ j, j < k → okTime l j = true)) (fun i => l.length - (intOf i).toNat)
  case atStart => exact ⟨0, Nat.zero_le _, rfl, Lib.hid (fun j hj => absurd hj (by omega))⟩
  case round =>
    obtain ⟨k, hk, rfl, HK⟩ := hrel
    by_cases hlt : k < l.length
    · obtain ⟨b1, o1, x, rfl, hbb, hx, hc⟩ := h.at_int hlt
      have HX := Lib.hid hx
      clear hx
      by_cases hk0 : 0 < k
      · obtain ⟨b2, o2, y, e, _, hy, hc2⟩ := h.at_int (k := k - 1) (by omega)
        injection e with e
        injection e with e1 e2
        subst e1 e2
        have HY := Lib.hid hy
        clear hy h
        have E : Hid _ := Lib.hid (okTime_pos hk0 HX.out HY.out)
        rcases hx : inB x 0 1000000
        · go_wp2_with (go_at_call 53; refine (impl_within _ _ _ _).mono ?_; rintro e w' ⟨rfl, rfl⟩)
          go_ret
          refine ⟨ret_bool ?_, rfl⟩
          rw [HG.out, all_bad hlt (by rw [E.out, hx]; rfl)]
        · by_cases hxy : x < y
          · go_wp2_with (go_at_call 53; refine (impl_within _ _ _ _).mono ?_; rintro e w' ⟨rfl, rfl⟩)
            go_ret
            refine ⟨ret_bool ?_, rfl⟩
            rw [HG.out, all_bad hlt (by rw [E.out, hx]; simp [hxy])]
          · go_wp2_with (go_at_call 53; refine (impl_within _ _ _ _).mono ?_; rintro e w' ⟨rfl, rfl⟩)
            go_round
            case rel => exact ⟨k + 1, by omega, by go_num, Lib.hid (upto_succ HK.out (by rw [E.out, hx]; simp; omega))⟩
            case measure => simp [intOf]; omega
      · have E : Hid _ := Lib.hid (okTime_zero hk0 HX.out)
        rcases hx : inB x 0 1000000
        · go_wp2_with (go_at_call 53; refine (impl_within _ _ _ _).mono ?_; rintro e w' ⟨rfl, rfl⟩)
          go_ret
          refine ⟨ret_bool ?_, rfl⟩
          rw [HG.out, all_bad hlt (by rw [E.out, hx])]
        · go_wp2_with (go_at_call 53; refine (impl_within _ _ _ _).mono ?_; rintro e w' ⟨rfl, rfl⟩)
          go_round
          case rel => exact ⟨k + 1, by omega, by go_num, Lib.hid (upto_succ HK.out (by rw [E.out, hx]))⟩
          case measure => simp [intOf]; omega
    · go_wp2
      go_ret
      refine ⟨ret_bool ?_, rfl⟩
      rw [HG.out, all_good (fun j hj => HK.out j (by omega))]
      exact decide_eq_decide.2 (by omega)

set_option maxRecDepth 100000 in
theorem spec_l22Times {A : Option Addr} {n c : Nat} {l : List Int} {w : World} (hn : l.length = n) (h : Ints w A l) (hz : n ≤ 16777216) :
    Calls Try.prog 54 #[.slice A n c] w fun e w' => e = .returned (.bool (goodTimes l)) ∧ w = w' := by
  subst hn
  have HG : Hid (goodTimes l = ((List.range l.length).all (okTime l) && decide (l.length ≤ 60))) := rfl
  go_in
  go_wp2
  go_loop [7] (fun i => ∃ k : Nat, k ≤ l.length ∧ i = .int .i64 k ∧ Hid (∀ j, j < k → okTime l j = true)) (fun i => l.length - (intOf i).toNat)
  case atStart => exact ⟨0, Nat.zero_le _, rfl, Lib.hid (fun j hj => absurd hj (by omega))⟩
  case round =>
    obtain ⟨k, hk, rfl, HK⟩ := hrel
    by_cases hlt : k < l.length
    · obtain ⟨b1, o1, x, rfl, hbb, hx, hc⟩ := h.at_int hlt
      have HX := Lib.hid hx
      clear hx
      by_cases hk0 : 0 < k
      · obtain ⟨b2, o2, y, e, _, hy, hc2⟩ := h.at_int (k := k - 1) (by omega)
        injection e with e
        injection e with e1 e2
        subst e1 e2
        have HY := Lib.hid hy
        clear hy h
        have E : Hid _ := Lib.hid (okTime_pos hk0 HX.out HY.out)
        rcases hx : inB x 0 1000000
        · go_wp2_with (go_at_call 57; refine (spec_l1In _ _ _ _).mono ?_; rintro e w' ⟨rfl, rfl⟩)
          go_ret
          refine ⟨ret_bool ?_, rfl⟩
          rw [HG.out, all_bad hlt (by rw [E.out, hx]; rfl)]
        · by_cases hxy : x < y
          · go_wp2_with (go_at_call 57; refine (spec_l1In _ _ _ _).mono ?_; rintro e w' ⟨rfl, rfl⟩)
            go_ret
            refine ⟨ret_bool ?_, rfl⟩
            rw [HG.out, all_bad hlt (by rw [E.out, hx]; simp [hxy])]
          · go_wp2_with (go_at_call 57; refine (spec_l1In _ _ _ _).mono ?_; rintro e w' ⟨rfl, rfl⟩)
            go_round
            case rel => exact ⟨k + 1, by omega, by go_num, Lib.hid (upto_succ HK.out (by rw [E.out, hx]; simp; omega))⟩
            case measure => simp [intOf]; omega
      · have E : Hid _ := Lib.hid (okTime_zero hk0 HX.out)
        rcases hx : inB x 0 1000000
        · go_wp2_with (go_at_call 57; refine (spec_l1In _ _ _ _).mono ?_; rintro e w' ⟨rfl, rfl⟩)
          go_ret
          refine ⟨ret_bool ?_, rfl⟩
          rw [HG.out, all_bad hlt (by rw [E.out, hx])]
        · go_wp2_with (go_at_call 57; refine (spec_l1In _ _ _ _).mono ?_; rintro e w' ⟨rfl, rfl⟩)
          go_round
          case rel => exact ⟨k + 1, by omega, by go_num, Lib.hid (upto_succ HK.out (by rw [E.out, hx]))⟩
          case measure => simp [intOf]; omega
    · go_wp2
      go_ret
      refine ⟨ret_bool ?_, rfl⟩
      rw [HG.out, all_good (fun j hj => HK.out j (by omega))]
      exact decide_eq_decide.2 (by omega)

theorem spec_GoodTimes {A : Option Addr} {n c : Nat} {l : List Int} {w : World} (hn : l.length = n) (h : Ints w A l) (hz : n ≤ 16777216) :
    Calls Try.prog 20 #[.slice A n c] w fun e w' => e = .returned (.bool (goodTimes l)) ∧ w = w' := by
  subst hn
  go_in
  go_wp2_with (go_at_call 54; refine (spec_l22Times rfl h hz).mono ?_; rintro e w' ⟨rfl, rfl⟩)
  go_ret
  exact ⟨rfl, rfl⟩

end Go.Proofs.Ytdnbdnfoogjcmaa
