/- The walks through the checks of lists of times, both sides, and the law on them. -/
import Derived.Test.YtegbannlhcgfaaaW0
namespace Go.Proofs.Ytegbannlhcgfaaa
open Go.ChangeShapes Go.WideShapes Go.ChangeAt Go.RowKit Go.Deep

set_option maxRecDepth 100000 in
theorem impl_GoodTimes (A : Option Addr) (c : Nat) (l : List Int) (w : World) (h : Ints w A l) (hz : l.length ≤ 1048576) :
    Calls Try.prog 16 #[.slice A l.length c] w fun e w' => e = .returned (.bool (goodTimes l)) ∧ w = w' := by
  have HG : Hid (goodTimes l = ((List.range l.length).all (okTime l) && decide (l.length ≤ 60))) := rfl
  go_in
  go_wp2
  go_loop [7] (fun i => ∃ k : Nat, k ≤ l.length ∧ i = .int .i64 k ∧ Hid (∀ j, j < k → okTime l j = true)) (fun i => l.length - (intOf i).toNat)
  case atStart => exact ⟨0, Nat.zero_le _, rfl, Lib.hid (fun j hj => absurd hj (by omega))⟩
  case round =>
    obtain ⟨k, hk, rfl, HK⟩ := hrel
    by_cases hlt : k < l.length
    · obtain ⟨b1, o1, x, rfl, hbb, hx, hc⟩ := h.at_int hlt
      have HX := Lib.hid hx
      clear hx
      by_cases hk0 : 0 < k
      · obtain ⟨b2, o2, y, e, _, hy, hc2⟩ := h.at_int (k := k - 1) (by omega)
        injection e with e
        injection e with e1 e2
        subst e1 e2
        have HY := Lib.hid hy
        clear hy h
        have E : Hid _ := Lib.hid (okTime_pos hk0 HX.out HY.out)
        rcases hx : inB x 0 1000000
        · go_wp2_with (go_at_call 31; refine (impl_within _ _ _ _).mono ?_; rintro e w' ⟨rfl, rfl⟩)
          go_ret
          refine ⟨ret_bool ?_, rfl⟩
          rw [HG.out, all_bad hlt (by rw [E.out, hx]; rfl)]
        · by_cases hxy : x < y
          · go_wp2_with (go_at_call 31; refine (impl_within _ _ _ _).mono ?_; rintro e w' ⟨rfl, rfl⟩)
            go_ret
            refine ⟨ret_bool ?_, rfl⟩
            rw [HG.out, all_bad hlt (by rw [E.out, hx]; simp [hxy])]
          · go_wp2_with (go_at_call 31; refine (impl_within _ _ _ _).mono ?_; rintro e w' ⟨rfl, rfl⟩)
            go_round
            case rel => exact ⟨k + 1, by omega, by go_num, Lib.hid (upto_succ HK.out (by rw [E.out, hx]; simp; omega))⟩
            case measure => simp [intOf]; omega
      · have E : Hid _ := Lib.hid (okTime_zero hk0 HX.out)
        rcases hx : inB x 0 1000000
        · go_wp2_with (go_at_call 31; refine (impl_within _ _ _ _).mono ?_; rintro e w' ⟨rfl, rfl⟩)
          go_ret
          refine ⟨ret_bool ?_, rfl⟩
          rw [HG.out, all_bad hlt (by rw [E.out, hx])]
        · go_wp2_with (go_at_call 31; refine (impl_within _ _ _ _).mono ?_; rintro e w' ⟨rfl, rfl⟩)
          go_round
          case rel => exact ⟨k + 1, by omega, by go_num, Lib.hid (upto_succ HK.out (by rw [E.out, hx]))⟩
          case measure => simp [intOf]; omega
    · go_wp2
      go_ret
      refine ⟨ret_bool ?_, rfl⟩
      rw [HG.out, all_good (fun j hj => HK.out j (by omega))]
      exact decide_eq_decide.2 (by omega)

set_option maxRecDepth 100000 in
theorem spec_l22Times (A : Option Addr) (c : Nat) (l : List Int) (w : World) (h : Ints w A l) (hz : l.length ≤ 1048576) :
    Calls Try.prog 36 #[.slice A l.length c] w fun e w' => e = .returned (.bool (goodTimes l)) ∧ w = w' := by
  have HG : Hid (goodTimes l = ((List.range l.length).all (okTime l) && decide (l.length ≤ 60))) := rfl
  go_in
  go_wp2
  go_loop [7] (fun i => ∃ k : Nat, k ≤ l.length ∧ i = .int .i64 k ∧ Hid (∀ j, j < k → okTime l j = true)) (fun i => l.length - (intOf i).toNat)
  case atStart => exact ⟨0, Nat.zero_le _, rfl, Lib.hid (fun j hj => absurd hj (by omega))⟩
  case round =>
    obtain ⟨k, hk, rfl, HK⟩ := hrel
    by_cases hlt : k < l.length
    · obtain ⟨b1, o1, x, rfl, hbb, hx, hc⟩ := h.at_int hlt
      have HX := Lib.hid hx
      clear hx
      by_cases hk0 : 0 < k
      · obtain ⟨b2, o2, y, e, _, hy, hc2⟩ := h.at_int (k := k - 1) (by omega)
        injection e with e
        injection e with e1 e2
        subst e1 e2
        have HY := Lib.hid hy
        clear hy h
        have E : Hid _ := Lib.hid (okTime_pos hk0 HX.out HY.out)
        rcases hx : inB x 0 1000000
        · go_wp2_with (go_at_call 32; refine (spec_l1In _ _ _ _).mono ?_; rintro e w' ⟨rfl, rfl⟩)
          go_ret
          refine ⟨ret_bool ?_, rfl⟩
          rw [HG.out, all_bad hlt (by rw [E.out, hx]; rfl)]
        · by_cases hxy : x < y
          · go_wp2_with (go_at_call 32; refine (spec_l1In _ _ _ _).mono ?_; rintro e w' ⟨rfl, rfl⟩)
            go_ret
            refine ⟨ret_bool ?_, rfl⟩
            rw [HG.out, all_bad hlt (by rw [E.out, hx]; simp [hxy])]
          · go_wp2_with (go_at_call 32; refine (spec_l1In _ _ _ _).mono ?_; rintro e w' ⟨rfl, rfl⟩)
            go_round
            case rel => exact ⟨k + 1, by omega, by go_num, Lib.hid (upto_succ HK.out (by rw [E.out, hx]; simp; omega))⟩
            case measure => simp [intOf]; omega
      · have E : Hid _ := Lib.hid (okTime_zero hk0 HX.out)
        rcases hx : inB x 0 1000000
        · go_wp2_with (go_at_call 32; refine (spec_l1In _ _ _ _).mono ?_; rintro e w' ⟨rfl, rfl⟩)
          go_ret
          refine ⟨ret_bool ?_, rfl⟩
          rw [HG.out, all_bad hlt (by rw [E.out, hx])]
        · go_wp2_with (go_at_call 32; refine (spec_l1In _ _ _ _).mono ?_; rintro e w' ⟨rfl, rfl⟩)
          go_round
          case rel => exact ⟨k + 1, by omega, by go_num, Lib.hid (upto_succ HK.out (by rw [E.out, hx]))⟩
          case measure => simp [intOf]; omega
    · go_wp2
      go_ret
      refine ⟨ret_bool ?_, rfl⟩
      rw [HG.out, all_good (fun j hj => HK.out j (by omega))]
      exact decide_eq_decide.2 (by omega)

theorem spec_GoodTimes (A : Option Addr) (c : Nat) (l : List Int) (w : World) (h : Ints w A l) (hz : l.length ≤ 1048576) :
    Calls Try.prog 14 #[.slice A l.length c] w fun e w' => e = .returned (.bool (goodTimes l)) ∧ w = w' := by
  go_in
  go_wp2_with (go_at_call 36; refine (spec_l22Times _ _ _ _ h hz).mono ?_; rintro e w' ⟨rfl, rfl⟩)
  go_ret
  exact ⟨rfl, rfl⟩

theorem law_GoodTimes (A : Option Addr) (c : Nat) (l : List Int) (w : World) (h : Ints w A l) (_hm : l.length ≤ 9223372036854775807) (_hb : ∀ x ∈ l, -9223372036854775808 ≤ x ∧ x ≤ 9223372036854775807) :
    Calls Try.prog 5 #[.slice A l.length c] w fun e w' => e = .returned (.bool true) ∧ Below w.heap.size w w' := by
  by_cases hz : l.length ≤ 1048576
  · go_in
    go_wp2_with fail
    refine (laws_toIntS _ _ _ _ h hz).mono ?_; rintro e w1 ⟨g1, rfl, h1, hb1⟩
    go_wp2_with fail
    refine (spec_GoodTimes _ _ _ _ h1 hz).mono ?_; rintro e w' ⟨rfl, rfl⟩
    go_wp2_with fail
    refine (laws_toIntS _ _ _ _ (h.up hb1) hz).mono ?_; rintro e w2 ⟨g2, rfl, h2, hb2⟩
    go_wp2_with fail
    refine (impl_GoodTimes _ _ _ _ h2 hz).mono ?_; rintro e w' ⟨rfl, rfl⟩
    go_wp2_with fail
    refine (laws_toIntS _ _ _ _ ((h.up hb1).up hb2) hz).mono ?_; rintro e w3 ⟨g3, rfl, h3, hb3⟩
    go_wp2_with fail
    refine (laws_eqIntS _ _ _ _ _ _ _ (h2.up hb3) h3 hz).mono ?_; rintro e w4 ⟨rfl, hb4⟩
    go_wp2
    go_ret
    exact ⟨rfl, by (repeat' (first | (with_reducible exact Below.refl _ _) | (with_reducible assumption) | (with_reducible refine below_drewN ?_ _) | (with_reducible refine Below.drew ?_) | (with_reducible refine below_alloc ?_ _) | (with_reducible refine Below.alloc ?_ ?_ _) | (with_reducible refine Below.setCell ?_ ?_ _) | (with_reducible refine below_go ?_ (by with_reducible assumption)) | (with_reducible refine below_then (by with_reducible assumption) ?_ ?_) | go_size))⟩
  · go_in
    go_wp2
    go_ret
    exact ⟨rfl, by (repeat' (first | (with_reducible exact Below.refl _ _) | (with_reducible assumption) | (with_reducible refine below_drewN ?_ _) | (with_reducible refine Below.drew ?_) | (with_reducible refine below_alloc ?_ _) | (with_reducible refine Below.alloc ?_ ?_ _) | (with_reducible refine Below.setCell ?_ ?_ _) | (with_reducible refine below_go ?_ (by with_reducible assumption)) | (with_reducible refine below_then (by with_reducible assumption) ?_ ?_) | go_size))⟩
end Go.Proofs.Ytegbannlhcgfaaa
