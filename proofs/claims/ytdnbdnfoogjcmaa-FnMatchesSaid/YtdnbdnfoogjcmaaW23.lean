/- The walks through the weighted distance, both sides, and the law on it. -/
import Derived.Test.YtdnbdnfoogjcmaaW0
import Derived.Test.YtdnbdnfoogjcmaaP23
namespace Go.Proofs.Ytdnbdnfoogjcmaa
set_option linter.unusedVariables false
set_option linter.unusedSimpArgs false
open Go.ChangeShapes Go.WideShapes Go.ChangeAt Go.RowKit Go.Deep

theorem impl_abs (x : Int) (w : World) (h : -9223372036854775807 ≤ x ∧ x ≤ 9223372036854775807) :
    Calls Try.prog 46 #[.int .i64 x] w fun e w' => e = .returned (.int .i64 (absZ x)) ∧ w = w' := by
  by_cases hx : x < 0
  · have E := Lib.hid (absZ_neg hx)
    go_in
    go_wp2
    go_ret
    exact ⟨by rw [E.out]; rfl, rfl⟩
  · have E := Lib.hid (absZ_pos (x := x) (by omega))
    go_in
    go_wp2
    go_ret
    exact ⟨by rw [E.out]; rfl, rfl⟩
theorem spec_l1Most (x y : Int) (w : World) :
    Calls Try.prog 76 #[.int .i64 x, .int .i64 y] w fun e w' => e = .returned (.int .i64 (max x y)) ∧ w = w' := by
  go_in
  go_wp2
  all_goals go_ret
  all_goals exact ⟨ret_int (by omega), rfl⟩
theorem spec_l22Far (x y : Int) (w : World) (h : -9223372036854775807 ≤ x - y ∧ x - y ≤ 9223372036854775807) :
    Calls Try.prog 70 #[.int .i64 x, .int .i64 y] w fun e w' => e = .returned (.int .i64 (absZ (x - y))) ∧ w = w' := by
  have E : Hid (max (x - y) (y - x) = absZ (x - y)) := by
    have hb := absZ_bd (x - y)
    show _ = _
    omega
  go_in
  go_wp2_with (go_at_call 76; refine (spec_l1Most _ _ _).mono ?_; rintro e w' ⟨rfl, rfl⟩)
  go_ret
  exact ⟨by rw [← E.out]; rfl, rfl⟩
set_option maxRecDepth 100000 in
theorem spec_l1All (A : Option Addr) (c : Nat) (l : List Int) (a b : Int) (w : World) (h : Ints w A l) (hz : l.length ≤ 9223372036854775807) :
    Calls Try.prog 73 #[.slice A l.length c, .int .i64 a, .int .i64 b] w fun e w' => e = .returned (.bool (allIn l a b)) ∧ w = w' := by
  go_in
  go_wp2
  go_loop [11] (fun i => ∃ k : Nat, k ≤ l.length ∧ i = .int .i64 k ∧ Hid (∀ j, j < k → ∃ x, l[j]? = some x ∧ inB x a b = true)) (fun i => l.length - (intOf i).toNat)
  case atStart => exact ⟨0, Nat.zero_le _, rfl, Lib.hid (fun j hj => absurd hj (by omega))⟩
  case round =>
    obtain ⟨k, hk, rfl, HK⟩ := hrel
    by_cases hlt : k < l.length
    · obtain ⟨b1, o1, x, rfl, hbb, hx, hc⟩ := h.at_int hlt
      have HX := Lib.hid hx
      clear hx h
      rcases hx : inB x a b
      · go_wp2_with (go_at_call 57; refine (spec_l1In _ _ _ _).mono ?_; rintro e w' ⟨rfl, rfl⟩)
        go_ret
        exact ⟨ret_bool (allIn_bad HX.out hx).symm, rfl⟩
      · go_wp2_with (go_at_call 57; refine (spec_l1In _ _ _ _).mono ?_; rintro e w' ⟨rfl, rfl⟩)
        go_round
        case rel => exact ⟨k + 1, by omega, by go_num, Lib.hid (upto_succ HK.out ⟨x, HX.out, hx⟩)⟩
        case measure => simp [intOf]; omega
    · go_wp2
      go_ret
      exact ⟨ret_bool (allIn_good (fun j hj => HK.out j (by omega))).symm, rfl⟩
end Go.Proofs.Ytdnbdnfoogjcmaa
