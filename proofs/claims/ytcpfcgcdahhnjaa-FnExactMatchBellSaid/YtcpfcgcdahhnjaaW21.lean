/- The walks through beats and lists of strikes, both sides, and the laws' own conversions of them. -/
import Derived.Test.YtcpfcgcdahhnjaaW0
import Derived.StillTailTactics
namespace Go.Proofs.Ytcpfcgcdahhnjaa
set_option linter.unusedVariables false
set_option linter.unusedSimpArgs false
open Go.ChangeShapes Go.WideShapes Go.ChangeAt Go.RowKit Go.Deep

/-! ### beats -/
theorem laws_toBeat (x y z : Int) (w : World) :
    Calls Try.prog 18 #[.agg #[.int .i64 x, .int .i64 y, .int .i64 z]] w fun e w' => e = .returned (.agg #[.int .i64 x, .int .i64 y, .int .i64 z]) ∧ Below w.heap.size w w' := by
  go_in
  go_wp2
  go_returns
  exact ⟨rfl, by (repeat' (first | (with_reducible exact Below.refl _ _) | (with_reducible assumption) | (with_reducible refine below_drewN ?_ _) | (with_reducible refine Below.drew ?_) | (with_reducible refine below_alloc ?_ _) | (with_reducible refine Below.alloc ?_ ?_ _) | (with_reducible refine Below.setCell ?_ ?_ _) | (with_reducible refine below_go ?_ (by with_reducible assumption)) | (with_reducible refine below_then (by with_reducible assumption) ?_ ?_) | go_size))⟩
theorem impl_GoodBeat (x y z : Int) (w : World) :
    Calls Try.prog 75 #[.agg #[.int .i64 x, .int .i64 y, .int .i64 z]] w fun e w' => e = .returned (.bool (goodBeatB x y z)) ∧ Below w.heap.size w w' := by
  have E : Hid (goodBeatB x y z = (inB x 0 1000000 && inB y 1 2000 && inB z 0 2000)) := rfl
  go_in
  go_wp2_with (go_at_call 79; refine (impl_within _ _ _ _).mono ?_; rintro e w' ⟨rfl, rfl⟩)
  all_goals go_ret
  all_goals refine ⟨ret_bool ?_, by (repeat' (first | (with_reducible exact Below.refl _ _) | (with_reducible assumption) | (with_reducible refine below_drewN ?_ _) | (with_reducible refine Below.drew ?_) | (with_reducible refine below_alloc ?_ _) | (with_reducible refine Below.alloc ?_ ?_ _) | (with_reducible refine Below.setCell ?_ ?_ _) | (with_reducible refine below_go ?_ (by with_reducible assumption)) | (with_reducible refine below_then (by with_reducible assumption) ?_ ?_) | go_size))⟩
  all_goals (rw [E.out]; simp [*])
theorem spec_l21Beat (x y z : Int) (w : World) :
    Calls Try.prog 72 #[.agg #[.int .i64 x, .int .i64 y, .int .i64 z]] w fun e w' => e = .returned (.bool (goodBeatB x y z)) ∧ Below w.heap.size w w' := by
  have E : Hid (goodBeatB x y z = (inB x 0 1000000 && inB y 1 2000 && inB z 0 2000)) := rfl
  go_in
  go_wp2_with (go_at_call 107; refine (spec_l1In _ _ _ _).mono ?_; rintro e w' ⟨rfl, rfl⟩)
  all_goals go_ret
  all_goals refine ⟨ret_bool ?_, by (repeat' (first | (with_reducible exact Below.refl _ _) | (with_reducible assumption) | (with_reducible refine below_drewN ?_ _) | (with_reducible refine Below.drew ?_) | (with_reducible refine below_alloc ?_ _) | (with_reducible refine Below.alloc ?_ ?_ _) | (with_reducible refine Below.setCell ?_ ?_ _) | (with_reducible refine below_go ?_ (by with_reducible assumption)) | (with_reducible refine below_then (by with_reducible assumption) ?_ ?_) | go_size))⟩
  all_goals (rw [E.out]; simp [*])

/-! ### the time of a blow -/
theorem impl_blowAt (x y z n r p : Int) (w : World) (hx : 0 ≤ x ∧ x ≤ 1000000) (hy : 1 ≤ y ∧ y ≤ 2000) (hz : 0 ≤ z ∧ z ≤ 2000) (hn : 1 ≤ n ∧ n ≤ 8) (hr : 0 ≤ r ∧ r ≤ 2000) (hp : 1 ≤ p ∧ p ≤ 8) :
    Calls Try.prog 76 #[.agg #[.int .i64 x, .int .i64 y, .int .i64 z], .int .i64 n, .int .i64 r, .int .i64 p] w fun e w' => e = .returned (.int .i64 (blowAtZ x y z n r p)) ∧ Below w.heap.size w w' := by
  obtain ⟨nr, hnr⟩ : ∃ t, t = n * r := ⟨_, rfl⟩
  have hnr0 : 0 ≤ nr := by rw [hnr]; exact Int.mul_nonneg (by omega) hr.1
  have hnr1 : nr ≤ 16000 := by rw [hnr]; exact Int.le_trans (Int.mul_le_mul hn.2 hr.2 hr.1 (by omega)) (by decide)
  obtain ⟨q, hq⟩ : ∃ t, t = y * (nr + p - 1) := ⟨_, rfl⟩
  have hq0 : 0 ≤ q := by rw [hq]; exact Int.mul_nonneg (by omega) (by omega)
  have hq1 : q ≤ 40000000 := by rw [hq]; exact Int.le_trans (Int.mul_le_mul hy.2 (show nr + p - 1 ≤ 20000 by omega) (by omega) (by omega)) (by decide)
  obtain ⟨s, hs⟩ : ∃ t, t = z * (r / 2) := ⟨_, rfl⟩
  have hs0 : 0 ≤ s := by rw [hs]; exact Int.mul_nonneg (by omega) (by omega)
  have hs1 : s ≤ 2000000 := by rw [hs]; exact Int.le_trans (Int.mul_le_mul hz.2 (show r / 2 ≤ 1000 by omega) (by omega) (by omega)) (by decide)
  have b1 : 0 ≤ n * r ∧ n * r ≤ 16000 := by rw [← hnr]; omega
  have b2 : 0 ≤ y * (n * r + p - 1) ∧ y * (n * r + p - 1) ≤ 40000000 := by rw [← hnr, ← hq]; omega
  have b3 : 0 ≤ z * (r / 2) ∧ z * (r / 2) ≤ 2000000 := by rw [← hs]; omega
  clear hq0 hq1 hq hs0 hs1 hs hnr0 hnr1 hnr q s nr
  go_in
  go_wp2
  go_ret
  exact ⟨rfl, by (repeat' (first | (with_reducible exact Below.refl _ _) | (with_reducible assumption) | (with_reducible refine below_drewN ?_ _) | (with_reducible refine Below.drew ?_) | (with_reducible refine below_alloc ?_ _) | (with_reducible refine Below.alloc ?_ ?_ _) | (with_reducible refine Below.setCell ?_ ?_ _) | (with_reducible refine below_go ?_ (by with_reducible assumption)) | (with_reducible refine below_then (by with_reducible assumption) ?_ ?_) | go_size))⟩
theorem spec_l21Blow (x y z n r p : Int) (w : World) (hx : 0 ≤ x ∧ x ≤ 1000000) (hy : 1 ≤ y ∧ y ≤ 2000) (hz : 0 ≤ z ∧ z ≤ 2000) (hn : 1 ≤ n ∧ n ≤ 8) (hr : 0 ≤ r ∧ r ≤ 2000) (hp : 1 ≤ p ∧ p ≤ 8) :
    Calls Try.prog 73 #[.agg #[.int .i64 x, .int .i64 y, .int .i64 z], .int .i64 n, .int .i64 r, .int .i64 p] w fun e w' => e = .returned (.int .i64 (blowAtZ x y z n r p)) ∧ Below w.heap.size w w' := by
  obtain ⟨nr, hnr⟩ : ∃ t, t = n * r := ⟨_, rfl⟩
  have hnr0 : 0 ≤ nr := by rw [hnr]; exact Int.mul_nonneg (by omega) hr.1
  have hnr1 : nr ≤ 16000 := by rw [hnr]; exact Int.le_trans (Int.mul_le_mul hn.2 hr.2 hr.1 (by omega)) (by decide)
  obtain ⟨q, hq⟩ : ∃ t, t = y * (nr + p - 1) := ⟨_, rfl⟩
  have hq0 : 0 ≤ q := by rw [hq]; exact Int.mul_nonneg (by omega) (by omega)
  have hq1 : q ≤ 40000000 := by rw [hq]; exact Int.le_trans (Int.mul_le_mul hy.2 (show nr + p - 1 ≤ 20000 by omega) (by omega) (by omega)) (by decide)
  obtain ⟨s, hs⟩ : ∃ t, t = z * (r / 2) := ⟨_, rfl⟩
  have hs0 : 0 ≤ s := by rw [hs]; exact Int.mul_nonneg (by omega) (by omega)
  have hs1 : s ≤ 2000000 := by rw [hs]; exact Int.le_trans (Int.mul_le_mul hz.2 (show r / 2 ≤ 1000 by omega) (by omega) (by omega)) (by decide)
  have b1 : 0 ≤ n * r ∧ n * r ≤ 16000 := by rw [← hnr]; omega
  have b2 : 0 ≤ y * (n * r + p - 1) ∧ y * (n * r + p - 1) ≤ 40000000 := by rw [← hnr, ← hq]; omega
  have b3 : 0 ≤ z * (r / 2) ∧ z * (r / 2) ≤ 2000000 := by rw [← hs]; omega
  clear hq0 hq1 hq hs0 hs1 hs hnr0 hnr1 hnr q s nr
  go_in
  go_wp2
  go_ret
  exact ⟨rfl, by (repeat' (first | (with_reducible exact Below.refl _ _) | (with_reducible assumption) | (with_reducible refine below_drewN ?_ _) | (with_reducible refine Below.drew ?_) | (with_reducible refine below_alloc ?_ _) | (with_reducible refine Below.alloc ?_ ?_ _) | (with_reducible refine Below.setCell ?_ ?_ _) | (with_reducible refine below_go ?_ (by with_reducible assumption)) | (with_reducible refine below_then (by with_reducible assumption) ?_ ?_) | go_size))⟩

end Go.Proofs.Ytcpfcgcdahhnjaa
