/- The walks through beats and lists of strikes, both sides, and the laws' own conversions of them. -/
import Derived.Test.YtegbannlhcgfaaaW0
import Derived.StillTailTactics
namespace Go.Proofs.Ytegbannlhcgfaaa
open Go.ChangeShapes Go.WideShapes Go.ChangeAt Go.RowKit Go.Deep

/-! ### beats -/
theorem laws_toBeat (x y z : Int) (w : World) :
    Calls Try.prog 10 #[.agg #[.int .i64 x, .int .i64 y, .int .i64 z]] w fun e w' => e = .returned (.agg #[.int .i64 x, .int .i64 y, .int .i64 z]) ∧ Below w.heap.size w w' := by
  go_in
  go_wp2
  go_returns
  exact ⟨rfl, by (repeat' (first | (with_reducible exact Below.refl _ _) | (with_reducible assumption) | (with_reducible refine below_drewN ?_ _) | (with_reducible refine Below.drew ?_) | (with_reducible refine below_alloc ?_ _) | (with_reducible refine Below.alloc ?_ ?_ _) | (with_reducible refine Below.setCell ?_ ?_ _) | (with_reducible refine below_go ?_ (by with_reducible assumption)) | (with_reducible refine below_then (by with_reducible assumption) ?_ ?_) | go_size))⟩
theorem impl_GoodBeat (x y z : Int) (w : World) :
    Calls Try.prog 11 #[.agg #[.int .i64 x, .int .i64 y, .int .i64 z]] w fun e w' => e = .returned (.bool (goodBeatB x y z)) ∧ Below w.heap.size w w' := by
  have E : Hid (goodBeatB x y z = (inB x 0 1000000 && inB y 1 2000 && inB z 0 2000)) := rfl
  go_in
  go_wp2_with (go_at_call 31; refine (impl_within _ _ _ _).mono ?_; rintro e w' ⟨rfl, rfl⟩)
  all_goals go_ret
  all_goals refine ⟨ret_bool ?_, by (repeat' (first | (with_reducible exact Below.refl _ _) | (with_reducible assumption) | (with_reducible refine below_drewN ?_ _) | (with_reducible refine Below.drew ?_) | (with_reducible refine below_alloc ?_ _) | (with_reducible refine Below.alloc ?_ ?_ _) | (with_reducible refine Below.setCell ?_ ?_ _) | (with_reducible refine below_go ?_ (by with_reducible assumption)) | (with_reducible refine below_then (by with_reducible assumption) ?_ ?_) | go_size))⟩
  all_goals (rw [E.out]; simp [*])
theorem spec_l21Beat (x y z : Int) (w : World) :
    Calls Try.prog 30 #[.agg #[.int .i64 x, .int .i64 y, .int .i64 z]] w fun e w' => e = .returned (.bool (goodBeatB x y z)) ∧ Below w.heap.size w w' := by
  have E : Hid (goodBeatB x y z = (inB x 0 1000000 && inB y 1 2000 && inB z 0 2000)) := rfl
  go_in
  go_wp2_with (go_at_call 32; refine (spec_l1In _ _ _ _).mono ?_; rintro e w' ⟨rfl, rfl⟩)
  all_goals go_ret
  all_goals refine ⟨ret_bool ?_, by (repeat' (first | (with_reducible exact Below.refl _ _) | (with_reducible assumption) | (with_reducible refine below_drewN ?_ _) | (with_reducible refine Below.drew ?_) | (with_reducible refine below_alloc ?_ _) | (with_reducible refine Below.alloc ?_ ?_ _) | (with_reducible refine Below.setCell ?_ ?_ _) | (with_reducible refine below_go ?_ (by with_reducible assumption)) | (with_reducible refine below_then (by with_reducible assumption) ?_ ?_) | go_size))⟩
  all_goals (rw [E.out]; simp [*])
theorem spec_GoodBeat (x y z : Int) (w : World) :
    Calls Try.prog 9 #[.agg #[.int .i64 x, .int .i64 y, .int .i64 z]] w fun e w' => e = .returned (.bool (goodBeatB x y z)) ∧ Below w.heap.size w w' := by
  go_in
  go_wp2_with (go_at_call 30; refine (spec_l21Beat _ _ _ _).mono ?_; rintro e w' ⟨rfl, hb⟩)
  go_ret
  exact ⟨rfl, by (repeat' (first | (with_reducible exact Below.refl _ _) | (with_reducible assumption) | (with_reducible refine below_drewN ?_ _) | (with_reducible refine Below.drew ?_) | (with_reducible refine below_alloc ?_ _) | (with_reducible refine Below.alloc ?_ ?_ _) | (with_reducible refine Below.setCell ?_ ?_ _) | (with_reducible refine below_go ?_ (by with_reducible assumption)) | (with_reducible refine below_then (by with_reducible assumption) ?_ ?_) | go_size))⟩
theorem law_GoodBeat (x y z : Int) (w : World) (_hx : -9223372036854775808 ≤ x ∧ x ≤ 9223372036854775807) (_hy : -9223372036854775808 ≤ y ∧ y ≤ 9223372036854775807) (_hz : -9223372036854775808 ≤ z ∧ z ≤ 9223372036854775807) :
    Calls Try.prog 3 #[.agg #[.int .i64 x, .int .i64 y, .int .i64 z]] w fun e w' => e = .returned (.bool true) ∧ Below w.heap.size w w' := by
  clear _hx _hy _hz
  go_in
  go_wp2_with fail
  refine (laws_toBeat _ _ _ _).mono ?_; rintro e w1 ⟨rfl, hb1⟩
  go_wp2_with fail
  refine (spec_GoodBeat _ _ _ _).mono ?_; rintro e w2 ⟨rfl, hb2⟩
  have B := ((Box.new w [.int .i64 x, .int .i64 y, .int .i64 z] 23).up hb1).up hb2
  have c0 := B 0 _ rfl; have c1 := B 1 _ rfl; have c2 := B 2 _ rfl; clear B
  go_wp2_with fail
  refine (laws_toBeat _ _ _ _).mono ?_; rintro e w3 ⟨rfl, hb3⟩
  go_wp2_with fail
  refine (impl_GoodBeat _ _ _ _).mono ?_; rintro e w4 ⟨rfl, hb4⟩
  go_wp2
  go_ret
  exact ⟨rfl, by (repeat' (first | (with_reducible exact Below.refl _ _) | (with_reducible assumption) | (with_reducible refine below_drewN ?_ _) | (with_reducible refine Below.drew ?_) | (with_reducible refine below_alloc ?_ _) | (with_reducible refine Below.alloc ?_ ?_ _) | (with_reducible refine Below.setCell ?_ ?_ _) | (with_reducible refine below_go ?_ (by with_reducible assumption)) | (with_reducible refine below_then (by with_reducible assumption) ?_ ?_) | go_size))⟩

/-! ### the time of a blow -/
theorem impl_blowAt (x y z n r p : Int) (w : World) (hx : 0 ≤ x ∧ x ≤ 1000000) (hy : 1 ≤ y ∧ y ≤ 2000) (hz : 0 ≤ z ∧ z ≤ 2000) (hn : 1 ≤ n ∧ n ≤ 8) (hr : 0 ≤ r ∧ r ≤ 2000) (hp : 1 ≤ p ∧ p ≤ 8) :
    Calls Try.prog 35 #[.agg #[.int .i64 x, .int .i64 y, .int .i64 z], .int .i64 n, .int .i64 r, .int .i64 p] w fun e w' => e = .returned (.int .i64 (blowAtZ x y z n r p)) ∧ Below w.heap.size w w' := by
  obtain ⟨nr, hnr⟩ : ∃ t, t = n * r := ⟨_, rfl⟩
  have hnr0 : 0 ≤ nr := by rw [hnr]; exact Int.mul_nonneg (by omega) hr.1
  have hnr1 : nr ≤ 16000 := by rw [hnr]; exact Int.le_trans (Int.mul_le_mul hn.2 hr.2 hr.1 (by omega)) (by decide)
  obtain ⟨q, hq⟩ : ∃ t, t = y * (nr + p - 1) := ⟨_, rfl⟩
  have hq0 : 0 ≤ q := by rw [hq]; exact Int.mul_nonneg (by omega) (by omega)
  have hq1 : q ≤ 40000000 := by rw [hq]; exact Int.le_trans (Int.mul_le_mul hy.2 (show nr + p - 1 ≤ 20000 by omega) (by omega) (by omega)) (by decide)
  obtain ⟨s, hs⟩ : ∃ t, t = z * (r / 2) := ⟨_, rfl⟩
  have hs0 : 0 ≤ s := by rw [hs]; exact Int.mul_nonneg (by omega) (by omega)
  have hs1 : s ≤ 2000000 := by rw [hs]; exact Int.le_trans (Int.mul_le_mul hz.2 (show r / 2 ≤ 1000 by omega) (by omega) (by omega)) (by decide)
  have b1 : 0 ≤ n * r ∧ n * r ≤ 16000 := by rw [← hnr]; omega
  have b2 : 0 ≤ y * (n * r + p - 1) ∧ y * (n * r + p - 1) ≤ 40000000 := by rw [← hnr, ← hq]; omega
  have b3 : 0 ≤ z * (r / 2) ∧ z * (r / 2) ≤ 2000000 := by rw [← hs]; omega
  clear hq0 hq1 hq hs0 hs1 hs hnr0 hnr1 hnr q s nr
  go_in
  go_wp2
  go_ret
  exact ⟨rfl, by (repeat' (first | (with_reducible exact Below.refl _ _) | (with_reducible assumption) | (with_reducible refine below_drewN ?_ _) | (with_reducible refine Below.drew ?_) | (with_reducible refine below_alloc ?_ _) | (with_reducible refine Below.alloc ?_ ?_ _) | (with_reducible refine Below.setCell ?_ ?_ _) | (with_reducible refine below_go ?_ (by with_reducible assumption)) | (with_reducible refine below_then (by with_reducible assumption) ?_ ?_) | go_size))⟩
theorem spec_l21Blow (x y z n r p : Int) (w : World) (hx : 0 ≤ x ∧ x ≤ 1000000) (hy : 1 ≤ y ∧ y ≤ 2000) (hz : 0 ≤ z ∧ z ≤ 2000) (hn : 1 ≤ n ∧ n ≤ 8) (hr : 0 ≤ r ∧ r ≤ 2000) (hp : 1 ≤ p ∧ p ≤ 8) :
    Calls Try.prog 33 #[.agg #[.int .i64 x, .int .i64 y, .int .i64 z], .int .i64 n, .int .i64 r, .int .i64 p] w fun e w' => e = .returned (.int .i64 (blowAtZ x y z n r p)) ∧ Below w.heap.size w w' := by
  obtain ⟨nr, hnr⟩ : ∃ t, t = n * r := ⟨_, rfl⟩
  have hnr0 : 0 ≤ nr := by rw [hnr]; exact Int.mul_nonneg (by omega) hr.1
  have hnr1 : nr ≤ 16000 := by rw [hnr]; exact Int.le_trans (Int.mul_le_mul hn.2 hr.2 hr.1 (by omega)) (by decide)
  obtain ⟨q, hq⟩ : ∃ t, t = y * (nr + p - 1) := ⟨_, rfl⟩
  have hq0 : 0 ≤ q := by rw [hq]; exact Int.mul_nonneg (by omega) (by omega)
  have hq1 : q ≤ 40000000 := by rw [hq]; exact Int.le_trans (Int.mul_le_mul hy.2 (show nr + p - 1 ≤ 20000 by omega) (by omega) (by omega)) (by decide)
  obtain ⟨s, hs⟩ : ∃ t, t = z * (r / 2) := ⟨_, rfl⟩
  have hs0 : 0 ≤ s := by rw [hs]; exact Int.mul_nonneg (by omega) (by omega)
  have hs1 : s ≤ 2000000 := by rw [hs]; exact Int.le_trans (Int.mul_le_mul hz.2 (show r / 2 ≤ 1000 by omega) (by omega) (by omega)) (by decide)
  have b1 : 0 ≤ n * r ∧ n * r ≤ 16000 := by rw [← hnr]; omega
  have b2 : 0 ≤ y * (n * r + p - 1) ∧ y * (n * r + p - 1) ≤ 40000000 := by rw [← hnr, ← hq]; omega
  have b3 : 0 ≤ z * (r / 2) ∧ z * (r / 2) ≤ 2000000 := by rw [← hs]; omega
  clear hq0 hq1 hq hs0 hs1 hs hnr0 hnr1 hnr q s nr
  go_in
  go_wp2
  go_ret
  exact ⟨rfl, by (repeat' (first | (with_reducible exact Below.refl _ _) | (with_reducible assumption) | (with_reducible refine below_drewN ?_ _) | (with_reducible refine Below.drew ?_) | (with_reducible refine below_alloc ?_ _) | (with_reducible refine Below.alloc ?_ ?_ _) | (with_reducible refine Below.setCell ?_ ?_ _) | (with_reducible refine below_go ?_ (by with_reducible assumption)) | (with_reducible refine below_then (by with_reducible assumption) ?_ ?_) | go_size))⟩

theorem impl_BlowAt (x y z n r p : Int) (w : World) :
    Calls Try.prog 13 #[.agg #[.int .i64 x, .int .i64 y, .int .i64 z], .int .i64 n, .int .i64 r, .int .i64 p] w fun e w' =>
      e = .returned (.tuple #[.int .i64 (blowV x y z n r p), .bool (okBlow x y z n r p)]) ∧ Below w.heap.size w w' := by
  have E : Hid (okBlow x y z n r p = (goodBeatB x y z && inB n 3 8 && inB r 0 800 && inB p 1 n)) := rfl
  rcases h1 : goodBeatB x y z
  · go_in
    go_wp2_with (first | (go_at_call 11; refine (impl_GoodBeat _ _ _ _).mono ?_; rintro e w1 ⟨rfl, hb1⟩))
    go_ret2
    have ek : okBlow x y z n r p = false := by rw [E.out, h1]; rfl
    exact ⟨by rw [ek, blowV_f ek]; rfl, by (repeat' (first | (with_reducible exact Below.refl _ _) | (with_reducible assumption) | (with_reducible refine below_drewN ?_ _) | (with_reducible refine Below.drew ?_) | (with_reducible refine below_alloc ?_ _) | (with_reducible refine Below.alloc ?_ ?_ _) | (with_reducible refine Below.setCell ?_ ?_ _) | (with_reducible refine below_go ?_ (by with_reducible assumption)) | (with_reducible refine below_then (by with_reducible assumption) ?_ ?_) | go_size))⟩
  rcases h2 : inB n 3 8
  · go_in
    go_wp2_with (first | (go_at_call 11; refine (impl_GoodBeat _ _ _ _).mono ?_; rintro e w1 ⟨rfl, hb1⟩) | (go_at_call 34; refine (impl_isStage _ _).mono ?_; rintro e w' ⟨rfl, rfl⟩))
    go_ret2
    have ek : okBlow x y z n r p = false := by rw [E.out, h1, h2]; rfl
    exact ⟨by rw [ek, blowV_f ek]; rfl, by (repeat' (first | (with_reducible exact Below.refl _ _) | (with_reducible assumption) | (with_reducible refine below_drewN ?_ _) | (with_reducible refine Below.drew ?_) | (with_reducible refine below_alloc ?_ _) | (with_reducible refine Below.alloc ?_ ?_ _) | (with_reducible refine Below.setCell ?_ ?_ _) | (with_reducible refine below_go ?_ (by with_reducible assumption)) | (with_reducible refine below_then (by with_reducible assumption) ?_ ?_) | go_size))⟩
  rcases h3 : inB r 0 800
  · go_in
    go_wp2_with (first | (go_at_call 11; refine (impl_GoodBeat _ _ _ _).mono ?_; rintro e w1 ⟨rfl, hb1⟩) | (go_at_call 34; refine (impl_isStage _ _).mono ?_; rintro e w' ⟨rfl, rfl⟩) | (go_at_call 31; refine (impl_within _ _ _ _).mono ?_; rintro e w' ⟨rfl, rfl⟩))
    go_ret2
    have ek : okBlow x y z n r p = false := by rw [E.out, h1, h2, h3]; rfl
    exact ⟨by rw [ek, blowV_f ek]; rfl, by (repeat' (first | (with_reducible exact Below.refl _ _) | (with_reducible assumption) | (with_reducible refine below_drewN ?_ _) | (with_reducible refine Below.drew ?_) | (with_reducible refine below_alloc ?_ _) | (with_reducible refine Below.alloc ?_ ?_ _) | (with_reducible refine Below.setCell ?_ ?_ _) | (with_reducible refine below_go ?_ (by with_reducible assumption)) | (with_reducible refine below_then (by with_reducible assumption) ?_ ?_) | go_size))⟩
  rcases h4 : inB p 1 n
  · go_in
    go_wp2_with (first | (go_at_call 11; refine (impl_GoodBeat _ _ _ _).mono ?_; rintro e w1 ⟨rfl, hb1⟩) | (go_at_call 34; refine (impl_isStage _ _).mono ?_; rintro e w' ⟨rfl, rfl⟩) | (go_at_call 31; refine (impl_within _ _ _ _).mono ?_; rintro e w' ⟨rfl, rfl⟩))
    go_ret2
    have ek : okBlow x y z n r p = false := by rw [E.out, h1, h2, h3, h4]; rfl
    exact ⟨by rw [ek, blowV_f ek]; rfl, by (repeat' (first | (with_reducible exact Below.refl _ _) | (with_reducible assumption) | (with_reducible refine below_drewN ?_ _) | (with_reducible refine Below.drew ?_) | (with_reducible refine below_alloc ?_ _) | (with_reducible refine Below.alloc ?_ ?_ _) | (with_reducible refine Below.setCell ?_ ?_ _) | (with_reducible refine below_go ?_ (by with_reducible assumption)) | (with_reducible refine below_then (by with_reducible assumption) ?_ ?_) | go_size))⟩
  · have hB := goodBeat_t h1
    have hn := inB_t h2
    have hr := inB_t h3
    have hp := inB_t h4
    have HB := Lib.hid hB
    clear hB
    go_in
    go_wp2_with (first | (go_at_call 11; refine (impl_GoodBeat _ _ _ _).mono ?_; rintro e w1 ⟨rfl, hb1⟩; have B := (Box.new w [.int .i64 x, .int .i64 y, .int .i64 z] 25).up hb1; have c0 := B 0 _ rfl; have c1 := B 1 _ rfl; have c2 := B 2 _ rfl; clear B) | (go_at_call 34; refine (impl_isStage _ _).mono ?_; rintro e w' ⟨rfl, rfl⟩) | (go_at_call 31; refine (impl_within _ _ _ _).mono ?_; rintro e w' ⟨rfl, rfl⟩) | (go_at_call 35; refine (impl_blowAt _ _ _ _ _ _ _ HB.out.1 HB.out.2.1 HB.out.2.2 (by omega) (by omega) (by omega)).mono ?_; rintro e w2 ⟨rfl, hb2⟩))
    go_ret2
    have ek : okBlow x y z n r p = true := by rw [E.out, h1, h2, h3, h4]; rfl
    exact ⟨by rw [ek, blowV_t ek]; rfl, by (repeat' (first | (with_reducible exact Below.refl _ _) | (with_reducible assumption) | (with_reducible refine below_drewN ?_ _) | (with_reducible refine Below.drew ?_) | (with_reducible refine below_alloc ?_ _) | (with_reducible refine Below.alloc ?_ ?_ _) | (with_reducible refine Below.setCell ?_ ?_ _) | (with_reducible refine below_go ?_ (by with_reducible assumption)) | (with_reducible refine below_then (by with_reducible assumption) ?_ ?_) | go_size))⟩
theorem spec_BlowAt (x y z n r p : Int) (w : World) :
    Calls Try.prog 12 #[.agg #[.int .i64 x, .int .i64 y, .int .i64 z], .int .i64 n, .int .i64 r, .int .i64 p] w fun e w' =>
      e = .returned (.tuple #[.int .i64 (blowV x y z n r p), .bool (okBlow x y z n r p)]) ∧ Below w.heap.size w w' := by
  have E : Hid (okBlow x y z n r p = (goodBeatB x y z && inB n 3 8 && inB r 0 800 && inB p 1 n)) := rfl
  rcases h1 : goodBeatB x y z
  · go_in
    go_wp2_with (first | (go_at_call 30; refine (spec_l21Beat _ _ _ _).mono ?_; rintro e w1 ⟨rfl, hb1⟩))
    go_ret2
    have ek : okBlow x y z n r p = false := by rw [E.out, h1]; rfl
    exact ⟨by rw [ek, blowV_f ek]; rfl, by (repeat' (first | (with_reducible exact Below.refl _ _) | (with_reducible assumption) | (with_reducible refine below_drewN ?_ _) | (with_reducible refine Below.drew ?_) | (with_reducible refine below_alloc ?_ _) | (with_reducible refine Below.alloc ?_ ?_ _) | (with_reducible refine Below.setCell ?_ ?_ _) | (with_reducible refine below_go ?_ (by with_reducible assumption)) | (with_reducible refine below_then (by with_reducible assumption) ?_ ?_) | go_size))⟩
  rcases h2 : inB n 3 8
  · go_in
    go_wp2_with (first | (go_at_call 30; refine (spec_l21Beat _ _ _ _).mono ?_; rintro e w1 ⟨rfl, hb1⟩) | (go_at_call 32; refine (spec_l1In _ _ _ _).mono ?_; rintro e w' ⟨rfl, rfl⟩))
    go_ret2
    have ek : okBlow x y z n r p = false := by rw [E.out, h1, h2]; rfl
    exact ⟨by rw [ek, blowV_f ek]; rfl, by (repeat' (first | (with_reducible exact Below.refl _ _) | (with_reducible assumption) | (with_reducible refine below_drewN ?_ _) | (with_reducible refine Below.drew ?_) | (with_reducible refine below_alloc ?_ _) | (with_reducible refine Below.alloc ?_ ?_ _) | (with_reducible refine Below.setCell ?_ ?_ _) | (with_reducible refine below_go ?_ (by with_reducible assumption)) | (with_reducible refine below_then (by with_reducible assumption) ?_ ?_) | go_size))⟩
  rcases h3 : inB r 0 800
  · go_in
    go_wp2_with (first | (go_at_call 30; refine (spec_l21Beat _ _ _ _).mono ?_; rintro e w1 ⟨rfl, hb1⟩) | (go_at_call 32; refine (spec_l1In _ _ _ _).mono ?_; rintro e w' ⟨rfl, rfl⟩))
    go_ret2
    have ek : okBlow x y z n r p = false := by rw [E.out, h1, h2, h3]; rfl
    exact ⟨by rw [ek, blowV_f ek]; rfl, by (repeat' (first | (with_reducible exact Below.refl _ _) | (with_reducible assumption) | (with_reducible refine below_drewN ?_ _) | (with_reducible refine Below.drew ?_) | (with_reducible refine below_alloc ?_ _) | (with_reducible refine Below.alloc ?_ ?_ _) | (with_reducible refine Below.setCell ?_ ?_ _) | (with_reducible refine below_go ?_ (by with_reducible assumption)) | (with_reducible refine below_then (by with_reducible assumption) ?_ ?_) | go_size))⟩
  rcases h4 : inB p 1 n
  · go_in
    go_wp2_with (first | (go_at_call 30; refine (spec_l21Beat _ _ _ _).mono ?_; rintro e w1 ⟨rfl, hb1⟩) | (go_at_call 32; refine (spec_l1In _ _ _ _).mono ?_; rintro e w' ⟨rfl, rfl⟩))
    go_ret2
    have ek : okBlow x y z n r p = false := by rw [E.out, h1, h2, h3, h4]; rfl
    exact ⟨by rw [ek, blowV_f ek]; rfl, by (repeat' (first | (with_reducible exact Below.refl _ _) | (with_reducible assumption) | (with_reducible refine below_drewN ?_ _) | (with_reducible refine Below.drew ?_) | (with_reducible refine below_alloc ?_ _) | (with_reducible refine Below.alloc ?_ ?_ _) | (with_reducible refine Below.setCell ?_ ?_ _) | (with_reducible refine below_go ?_ (by with_reducible assumption)) | (with_reducible refine below_then (by with_reducible assumption) ?_ ?_) | go_size))⟩
  · have hB := goodBeat_t h1
    have hn := inB_t h2
    have hr := inB_t h3
    have hp := inB_t h4
    have HB := Lib.hid hB
    clear hB
    go_in
    go_wp2_with (first | (go_at_call 30; refine (spec_l21Beat _ _ _ _).mono ?_; rintro e w1 ⟨rfl, hb1⟩; have B := (Box.new w [.int .i64 x, .int .i64 y, .int .i64 z] 25).up hb1; have c0 := B 0 _ rfl; have c1 := B 1 _ rfl; have c2 := B 2 _ rfl; clear B) | (go_at_call 32; refine (spec_l1In _ _ _ _).mono ?_; rintro e w' ⟨rfl, rfl⟩) | (go_at_call 33; refine (spec_l21Blow _ _ _ _ _ _ _ HB.out.1 HB.out.2.1 HB.out.2.2 (by omega) (by omega) (by omega)).mono ?_; rintro e w2 ⟨rfl, hb2⟩))
    go_ret2
    have ek : okBlow x y z n r p = true := by rw [E.out, h1, h2, h3, h4]; rfl
    exact ⟨by rw [ek, blowV_t ek]; rfl, by (repeat' (first | (with_reducible exact Below.refl _ _) | (with_reducible assumption) | (with_reducible refine below_drewN ?_ _) | (with_reducible refine Below.drew ?_) | (with_reducible refine below_alloc ?_ _) | (with_reducible refine Below.alloc ?_ ?_ _) | (with_reducible refine Below.setCell ?_ ?_ _) | (with_reducible refine below_go ?_ (by with_reducible assumption)) | (with_reducible refine below_then (by with_reducible assumption) ?_ ?_) | go_size))⟩
theorem law_BlowAt (x y z n r p : Int) (w : World) (_hx : -9223372036854775808 ≤ x ∧ x ≤ 9223372036854775807) (_hy : -9223372036854775808 ≤ y ∧ y ≤ 9223372036854775807) (_hz : -9223372036854775808 ≤ z ∧ z ≤ 9223372036854775807)
    (_hn : -9223372036854775808 ≤ n ∧ n ≤ 9223372036854775807) (_hr : -9223372036854775808 ≤ r ∧ r ≤ 9223372036854775807) (_hp : -9223372036854775808 ≤ p ∧ p ≤ 9223372036854775807) :
    Calls Try.prog 4 #[.agg #[.int .i64 x, .int .i64 y, .int .i64 z], .int .i64 n, .int .i64 r, .int .i64 p] w fun e w' => e = .returned (.bool true) ∧ Below w.heap.size w w' := by
  clear _hx _hy _hz _hn _hr _hp
  go_in
  go_wp2_with fail
  refine (laws_toBeat _ _ _ _).mono ?_; rintro e w1 ⟨rfl, hb1⟩
  go_wp2_with fail
  refine (spec_BlowAt _ _ _ _ _ _ _).mono ?_; rintro e w2 ⟨rfl, hb2⟩
  have B := ((Box.new w [.int .i64 x, .int .i64 y, .int .i64 z] 23).up hb1).up hb2
  have c0 := B 0 _ rfl; have c1 := B 1 _ rfl; have c2 := B 2 _ rfl; clear B
  go_wp2_with fail
  refine (laws_toBeat _ _ _ _).mono ?_; rintro e w3 ⟨rfl, hb3⟩
  go_wp2_with fail
  refine (impl_BlowAt _ _ _ _ _ _ _).mono ?_; rintro e w4 ⟨rfl, hb4⟩
  go_wp2
  go_ret
  exact ⟨rfl, by (repeat' (first | (with_reducible exact Below.refl _ _) | (with_reducible assumption) | (with_reducible refine below_drewN ?_ _) | (with_reducible refine Below.drew ?_) | (with_reducible refine below_alloc ?_ _) | (with_reducible refine Below.alloc ?_ ?_ _) | (with_reducible refine Below.setCell ?_ ?_ _) | (with_reducible refine below_go ?_ (by with_reducible assumption)) | (with_reducible refine below_then (by with_reducible assumption) ?_ ?_) | go_size))⟩
end Go.Proofs.Ytegbannlhcgfaaa
