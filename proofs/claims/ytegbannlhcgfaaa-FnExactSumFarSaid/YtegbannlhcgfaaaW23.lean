/- The walks through the weighted distance, both sides, and the law on it. -/
import Derived.Test.YtegbannlhcgfaaaW0
import Derived.Test.YtegbannlhcgfaaaP23
namespace Go.Proofs.Ytegbannlhcgfaaa
set_option linter.unusedVariables false
set_option linter.unusedSimpArgs false
open Go.ChangeShapes Go.WideShapes Go.ChangeAt Go.RowKit Go.Deep

theorem impl_abs (x : Int) (w : World) (h : -9223372036854775807 ≤ x ∧ x ≤ 9223372036854775807) :
    Calls Try.prog 47 #[.int .i64 x] w fun e w' => e = .returned (.int .i64 (absZ x)) ∧ w = w' := by
  by_cases hx : x < 0
  · have E := Lib.hid (absZ_neg hx)
    go_in
    go_wp2
    go_ret
    exact ⟨by rw [E.out]; rfl, rfl⟩
  · have E := Lib.hid (absZ_pos (x := x) (by omega))
    go_in
    go_wp2
    go_ret
    exact ⟨by rw [E.out]; rfl, rfl⟩
theorem spec_l1Most (x y : Int) (w : World) :
    Calls Try.prog 51 #[.int .i64 x, .int .i64 y] w fun e w' => e = .returned (.int .i64 (max x y)) ∧ w = w' := by
  go_in
  go_wp2
  all_goals go_ret
  all_goals exact ⟨ret_int (by omega), rfl⟩
theorem spec_l22Far (x y : Int) (w : World) (h : -9223372036854775807 ≤ x - y ∧ x - y ≤ 9223372036854775807) :
    Calls Try.prog 50 #[.int .i64 x, .int .i64 y] w fun e w' => e = .returned (.int .i64 (absZ (x - y))) ∧ w = w' := by
  have E : Hid (max (x - y) (y - x) = absZ (x - y)) := by
    have hb := absZ_bd (x - y)
    show _ = _
    omega
  go_in
  go_wp2_with (go_at_call 51; refine (spec_l1Most _ _ _).mono ?_; rintro e w' ⟨rfl, rfl⟩)
  go_ret
  exact ⟨by rw [← E.out]; rfl, rfl⟩
set_option maxRecDepth 100000 in
theorem spec_l1All (A : Option Addr) (c : Nat) (l : List Int) (a b : Int) (w : World) (h : Ints w A l) (hz : l.length ≤ 9223372036854775807) :
    Calls Try.prog 49 #[.slice A l.length c, .int .i64 a, .int .i64 b] w fun e w' => e = .returned (.bool (allIn l a b)) ∧ w = w' := by
  go_in
  go_wp2
  go_loop [11] (fun i => ∃ k : Nat, k ≤ l.length ∧ i = .int .i64 k ∧ Hid (∀ j, j < k → ∃ x, l[j]? = some x ∧ inB x a b = true)) (fun i => l.length - (intOf i).toNat)
  case atStart => exact ⟨0, Nat.zero_le _, rfl, Lib.hid (fun j hj => absurd hj (by omega))⟩
  case round =>
    obtain ⟨k, hk, rfl, HK⟩ := hrel
    by_cases hlt : k < l.length
    · obtain ⟨b1, o1, x, rfl, hbb, hx, hc⟩ := h.at_int hlt
      have HX := Lib.hid hx
      clear hx h
      rcases hx : inB x a b
      · go_wp2_with (go_at_call 32; refine (spec_l1In _ _ _ _).mono ?_; rintro e w' ⟨rfl, rfl⟩)
        go_ret
        exact ⟨ret_bool (allIn_bad HX.out hx).symm, rfl⟩
      · go_wp2_with (go_at_call 32; refine (spec_l1In _ _ _ _).mono ?_; rintro e w' ⟨rfl, rfl⟩)
        go_round
        case rel => exact ⟨k + 1, by omega, by go_num, Lib.hid (upto_succ HK.out ⟨x, HX.out, hx⟩)⟩
        case measure => simp [intOf]; omega
    · go_wp2
      go_ret
      exact ⟨ret_bool (allIn_good (fun j hj => HK.out j (by omega))).symm, rfl⟩
theorem spec_l23Values (A : Option Addr) (c : Nat) (l : List Int) (w : World) (h : Ints w A l) (hz : l.length ≤ 9223372036854775807) :
    Calls Try.prog 48 #[.slice A l.length c] w fun e w' => e = .returned (.bool (decide (l.length ≤ 400) && allIn l (-10000000) 10000000)) ∧ w = w' := by
  by_cases hn : l.length ≤ 400
  · have e : decide (l.length ≤ 400) = true := decide_eq_true hn
    rw [e]
    clear e
    go_in
    go_wp2_with (go_at_call 49; refine (spec_l1All _ _ _ _ _ _ h hz).mono ?_; rintro e w' ⟨rfl, rfl⟩)
    go_ret
    exact ⟨ret_bool (by simp), rfl⟩
  · have e : decide (l.length ≤ 400) = false := decide_eq_false hn
    rw [e]
    clear e
    go_in
    go_wp2
    go_ret
    exact ⟨rfl, rfl⟩
theorem spec_l23Asked (A B : Option Addr) (c d : Nat) (l m : List Int) (w : World) (h : Ints w A l) (g : Ints w B m) (hz : l.length ≤ 9223372036854775807) (hz' : m.length ≤ 9223372036854775807) :
    Calls Try.prog 44 #[.slice A l.length c, .slice B m.length d] w fun e w' => e = .returned (.bool (askedB l m)) ∧ w = w' := by
  have E : Hid (askedB l m = (decide (l.length ≤ 400) && allIn l (-10000000) 10000000 && decide (0 < l.length) && decide (m.length = l.length) && allIn m 1 100)) := rfl
  rcases h1 : (decide (l.length ≤ 400) && allIn l (-10000000) 10000000)
  · go_in
    go_wp2_with fail
    refine (spec_l23Values _ _ _ _ h hz).mono ?_; rintro e w' ⟨rfl, rfl⟩
    rw [h1]
    go_wp2
    go_ret
    exact ⟨ret_bool (by rw [E.out, h1]; rfl), rfl⟩
  by_cases h2 : 0 < l.length
  · by_cases h3 : m.length = l.length
    · have h3' : ((m.length : Int) == (l.length : Int)) = true := by rw [h3]; simp
      have H3 := Lib.hid h3
      clear h3
      go_in
      go_wp2_with fail
      refine (spec_l23Values _ _ _ _ h hz).mono ?_; rintro e w' ⟨rfl, rfl⟩
      rw [h1]
      go_wp2_with (go_at_call 49; refine (spec_l1All _ _ _ _ _ _ g hz').mono ?_; rintro e w' ⟨rfl, rfl⟩)
      go_ret
      exact ⟨ret_bool (by rw [E.out, h1, decide_eq_true h2, decide_eq_true H3.out]; simp), rfl⟩
    · have h3' : ((m.length : Int) == (l.length : Int)) = false := by simp; omega
      have H3 := Lib.hid h3
      clear h3
      go_in
      go_wp2_with fail
      refine (spec_l23Values _ _ _ _ h hz).mono ?_; rintro e w' ⟨rfl, rfl⟩
      rw [h1]
      go_wp2
      go_ret
      exact ⟨ret_bool (by rw [E.out, h1, decide_eq_true h2, decide_eq_false H3.out]; simp), rfl⟩
  · go_in
    go_wp2_with fail
    refine (spec_l23Values _ _ _ _ h hz).mono ?_; rintro e w' ⟨rfl, rfl⟩
    rw [h1]
    go_wp2
    go_ret
    exact ⟨ret_bool (by rw [E.out, h1, decide_eq_false h2]; simp), rfl⟩
set_option maxRecDepth 100000 in
theorem impl_goodValues (A B : Option Addr) (c d : Nat) (l m : List Int) (w : World) (h : Ints w A l) (g : Ints w B m) (hz : l.length ≤ 9223372036854775807) (hz' : m.length ≤ 9223372036854775807) :
    Calls Try.prog 46 #[.slice A l.length c, .slice B m.length d] w fun e w' => e = .returned (.bool (askedB l m)) ∧ w = w' := by
  have E : Hid (askedB l m = (decide (l.length ≤ 400) && allIn l (-10000000) 10000000 && decide (0 < l.length) && decide (m.length = l.length) && allIn m 1 100)) := rfl
  rcases h1 : inB (l.length : Int) 1 400
  · have n1 := inB_f h1
    have ef : askedB l m = false := by
      rw [E.out, ← Bool.not_eq_true]
      simp only [Bool.and_eq_true, decide_eq_true_eq]
      omega
    rw [ef]
    go_in
    go_wp2_with (go_at_call 31; refine (impl_within _ _ _ _).mono ?_; rintro e w' ⟨rfl, rfl⟩)
    go_ret
    exact ⟨rfl, rfl⟩
  have n1 := inB_t h1
  by_cases h3 : m.length = l.length
  · have h3' : ((m.length : Int) != (l.length : Int)) = false := by rw [h3]; simp
    have H3 := Lib.hid h3
    clear h3
    go_in
    go_wp2_with (go_at_call 31; refine (impl_within _ _ _ _).mono ?_; rintro e w' ⟨rfl, rfl⟩)
    go_loop [20] (fun i => ∃ k : Nat, k ≤ l.length ∧ i = .int .i64 k ∧ Hid (∀ j, j < k → (∃ x, l[j]? = some x ∧ inB x (-10000000) 10000000 = true) ∧ ∃ x, m[j]? = some x ∧ inB x 1 100 = true)) (fun i => l.length - (intOf i).toNat)
    case atStart => exact ⟨0, Nat.zero_le _, rfl, Lib.hid (fun j hj => absurd hj (by omega))⟩
    case round =>
      obtain ⟨k, hk, rfl, HK⟩ := hrel
      by_cases hlt : k < l.length
      · obtain ⟨b1, o1, x, rfl, hbb, hx, hc⟩ := h.at_int hlt
        obtain ⟨b2, o2, y, rfl, hbb2, hy, hc2⟩ := g.at_int (k := k) (by rw [H3.out]; exact hlt)
        have hlt2 : k < m.length := by rw [H3.out]; exact hlt
        have HX := Lib.hid hx
        have HY := Lib.hid hy
        clear hx hy h g
        rcases hx : inB x (-10000000) 10000000
        · go_wp2_with (go_at_call 31; refine (impl_within _ _ _ _).mono ?_; rintro e w' ⟨rfl, rfl⟩)
          go_ret
          exact ⟨ret_bool (by rw [E.out, allIn_bad HX.out hx]; simp), rfl⟩
        rcases hy : inB y 1 100
        · go_wp2_with (go_at_call 31; refine (impl_within _ _ _ _).mono ?_; rintro e w' ⟨rfl, rfl⟩)
          go_ret
          exact ⟨ret_bool (by rw [E.out, allIn_bad HY.out hy]; simp), rfl⟩
        · go_wp2_with (go_at_call 31; refine (impl_within _ _ _ _).mono ?_; rintro e w' ⟨rfl, rfl⟩)
          go_round
          case rel => exact ⟨k + 1, by omega, by go_num, Lib.hid (upto_succ HK.out ⟨⟨x, HX.out, hx⟩, ⟨y, HY.out, hy⟩⟩)⟩
          case measure => simp [intOf]; omega
      · go_wp2
        go_ret
        refine ⟨ret_bool ?_, rfl⟩
        have e1 := allIn_good (fun j hj => (HK.out j (by omega)).1)
        have e2 := allIn_good (l := m) (fun j hj => (HK.out j (by have := H3.out; omega)).2)
        rw [E.out, e1, e2, decide_eq_true (show l.length ≤ 400 by omega), decide_eq_true (show 0 < l.length by omega), decide_eq_true H3.out]
        rfl
  · have h3' : ((m.length : Int) != (l.length : Int)) = true := by simp; omega
    have ef : askedB l m = false := by
      rw [E.out, decide_eq_false h3]; simp
    rw [ef]
    clear h3
    go_in
    go_wp2_with (go_at_call 31; refine (impl_within _ _ _ _).mono ?_; rintro e w' ⟨rfl, rfl⟩)
    go_ret
    exact ⟨rfl, rfl⟩
set_option maxRecDepth 100000 in
theorem spec_l23Far (A B : Option Addr) (c d : Nat) (l m : List Int) (x : Int) (w : World) (h : Ints w A l) (g : Ints w B m) (ha : askedB l m = true) (hx : -10000000 ≤ x ∧ x ≤ 10000000) :
    Calls Try.prog 45 #[.slice A l.length c, .slice B m.length d, .int .i64 x] w fun e w' => e = .returned (.int .i64 (sumTo (farAt l m x) l.length)) ∧ Below w.heap.size w w' := by
  obtain ⟨a1, a2, a3, a4, a5⟩ := askedB_t ha
  have A2 := Lib.hid a2; have A4 := Lib.hid a4; have A5 := Lib.hid a5
  clear a2 a4 a5 ha
  go_in
  go_wp2
  go_loopw [7, 12] (fun s i wr => ∃ k : Nat, k ≤ l.length ∧ i = .int .i64 k ∧ s = .int .i64 (sumTo (farAt l m x) k) ∧ Below w.heap.size w wr) (fun _ i _ => l.length - (intOf i).toNat)
  case atStart => exact ⟨0, Nat.zero_le _, rfl, rfl, by (repeat' (first | (with_reducible exact Below.refl _ _) | (with_reducible assumption) | (with_reducible refine below_drewN ?_ _) | (with_reducible refine Below.drew ?_) | (with_reducible refine below_alloc ?_ _) | (with_reducible refine Below.alloc ?_ ?_ _) | (with_reducible refine Below.setCell ?_ ?_ _) | (with_reducible refine below_go ?_ (by with_reducible assumption)) | (with_reducible refine below_then (by with_reducible assumption) ?_ ?_) | go_size))⟩
  case round =>
    obtain ⟨k, hk, rfl, rfl, hb⟩ := hrel
    by_cases hlt : k < l.length
    · obtain ⟨b1, o1, v, rfl, hbb, hv, hc⟩ := (h.below hb (Nat.le_refl _)).at_int hlt
      have hlt2 : k < m.length := by rw [A4.out]; exact hlt
      obtain ⟨b2, o2, u, rfl, hbb2, hu, hc2⟩ := (g.below hb (Nat.le_refl _)).at_int hlt2
      have bv := allIn_t A2.out hv
      have bs := far_bd A2.out A5.out A4.out hx a1 hk
      have bf := farAt_bd A2.out A5.out A4.out hx hlt
      have F := Lib.hid (farAt_eq (x := x) hv hu)
      rw [F.out] at bf
      rw [Int.mul_comm] at bf
      clear h g hv hu
      obtain ⟨s, hs⟩ : ∃ s, s = sumTo (farAt l m x) k := ⟨_, rfl⟩
      rw [← hs] at bs ⊢
      have HS := Lib.hid hs
      clear hs
      go_wp2
      go_quiet ((go_at_call 50; exact quiet_left (spec_l22Far _ _ _ (by omega))))
      go_wp2
      go_roundw
      case rel => exact ⟨k + 1, by omega, by go_num, by rw [sumTo, F.out, ← HS.out, Int.mul_comm], by (repeat' (first | (with_reducible exact Below.refl _ _) | (with_reducible assumption) | (with_reducible refine below_drewN ?_ _) | (with_reducible refine Below.drew ?_) | (with_reducible refine below_alloc ?_ _) | (with_reducible refine Below.alloc ?_ ?_ _) | (with_reducible refine Below.setCell ?_ ?_ _) | (with_reducible refine below_go ?_ (by with_reducible assumption)) | (with_reducible refine below_then (by with_reducible assumption) ?_ ?_) | go_size))⟩
      case measure => simp [intOf]; omega
    · go_wp2
      go_ret
      obtain rfl : k = l.length := by omega
      exact ⟨rfl, by (repeat' (first | (with_reducible exact Below.refl _ _) | (with_reducible assumption) | (with_reducible refine below_drewN ?_ _) | (with_reducible refine Below.drew ?_) | (with_reducible refine below_alloc ?_ _) | (with_reducible refine Below.alloc ?_ ?_ _) | (with_reducible refine Below.setCell ?_ ?_ _) | (with_reducible refine below_go ?_ (by with_reducible assumption)) | (with_reducible refine below_then (by with_reducible assumption) ?_ ?_) | go_size))⟩
theorem spec_SumFar (A B : Option Addr) (c d : Nat) (l m : List Int) (x : Int) (w : World) (h : Ints w A l) (g : Ints w B m) (hz : l.length ≤ 9223372036854775807) (hz' : m.length ≤ 9223372036854775807) :
    Calls Try.prog 28 #[.slice A l.length c, .slice B m.length d, .int .i64 x] w fun e w' => e = .returned (.tuple #[.int .i64 (farV l m x), .bool (askedB l m && inB x (-10000000) 10000000)]) ∧ Below w.heap.size w w' := by
  rcases h1 : askedB l m
  · have E := Lib.hid (farV_f (vs := l) (ws := m) (x := x) (by rw [h1]; rfl))
    go_in
    go_wp2_with (first | (go_at_call 44; refine (spec_l23Asked _ _ _ _ _ _ _ h g hz hz').mono ?_; rintro e w' ⟨rfl, rfl⟩))
    go_ret2
    exact ⟨by rw [E.out]; rfl, by (repeat' (first | (with_reducible exact Below.refl _ _) | (with_reducible assumption) | (with_reducible refine below_drewN ?_ _) | (with_reducible refine Below.drew ?_) | (with_reducible refine below_alloc ?_ _) | (with_reducible refine Below.alloc ?_ ?_ _) | (with_reducible refine Below.setCell ?_ ?_ _) | (with_reducible refine below_go ?_ (by with_reducible assumption)) | (with_reducible refine below_then (by with_reducible assumption) ?_ ?_) | go_size))⟩
  rcases h2 : inB x (-10000000) 10000000
  · have E := Lib.hid (farV_f (vs := l) (ws := m) (x := x) (by rw [h1, h2]; rfl))
    go_in
    go_wp2_with (first | (go_at_call 44; refine (spec_l23Asked _ _ _ _ _ _ _ h g hz hz').mono ?_; rintro e w' ⟨rfl, rfl⟩) | (go_at_call 32; refine (spec_l1In _ _ _ _).mono ?_; rintro e w' ⟨rfl, rfl⟩))
    go_ret2
    exact ⟨by rw [E.out]; rfl, by (repeat' (first | (with_reducible exact Below.refl _ _) | (with_reducible assumption) | (with_reducible refine below_drewN ?_ _) | (with_reducible refine Below.drew ?_) | (with_reducible refine below_alloc ?_ _) | (with_reducible refine Below.alloc ?_ ?_ _) | (with_reducible refine Below.setCell ?_ ?_ _) | (with_reducible refine below_go ?_ (by with_reducible assumption)) | (with_reducible refine below_then (by with_reducible assumption) ?_ ?_) | go_size))⟩
  · have E := Lib.hid (farV_t (vs := l) (ws := m) (x := x) (by rw [h1, h2]; rfl))
    go_in
    go_wp2_with (first | (go_at_call 44; refine (spec_l23Asked _ _ _ _ _ _ _ h g hz hz').mono ?_; rintro e w' ⟨rfl, rfl⟩) | (go_at_call 32; refine (spec_l1In _ _ _ _).mono ?_; rintro e w' ⟨rfl, rfl⟩) | (go_at_call 45; refine (spec_l23Far _ _ _ _ _ _ _ _ h g h1 (inB_t h2)).mono ?_; rintro e w1 ⟨rfl, hb⟩))
    go_ret2
    exact ⟨by rw [E.out]; rfl, by (repeat' (first | (with_reducible exact Below.refl _ _) | (with_reducible assumption) | (with_reducible refine below_drewN ?_ _) | (with_reducible refine Below.drew ?_) | (with_reducible refine below_alloc ?_ _) | (with_reducible refine Below.alloc ?_ ?_ _) | (with_reducible refine Below.setCell ?_ ?_ _) | (with_reducible refine below_go ?_ (by with_reducible assumption)) | (with_reducible refine below_then (by with_reducible assumption) ?_ ?_) | go_size))⟩
set_option maxRecDepth 100000 in
theorem impl_SumFar (A B : Option Addr) (c d : Nat) (l m : List Int) (x : Int) (w : World) (h : Ints w A l) (g : Ints w B m) (hz : l.length ≤ 9223372036854775807) (hz' : m.length ≤ 9223372036854775807) :
    Calls Try.prog 29 #[.slice A l.length c, .slice B m.length d, .int .i64 x] w fun e w' => e = .returned (.tuple #[.int .i64 (farV l m x), .bool (askedB l m && inB x (-10000000) 10000000)]) ∧ Below w.heap.size w w' := by
  rcases h1 : askedB l m
  · have E := Lib.hid (farV_f (vs := l) (ws := m) (x := x) (by rw [h1]; rfl))
    go_in
    go_wp2_with (first | (go_at_call 46; refine (impl_goodValues _ _ _ _ _ _ _ h g hz hz').mono ?_; rintro e w' ⟨rfl, rfl⟩))
    go_ret2
    exact ⟨by rw [E.out]; rfl, by (repeat' (first | (with_reducible exact Below.refl _ _) | (with_reducible assumption) | (with_reducible refine below_drewN ?_ _) | (with_reducible refine Below.drew ?_) | (with_reducible refine below_alloc ?_ _) | (with_reducible refine Below.alloc ?_ ?_ _) | (with_reducible refine Below.setCell ?_ ?_ _) | (with_reducible refine below_go ?_ (by with_reducible assumption)) | (with_reducible refine below_then (by with_reducible assumption) ?_ ?_) | go_size))⟩
  rcases h2 : inB x (-10000000) 10000000
  · have E := Lib.hid (farV_f (vs := l) (ws := m) (x := x) (by rw [h1, h2]; rfl))
    go_in
    go_wp2_with (first | (go_at_call 46; refine (impl_goodValues _ _ _ _ _ _ _ h g hz hz').mono ?_; rintro e w' ⟨rfl, rfl⟩) | (go_at_call 31; refine (impl_within _ _ _ _).mono ?_; rintro e w' ⟨rfl, rfl⟩))
    go_ret2
    exact ⟨by rw [E.out]; rfl, by (repeat' (first | (with_reducible exact Below.refl _ _) | (with_reducible assumption) | (with_reducible refine below_drewN ?_ _) | (with_reducible refine Below.drew ?_) | (with_reducible refine below_alloc ?_ _) | (with_reducible refine Below.alloc ?_ ?_ _) | (with_reducible refine Below.setCell ?_ ?_ _) | (with_reducible refine below_go ?_ (by with_reducible assumption)) | (with_reducible refine below_then (by with_reducible assumption) ?_ ?_) | go_size))⟩
  · have E := Lib.hid (farV_t (vs := l) (ws := m) (x := x) (by rw [h1, h2]; rfl))
    obtain ⟨a1, a2, a3, a4, a5⟩ := askedB_t h1
    have hx := inB_t h2
    have A2 := Lib.hid a2; have A4 := Lib.hid a4; have A5 := Lib.hid a5
    clear a2 a4 a5
    go_in
    go_wp2_with (first | (go_at_call 46; refine (impl_goodValues _ _ _ _ _ _ _ h g hz hz').mono ?_; rintro e w' ⟨rfl, rfl⟩) | (go_at_call 31; refine (impl_within _ _ _ _).mono ?_; rintro e w' ⟨rfl, rfl⟩))
    go_loopw [8, 22] (fun s i wr => ∃ k : Nat, k ≤ l.length ∧ i = .int .i64 k ∧ s = .int .i64 (sumTo (farAt l m x) k) ∧ Below w.heap.size w wr) (fun _ i _ => l.length - (intOf i).toNat)
    case atStart => exact ⟨0, Nat.zero_le _, rfl, rfl, by (repeat' (first | (with_reducible exact Below.refl _ _) | (with_reducible assumption) | (with_reducible refine below_drewN ?_ _) | (with_reducible refine Below.drew ?_) | (with_reducible refine below_alloc ?_ _) | (with_reducible refine Below.alloc ?_ ?_ _) | (with_reducible refine Below.setCell ?_ ?_ _) | (with_reducible refine below_go ?_ (by with_reducible assumption)) | (with_reducible refine below_then (by with_reducible assumption) ?_ ?_) | go_size))⟩
    case round =>
      obtain ⟨k, hk, rfl, rfl, hb⟩ := hrel
      by_cases hlt : k < l.length
      · obtain ⟨b1, o1, v, rfl, hbb, hv, hc⟩ := (h.below hb (Nat.le_refl _)).at_int hlt
        have hlt2 : k < m.length := by rw [A4.out]; exact hlt
        obtain ⟨b2, o2, u, rfl, hbb2, hu, hc2⟩ := (g.below hb (Nat.le_refl _)).at_int hlt2
        have bv := allIn_t A2.out hv
        have bs := far_bd A2.out A5.out A4.out hx a1 hk
        have bf := farAt_bd A2.out A5.out A4.out hx hlt
        have F := Lib.hid (farAt_eq (x := x) hv hu)
        rw [F.out] at bf
        clear h g hv hu
        obtain ⟨s, hs⟩ : ∃ s, s = sumTo (farAt l m x) k := ⟨_, rfl⟩
        rw [← hs] at bs ⊢
        have HS := Lib.hid hs
        clear hs
        go_wp2
        go_quiet ((go_at_call 47; exact quiet_left (impl_abs _ _ (by omega))))
        go_wp2
        go_roundw
        case rel => exact ⟨k + 1, by omega, by go_num, by rw [sumTo, F.out, ← HS.out], by (repeat' (first | (with_reducible exact Below.refl _ _) | (with_reducible assumption) | (with_reducible refine below_drewN ?_ _) | (with_reducible refine Below.drew ?_) | (with_reducible refine below_alloc ?_ _) | (with_reducible refine Below.alloc ?_ ?_ _) | (with_reducible refine Below.setCell ?_ ?_ _) | (with_reducible refine below_go ?_ (by with_reducible assumption)) | (with_reducible refine below_then (by with_reducible assumption) ?_ ?_) | go_size))⟩
        case measure => simp [intOf]; omega
      · go_wp2
        go_ret2
        obtain rfl : k = l.length := by omega
        exact ⟨by rw [E.out]; rfl, by (repeat' (first | (with_reducible exact Below.refl _ _) | (with_reducible assumption) | (with_reducible refine below_drewN ?_ _) | (with_reducible refine Below.drew ?_) | (with_reducible refine below_alloc ?_ _) | (with_reducible refine Below.alloc ?_ ?_ _) | (with_reducible refine Below.setCell ?_ ?_ _) | (with_reducible refine below_go ?_ (by with_reducible assumption)) | (with_reducible refine below_then (by with_reducible assumption) ?_ ?_) | go_size))⟩
theorem law_SumFar (A : Option Addr) (c : Nat) (l : List Int) (B : Option Addr) (d : Nat) (m : List Int) (x : Int) (w : World) (h : Ints w A l) (_hm : l.length ≤ 9223372036854775807) (_hb : ∀ x ∈ l, -9223372036854775808 ≤ x ∧ x ≤ 9223372036854775807)
    (g : Ints w B m) (_gm : m.length ≤ 9223372036854775807) (_gb : ∀ x ∈ m, -9223372036854775808 ≤ x ∧ x ≤ 9223372036854775807) (_hx : -9223372036854775808 ≤ x ∧ x ≤ 9223372036854775807) :
    Calls Try.prog 8 #[.slice A l.length c, .slice B m.length d, .int .i64 x] w fun e w' => e = .returned (.bool true) ∧ Below w.heap.size w w' := by
  clear _hb _gb _hx
  by_cases hz : l.length ≤ 1048576
  · by_cases hz' : m.length ≤ 1048576
    · go_in
      go_wp2_with fail
      refine (laws_toIntS _ _ _ _ h hz).mono ?_; rintro e w1 ⟨g1, rfl, h1, hb1⟩
      go_wp2_with fail
      refine (laws_toIntS _ _ _ _ (g.up hb1) hz').mono ?_; rintro e w2 ⟨g2, rfl, h2, hb2⟩
      go_wp2_with fail
      refine (spec_SumFar _ _ _ _ _ _ _ _ (h1.up hb2) h2 _hm _gm).mono ?_; rintro e w3 ⟨rfl, hb3⟩
      go_wp2_with fail
      refine (laws_toIntS _ _ _ _ (((h.up hb1).up hb2).up hb3) hz).mono ?_; rintro e w4 ⟨g4, rfl, h4, hb4⟩
      go_wp2_with fail
      refine (laws_toIntS _ _ _ _ ((((g.up hb1).up hb2).up hb3).up hb4) hz').mono ?_; rintro e w5 ⟨g5, rfl, h5, hb5⟩
      go_wp2_with fail
      refine (impl_SumFar _ _ _ _ _ _ _ _ (h4.up hb5) h5 _hm _gm).mono ?_; rintro e w6 ⟨rfl, hb6⟩
      go_wp2_with fail
      refine (laws_toIntS _ _ _ _ ((((((h.up hb1).up hb2).up hb3).up hb4).up hb5).up hb6) hz).mono ?_; rintro e w7 ⟨g7, rfl, h7, hb7⟩
      go_wp2_with fail
      refine (laws_eqIntS _ _ _ _ _ _ _ (((h4.up hb5).up hb6).up hb7) h7 hz).mono ?_; rintro e w8 ⟨rfl, hb8⟩
      go_wp2_with fail
      refine (laws_toIntS _ _ _ _ ((((((((g.up hb1).up hb2).up hb3).up hb4).up hb5).up hb6).up hb7).up hb8) hz').mono ?_; rintro e w9 ⟨g9, rfl, h9, hb9⟩
      go_wp2_with fail
      refine (laws_eqIntS _ _ _ _ _ _ _ ((((h5.up hb6).up hb7).up hb8).up hb9) h9 hz').mono ?_; rintro e w10 ⟨rfl, hb10⟩
      go_wp2
      go_ret
      exact ⟨rfl, by (repeat' (first | (with_reducible exact Below.refl _ _) | (with_reducible assumption) | (with_reducible refine below_drewN ?_ _) | (with_reducible refine Below.drew ?_) | (with_reducible refine below_alloc ?_ _) | (with_reducible refine Below.alloc ?_ ?_ _) | (with_reducible refine Below.setCell ?_ ?_ _) | (with_reducible refine below_go ?_ (by with_reducible assumption)) | (with_reducible refine below_then (by with_reducible assumption) ?_ ?_) | go_size))⟩
    · go_in
      go_wp2
      go_ret
      exact ⟨rfl, by (repeat' (first | (with_reducible exact Below.refl _ _) | (with_reducible assumption) | (with_reducible refine below_drewN ?_ _) | (with_reducible refine Below.drew ?_) | (with_reducible refine below_alloc ?_ _) | (with_reducible refine Below.alloc ?_ ?_ _) | (with_reducible refine Below.setCell ?_ ?_ _) | (with_reducible refine below_go ?_ (by with_reducible assumption)) | (with_reducible refine below_then (by with_reducible assumption) ?_ ?_) | go_size))⟩
  · go_in
    go_wp2
    go_ret
    exact ⟨rfl, by (repeat' (first | (with_reducible exact Below.refl _ _) | (with_reducible assumption) | (with_reducible refine below_drewN ?_ _) | (with_reducible refine Below.drew ?_) | (with_reducible refine below_alloc ?_ _) | (with_reducible refine Below.alloc ?_ ?_ _) | (with_reducible refine Below.setCell ?_ ?_ _) | (with_reducible refine below_go ?_ (by with_reducible assumption)) | (with_reducible refine below_then (by with_reducible assumption) ?_ ?_) | go_size))⟩
end Go.Proofs.Ytegbannlhcgfaaa
