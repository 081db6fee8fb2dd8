/- The walks through lists of strikes: the laws' own conversions and comparisons of them, the check on both sides. -/
import Derived.Test.YthffeljicohpdaaW0
import Derived.Test.YthffeljicohpdaaCstrike
namespace Go.Proofs.Ythffeljicohpdaa
set_option linter.unusedVariables false
set_option linter.unusedSimpArgs false
open Go.ChangeShapes Go.WideShapes Go.ChangeAt Go.RowKit Go.Deep

set_option maxRecDepth 100000 in
theorem impl_GoodStrikes {A : Option Addr} {n c : Nat} {l : List (Int × Int)} {w : World} (hn : l.length = n) (h : Recs strikeE 2 w A l) (hz : n ≤ 16777216) :
    Calls Try.prog 14 #[.slice A n c] w fun e w' => e = .returned (.bool (goodStrikes l)) ∧ Below w.heap.size w w' := by
  subst hn
  have HG : Hid (goodStrikes l = ((List.range l.length).all (okStrike l) && decide (l.length ≤ 2000))) := rfl
  go_in
  go_wp2
  go_loopw [7] (fun i wr => ∃ k : Nat, k ≤ l.length ∧ i = .int .i64 k ∧ Hid (∀ j, j < k → okStrike l j = true) ∧ Below w.heap.size w wr) (fun i _ => l.length - (intOf i).toNat)
  case atStart => exact ⟨0, Nat.zero_le _, rfl, Lib.hid (fun j hj => absurd hj (by omega)), by (repeat' (first | (with_reducible exact Below.refl _ _) | (with_reducible assumption) | (with_reducible refine below_drewN ?_ _) | (with_reducible refine Below.drew ?_) | (with_reducible refine below_alloc ?_ _) | (with_reducible refine Below.alloc ?_ ?_ _) | (with_reducible refine Below.setCell ?_ ?_ _) | (with_reducible refine below_go ?_ (by with_reducible assumption)) | (with_reducible refine below_then (by with_reducible assumption) ?_ ?_) | go_size))⟩
  case round =>
    obtain ⟨k, hk, rfl, HK, hb⟩ := hrel
    by_cases hlt : k < l.length
    · obtain ⟨x, hx⟩ := some_of_lt hlt
      have hr := h.below hb (Nat.le_refl _)
      obtain ⟨b1, o1, rfl, hbb, hc1, hc2⟩ := hr.at_2 hx
      have HX := Lib.hid hx
      clear hx
      rcases h1 : inB x.1 1 8
      · clear h hr
        go_wp2
        go_quiet ((first | (go_at_call 20; exact quiet_left (impl_isBell _ _ _)) | (go_at_call 21; exact quiet_left (impl_within _ _ _ _))))
        go_wp2
        go_ret
        refine ⟨ret_bool ?_, by (repeat' (first | (with_reducible exact Below.refl _ _) | (with_reducible assumption) | (with_reducible refine below_drewN ?_ _) | (with_reducible refine Below.drew ?_) | (with_reducible refine below_alloc ?_ _) | (with_reducible refine Below.alloc ?_ ?_ _) | (with_reducible refine Below.setCell ?_ ?_ _) | (with_reducible refine below_go ?_ (by with_reducible assumption)) | (with_reducible refine below_then (by with_reducible assumption) ?_ ?_) | go_size))⟩
        rw [HG.out, all_bad hlt (okStrike_bell HX.out h1)]
      rcases h2 : inB x.2 0 1000000
      · clear h hr
        go_wp2
        go_quiet ((first | (go_at_call 20; exact quiet_left (impl_isBell _ _ _)) | (go_at_call 21; exact quiet_left (impl_within _ _ _ _))))
        go_wp2
        go_ret
        refine ⟨ret_bool ?_, by (repeat' (first | (with_reducible exact Below.refl _ _) | (with_reducible assumption) | (with_reducible refine below_drewN ?_ _) | (with_reducible refine Below.drew ?_) | (with_reducible refine below_alloc ?_ _) | (with_reducible refine Below.alloc ?_ ?_ _) | (with_reducible refine Below.setCell ?_ ?_ _) | (with_reducible refine below_go ?_ (by with_reducible assumption)) | (with_reducible refine below_then (by with_reducible assumption) ?_ ?_) | go_size))⟩
        rw [HG.out, all_bad hlt (okStrike_time HX.out h2)]
      by_cases hk0 : 0 < k
      · obtain ⟨y, hy⟩ := some_of_lt (l := l) (k := k - 1) (by omega)
        obtain ⟨b2, o2, e, _, hd1, hd2⟩ := hr.at_2 hy
        injection e with e
        injection e with e1 e2
        subst e1 e2
        have E : Hid _ := Lib.hid (okStrike_pos hk0 HX.out hy h1 h2)
        clear h hr hy
        by_cases hxy : x.2 < y.2
        · go_wp2
          go_quiet ((first | (go_at_call 20; exact quiet_left (impl_isBell _ _ _)) | (go_at_call 21; exact quiet_left (impl_within _ _ _ _))))
          go_wp2
          go_ret
          refine ⟨ret_bool ?_, by (repeat' (first | (with_reducible exact Below.refl _ _) | (with_reducible assumption) | (with_reducible refine below_drewN ?_ _) | (with_reducible refine Below.drew ?_) | (with_reducible refine below_alloc ?_ _) | (with_reducible refine Below.alloc ?_ ?_ _) | (with_reducible refine Below.setCell ?_ ?_ _) | (with_reducible refine below_go ?_ (by with_reducible assumption)) | (with_reducible refine below_then (by with_reducible assumption) ?_ ?_) | go_size))⟩
          rw [HG.out, all_bad hlt (by rw [E.out]; simp [hxy])]
        · go_wp2
          go_quiet ((first | (go_at_call 20; exact quiet_left (impl_isBell _ _ _)) | (go_at_call 21; exact quiet_left (impl_within _ _ _ _))))
          go_wp2
          go_roundw
          case rel => exact ⟨k + 1, by omega, by go_num, Lib.hid (upto_succ HK.out (by rw [E.out]; simp; omega)), by (repeat' (first | (with_reducible exact Below.refl _ _) | (with_reducible assumption) | (with_reducible refine below_drewN ?_ _) | (with_reducible refine Below.drew ?_) | (with_reducible refine below_alloc ?_ _) | (with_reducible refine Below.alloc ?_ ?_ _) | (with_reducible refine Below.setCell ?_ ?_ _) | (with_reducible refine below_go ?_ (by with_reducible assumption)) | (with_reducible refine below_then (by with_reducible assumption) ?_ ?_) | go_size))⟩
          case measure => simp [intOf]; omega
      · have E : Hid _ := Lib.hid (okStrike_zero hk0 HX.out h1 h2)
        have hk1 : decide ((0 : Int) < (k : Int)) = false := decide_eq_false (by omega)
        clear h hr
        go_wp2
        go_quiet ((first | (go_at_call 20; exact quiet_left (impl_isBell _ _ _)) | (go_at_call 21; exact quiet_left (impl_within _ _ _ _))))
        go_wp2
        go_roundw
        case rel => exact ⟨k + 1, by omega, by go_num, Lib.hid (upto_succ HK.out E.out), by (repeat' (first | (with_reducible exact Below.refl _ _) | (with_reducible assumption) | (with_reducible refine below_drewN ?_ _) | (with_reducible refine Below.drew ?_) | (with_reducible refine below_alloc ?_ _) | (with_reducible refine Below.alloc ?_ ?_ _) | (with_reducible refine Below.setCell ?_ ?_ _) | (with_reducible refine below_go ?_ (by with_reducible assumption)) | (with_reducible refine below_then (by with_reducible assumption) ?_ ?_) | go_size))⟩
        case measure => simp [intOf]; omega
    · go_wp2
      go_ret
      refine ⟨ret_bool ?_, by (repeat' (first | (with_reducible exact Below.refl _ _) | (with_reducible assumption) | (with_reducible refine below_drewN ?_ _) | (with_reducible refine Below.drew ?_) | (with_reducible refine below_alloc ?_ _) | (with_reducible refine Below.alloc ?_ ?_ _) | (with_reducible refine Below.setCell ?_ ?_ _) | (with_reducible refine below_go ?_ (by with_reducible assumption)) | (with_reducible refine below_then (by with_reducible assumption) ?_ ?_) | go_size))⟩
      rw [HG.out, all_good (fun j hj => HK.out j (by omega))]
      exact decide_eq_decide.2 (by omega)

set_option maxRecDepth 100000 in
theorem spec_l21Good {A : Option Addr} {n c : Nat} {l : List (Int × Int)} {w : World} (hn : l.length = n) (h : Recs strikeE 2 w A l) (hz : n ≤ 16777216) :
    Calls Try.prog 11 #[.slice A n c] w fun e w' => e = .returned (.bool (goodStrikes l)) ∧ Below w.heap.size w w' := by
  subst hn
  have HG : Hid (goodStrikes l = ((List.range l.length).all (okStrike l) && decide (l.length ≤ 2000))) := rfl
  go_in
  go_wp2
  go_loopw [7] (fun i wr => ∃ k : Nat, k ≤ l.length ∧ i = .int .i64 k ∧ Hid (∀ j, j < k → okStrike l j = true) ∧ Below w.heap.size w wr) (fun i _ => l.length - (intOf i).toNat)
  case atStart => exact ⟨0, Nat.zero_le _, rfl, Lib.hid (fun j hj => absurd hj (by omega)), by (repeat' (first | (with_reducible exact Below.refl _ _) | (with_reducible assumption) | (with_reducible refine below_drewN ?_ _) | (with_reducible refine Below.drew ?_) | (with_reducible refine below_alloc ?_ _) | (with_reducible refine Below.alloc ?_ ?_ _) | (with_reducible refine Below.setCell ?_ ?_ _) | (with_reducible refine below_go ?_ (by with_reducible assumption)) | (with_reducible refine below_then (by with_reducible assumption) ?_ ?_) | go_size))⟩
  case round =>
    obtain ⟨k, hk, rfl, HK, hb⟩ := hrel
    by_cases hlt : k < l.length
    · obtain ⟨x, hx⟩ := some_of_lt hlt
      have hr := h.below hb (Nat.le_refl _)
      obtain ⟨b1, o1, rfl, hbb, hc1, hc2⟩ := hr.at_2 hx
      have HX := Lib.hid hx
      clear hx
      rcases h1 : inB x.1 1 8
      · clear h hr
        go_wp2
        go_quiet ((go_at_call 19; exact quiet_left (spec_l1In _ _ _ _)))
        go_wp2
        go_ret
        refine ⟨ret_bool ?_, by (repeat' (first | (with_reducible exact Below.refl _ _) | (with_reducible assumption) | (with_reducible refine below_drewN ?_ _) | (with_reducible refine Below.drew ?_) | (with_reducible refine below_alloc ?_ _) | (with_reducible refine Below.alloc ?_ ?_ _) | (with_reducible refine Below.setCell ?_ ?_ _) | (with_reducible refine below_go ?_ (by with_reducible assumption)) | (with_reducible refine below_then (by with_reducible assumption) ?_ ?_) | go_size))⟩
        rw [HG.out, all_bad hlt (okStrike_bell HX.out h1)]
      rcases h2 : inB x.2 0 1000000
      · clear h hr
        go_wp2
        go_quiet ((go_at_call 19; exact quiet_left (spec_l1In _ _ _ _)))
        go_wp2
        go_ret
        refine ⟨ret_bool ?_, by (repeat' (first | (with_reducible exact Below.refl _ _) | (with_reducible assumption) | (with_reducible refine below_drewN ?_ _) | (with_reducible refine Below.drew ?_) | (with_reducible refine below_alloc ?_ _) | (with_reducible refine Below.alloc ?_ ?_ _) | (with_reducible refine Below.setCell ?_ ?_ _) | (with_reducible refine below_go ?_ (by with_reducible assumption)) | (with_reducible refine below_then (by with_reducible assumption) ?_ ?_) | go_size))⟩
        rw [HG.out, all_bad hlt (okStrike_time HX.out h2)]
      by_cases hk0 : 0 < k
      · obtain ⟨y, hy⟩ := some_of_lt (l := l) (k := k - 1) (by omega)
        obtain ⟨b2, o2, e, _, hd1, hd2⟩ := hr.at_2 hy
        injection e with e
        injection e with e1 e2
        subst e1 e2
        have E : Hid _ := Lib.hid (okStrike_pos hk0 HX.out hy h1 h2)
        clear h hr hy
        by_cases hxy : x.2 < y.2
        · go_wp2
          go_quiet ((go_at_call 19; exact quiet_left (spec_l1In _ _ _ _)))
          go_wp2
          go_ret
          refine ⟨ret_bool ?_, by (repeat' (first | (with_reducible exact Below.refl _ _) | (with_reducible assumption) | (with_reducible refine below_drewN ?_ _) | (with_reducible refine Below.drew ?_) | (with_reducible refine below_alloc ?_ _) | (with_reducible refine Below.alloc ?_ ?_ _) | (with_reducible refine Below.setCell ?_ ?_ _) | (with_reducible refine below_go ?_ (by with_reducible assumption)) | (with_reducible refine below_then (by with_reducible assumption) ?_ ?_) | go_size))⟩
          rw [HG.out, all_bad hlt (by rw [E.out]; simp [hxy])]
        · go_wp2
          go_quiet ((go_at_call 19; exact quiet_left (spec_l1In _ _ _ _)))
          go_wp2
          go_roundw
          case rel => exact ⟨k + 1, by omega, by go_num, Lib.hid (upto_succ HK.out (by rw [E.out]; simp; omega)), by (repeat' (first | (with_reducible exact Below.refl _ _) | (with_reducible assumption) | (with_reducible refine below_drewN ?_ _) | (with_reducible refine Below.drew ?_) | (with_reducible refine below_alloc ?_ _) | (with_reducible refine Below.alloc ?_ ?_ _) | (with_reducible refine Below.setCell ?_ ?_ _) | (with_reducible refine below_go ?_ (by with_reducible assumption)) | (with_reducible refine below_then (by with_reducible assumption) ?_ ?_) | go_size))⟩
          case measure => simp [intOf]; omega
      · have E : Hid _ := Lib.hid (okStrike_zero hk0 HX.out h1 h2)
        have hk1 : decide ((0 : Int) < (k : Int)) = false := decide_eq_false (by omega)
        clear h hr
        go_wp2
        go_quiet ((go_at_call 19; exact quiet_left (spec_l1In _ _ _ _)))
        go_wp2
        go_roundw
        case rel => exact ⟨k + 1, by omega, by go_num, Lib.hid (upto_succ HK.out E.out), by (repeat' (first | (with_reducible exact Below.refl _ _) | (with_reducible assumption) | (with_reducible refine below_drewN ?_ _) | (with_reducible refine Below.drew ?_) | (with_reducible refine below_alloc ?_ _) | (with_reducible refine Below.alloc ?_ ?_ _) | (with_reducible refine Below.setCell ?_ ?_ _) | (with_reducible refine below_go ?_ (by with_reducible assumption)) | (with_reducible refine below_then (by with_reducible assumption) ?_ ?_) | go_size))⟩
        case measure => simp [intOf]; omega
    · go_wp2
      go_ret
      refine ⟨ret_bool ?_, by (repeat' (first | (with_reducible exact Below.refl _ _) | (with_reducible assumption) | (with_reducible refine below_drewN ?_ _) | (with_reducible refine Below.drew ?_) | (with_reducible refine below_alloc ?_ _) | (with_reducible refine Below.alloc ?_ ?_ _) | (with_reducible refine Below.setCell ?_ ?_ _) | (with_reducible refine below_go ?_ (by with_reducible assumption)) | (with_reducible refine below_then (by with_reducible assumption) ?_ ?_) | go_size))⟩
      rw [HG.out, all_good (fun j hj => HK.out j (by omega))]
      exact decide_eq_decide.2 (by omega)

end Go.Proofs.Ythffeljicohpdaa
