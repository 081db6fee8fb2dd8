/- The walks through PricesOf, both sides. -/
import Derived.Test.YtdnbdnfoogjcmaaW22q
namespace Go.Proofs.Ytdnbdnfoogjcmaa
set_option linter.unusedVariables false
set_option linter.unusedSimpArgs false
open Go.ChangeShapes Go.WideShapes Go.ChangeAt Go.RowKit Go.Deep
theorem spec_PricesOf {A B : Option Addr} {n m c d : Nat} {a b : List Int} {s : Int} {w : World} (hn : a.length = n) (h : Ints w A a) (hz : n ≤ 1048576) (hm : b.length = m) (g : Ints w B b) (hz' : m ≤ 1048576) :
    Calls Try.prog 12 #[.slice A n c, .slice B m d, .int .i64 s] w fun e w' => ∃ vs A' c', e = .returned (.tuple #[.slice A' (pTabR a b s).length c', .bool (askedM a b s)]) ∧ Tab vs w' w.heap.size A' (pTabR a b s).length c' (pTabR a b s) ∧ Below w.heap.size w w' := by
  subst hn hm
  rcases h1 : askedM a b s
  · rw [pTabR_f h1]
    go_in
    go_wp2_with (first | (go_at_call 38; refine (spec_l22Asked rfl rfl h g (by omega) (by omega)).mono ?_; rintro e w' ⟨rfl, rfl⟩))
    go_ret2
    exact ⟨[], none, 0, rfl, Tab.nil _ _, by (repeat' (first | (with_reducible exact Below.refl _ _) | (with_reducible assumption) | (with_reducible refine below_drewN ?_ _) | (with_reducible refine Below.drew ?_) | (with_reducible refine below_alloc ?_ _) | (with_reducible refine Below.alloc ?_ ?_ _) | (with_reducible refine Below.setCell ?_ ?_ _) | (with_reducible refine below_go ?_ (by with_reducible assumption)) | (with_reducible refine below_then (by with_reducible assumption) ?_ ?_) | go_size))⟩
  · rw [pTabR_t h1, pTab_len]
    go_in
    go_wp2_with (first | (go_at_call 38; refine (spec_l22Asked rfl rfl h g (by omega) (by omega)).mono ?_; rintro e w' ⟨rfl, rfl⟩) | (go_at_call 44; refine (spec_l22Prices rfl rfl h g h1).mono ?_; rintro e w1 ⟨vs, gg, rfl, hT, hb1⟩))
    go_ret2
    exact ⟨vs, _, _, rfl, hT, hb1⟩
theorem impl_PricesOf {A B : Option Addr} {n m c d : Nat} {a b : List Int} {s : Int} {w : World} (hn : a.length = n) (h : Ints w A a) (hz : n ≤ 1048576) (hm : b.length = m) (g : Ints w B b) (hz' : m ≤ 1048576) :
    Calls Try.prog 11 #[.slice A n c, .slice B m d, .int .i64 s] w fun e w' => ∃ vs A' c', e = .returned (.tuple #[.slice A' (pTabR a b s).length c', .bool (askedM a b s)]) ∧ Tab vs w' w.heap.size A' (pTabR a b s).length c' (pTabR a b s) ∧ Below w.heap.size w w' := by
  subst hn hm
  rcases h1 : askedM a b s
  · rw [pTabR_f h1]
    go_in
    go_wp2_with (first | (go_at_call 35; refine (impl_goodMatching rfl rfl h g (by omega) (by omega)).mono ?_; rintro e w' ⟨rfl, rfl⟩))
    go_ret2
    exact ⟨[], none, 0, rfl, Tab.nil _ _, by (repeat' (first | (with_reducible exact Below.refl _ _) | (with_reducible assumption) | (with_reducible refine below_drewN ?_ _) | (with_reducible refine Below.drew ?_) | (with_reducible refine below_alloc ?_ _) | (with_reducible refine Below.alloc ?_ ?_ _) | (with_reducible refine Below.setCell ?_ ?_ _) | (with_reducible refine below_go ?_ (by with_reducible assumption)) | (with_reducible refine below_then (by with_reducible assumption) ?_ ?_) | go_size))⟩
  · rw [pTabR_t h1, pTab_len]
    go_in
    go_wp2_with (first | (go_at_call 35; refine (impl_goodMatching rfl rfl h g (by omega) (by omega)).mono ?_; rintro e w' ⟨rfl, rfl⟩) | (go_at_call 43; refine (impl_prices rfl rfl h g h1).mono ?_; rintro e w1 ⟨vs, gg, rfl, hT, hb1⟩))
    go_ret2
    exact ⟨vs, _, _, rfl, hT, hb1⟩
end Go.Proofs.Ytdnbdnfoogjcmaa
