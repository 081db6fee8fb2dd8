/- The walks through touches: good ones and their heads, both sides. -/
import Derived.Test.YtmdmnjjlpefigaaW8d
import Derived.Test.YtmdmnjjlpefigaaMap
namespace Go.Proofs.Ytmdmnjjlpefigaa
set_option linter.unusedVariables false
set_option linter.unusedSimpArgs false
open Go.ChangeShapes Go.WideShapes Go.ChangeAt Go.RowKit Go.Deep
theorem letter_one {t : ByteArray} {k : Nat} (h : k < t.size) : letter t k = strOfNums [PlainAid.bt t k] := one_byte h
theorem letter_p {t : ByteArray} {k : Nat} (h : k < t.size) (e : PlainAid.bt t k = 112) : letter t k = ⟨#[112]⟩ := by rw [letter_one h, e]; rfl
theorem letter_b {t : ByteArray} {k : Nat} (h : k < t.size) (e : PlainAid.bt t k = 98) : letter t k = ⟨#[98]⟩ := by rw [letter_one h, e]; rfl
theorem letter_s {t : ByteArray} {k : Nat} (h : k < t.size) (e : PlainAid.bt t k = 115) : letter t k = ⟨#[115]⟩ := by rw [letter_one h, e]; rfl
theorem is_one {c : ByteArray} {x : UInt8} (h : (c.toList == [x]) = true) : c = ⟨#[x]⟩ := by
  have h1 : c.toList = [x] := by simpa using h
  have h2 : c.data.toList = [x] := by rw [← ByteArray.toList_eq]; exact h1
  exact ba_ext (t := ⟨#[x]⟩) h2
theorem isCl_letter {t : ByteArray} {k : Nat} (h : k < t.size) : isCl (letter t k) = callB t k := by
  have nn := PlainAid.bt_nonneg t k; have nl := PlainAid.bt_le t k
  by_cases e1 : PlainAid.bt t k = 112
  · rw [letter_p h e1, show callB t k = true from by simp [callB, e1]]; decide +kernel
  by_cases e2 : PlainAid.bt t k = 98
  · rw [letter_b h e2, show callB t k = true from by simp [callB, e2]]; decide +kernel
  by_cases e3 : PlainAid.bt t k = 115
  · rw [letter_s h e3, show callB t k = true from by simp [callB, e3]]; decide +kernel
  have hb : callB t k = false := by simp [callB, e1, e2, e3]
  rw [hb]
  have key : ∀ x : UInt8, (PlainAid.bt t k ≠ x.toNat) → ((letter t k).toList == [x]) = false := by
    intro x hx
    rcases hq : ((letter t k).toList == [x])
    · rfl
    · exfalso
      have e4 := is_one hq
      rw [letter_one h] at e4
      have e5 := congrArg nums e4
      rw [nums_strOf (by intro y hy; simp at hy; subst hy; omega)] at e5
      apply hx
      have e6 : nums ⟨#[x]⟩ = [(x.toNat : Int)] := by rfl
      rw [e6] at e5
      injection e5
  rw [isCl, isP, isB, isS, key 112 e1, key 98 e2, key 115 e3]
  rfl
set_option maxRecDepth 100000 in
theorem impl_areCalls {t : ByteArray} {w : World} (hz : t.size ≤ 16777216) :
    Calls Try.prog 170 #[.string t] w fun e w' => e = .returned (.bool ((List.range t.size).all (callB t))) ∧ w = w' := by
  have gb := PlainAid.get_bt t
  go_in
  go_wp2
  go_loopw [6] (fun i wr => ∃ k : Nat, k ≤ t.size ∧ i = .int .i64 k ∧ Hid (∀ j, j < k → callB t j = true) ∧ w = wr) (fun i _ => t.size - (intOf i).toNat)
  case atStart => exact ⟨0, Nat.zero_le _, rfl, Lib.hid (fun j hj => absurd hj (by omega)), rfl⟩
  case round =>
    obtain ⟨k, hk, rfl, HK, rfl⟩ := hrel
    by_cases hlt : k < t.size
    · go_wp2_with fail
      refine (impl_isCall (s := letter t k)).mono ?_; rintro e w' ⟨rfl, rfl⟩
      have E := Lib.hid (isCl_letter hlt)
      rcases hg : isCl (letter t k)
      · have e1 := Lib.hid (show (List.range t.size).all (callB t) = false by rw [List.all_eq_false]; exact ⟨k, List.mem_range.2 hlt, by rw [← E.out, hg]; simp⟩)
        go_wp2
        go_ret
        rw [e1.out]
        exact ⟨rfl, rfl⟩
      · have e1 := Lib.hid (show callB t k = true by rw [← E.out, hg])
        go_wp2
        go_roundw
        case rel => exact ⟨k + 1, by omega, by go_num, Lib.hid (upto_succ HK.out e1.out), trivial⟩
        case measure => simp [intOf]; omega
    · obtain rfl : k = t.size := by omega
      have e1 := Lib.hid (show (List.range t.size).all (callB t) = true by rw [List.all_eq_true]; exact fun j hj => HK.out j (List.mem_range.1 hj))
      go_wp2
      go_ret
      rw [e1.out]
      exact ⟨rfl, rfl⟩
theorem impl_GoodTouch {t : ByteArray} {w : World} (hz : t.size ≤ 16777216) :
    Calls Try.prog 127 #[.string t] w fun e w' => e = .returned (.bool (goodT t)) ∧ w = w' := by
  have HQ : Hid (goodT t = ((List.range t.size).all (callB t) && inB t.size 1 60)) := Lib.hid rfl
  by_cases h1 : t.size < 1
  · have hI : ¬ (1 : Int) ≤ (t.size : Int) := by omega
    have e1 := Lib.hid (show goodT t = false by rw [HQ.out, inB, decide_eq_false (by omega), Bool.and_false])
    go_in
    go_wp2
    go_ret
    rw [e1.out]
    exact ⟨rfl, rfl⟩
  · by_cases h2 : 60 < t.size
    · have hI : (1 : Int) ≤ (t.size : Int) := by omega
      have hJ : ¬ (t.size : Int) ≤ 60 := by omega
      have e1 := Lib.hid (show goodT t = false by rw [HQ.out, inB, decide_eq_false (by omega), Bool.and_false])
      go_in
      go_wp2
      go_ret
      rw [e1.out]
      exact ⟨rfl, rfl⟩
    · have hI : (1 : Int) ≤ (t.size : Int) := by omega
      have hJ : (t.size : Int) ≤ 60 := by omega
      have e1 := Lib.hid (show goodT t = (List.range t.size).all (callB t) by rw [HQ.out, inB, decide_eq_true (by omega), Bool.and_true])
      go_in
      go_wp2_with fail
      refine (impl_areCalls hz).mono ?_; rintro e w' ⟨rfl, rfl⟩
      go_wp2
      go_ret
      rw [e1.out]
      exact ⟨rfl, rfl⟩
set_option maxHeartbeats 1000000 in
theorem impl_goodFor {A : Option Addr} {n c : Nat} {nm : ByteArray} {st : Int} {l : List ByteArray} {kb ks : ByteArray} {t : ByteArray} {w : World} (hn : l.length = n) (h : Strs w A l) (hz : n ≤ 1048576) (hs : ∀ s ∈ l, s.size ≤ 16777216) (hnm : nm.size ≤ 16777216) (hst : I64 st) (hkb : kb.size ≤ 16777216) (hks : ks.size ≤ 16777216) (ht : t.size ≤ 16777216) :
    Calls Try.prog 81 #[.agg #[.string nm, .int .i64 st, .slice A n c], .agg #[.string kb, .string ks], .string t] w fun e w' => e = .returned (.bool (goodF nm st l kb ks t)) ∧ Below w.heap.size w w' := by
  have HQ : Hid (goodF nm st l kb ks t = (goodK nm st l kb ks && goodT t)) := Lib.hid rfl
  have b0 : Below w.heap.size w ((w.alloc (.cells ⟨[.string nm, .int .i64 st, .slice A n c]⟩ 42)).alloc (.cells ⟨[.string kb, .string ks]⟩ 44)) := by (repeat' (first | (with_reducible exact Below.refl _ _) | (with_reducible assumption) | (with_reducible refine below_drewN ?_ _) | (with_reducible refine Below.drew ?_) | (with_reducible refine below_alloc ?_ _) | (with_reducible refine Below.alloc ?_ ?_ _) | (with_reducible refine Below.setCell ?_ ?_ _) | (with_reducible refine below_go ?_ (by with_reducible assumption)) | (with_reducible refine below_then (by with_reducible assumption) ?_ ?_) | go_size))
  go_in
  go_wp2_with fail
  refine (impl_GoodCalls hn (h.up b0) hz hs hnm hst hkb hks).mono ?_; rintro e w1 ⟨rfl, hb1⟩
  rcases h1 : goodK nm st l kb ks
  · have e1 := Lib.hid (show goodF nm st l kb ks t = false by rw [HQ.out, h1]; rfl)
    go_wp2
    go_ret
    rw [e1.out]
    exact ⟨rfl, below_go b0 hb1⟩
  · have e1 := Lib.hid (show goodF nm st l kb ks t = goodT t by rw [HQ.out, h1]; rfl)
    go_wp2_with fail
    refine (impl_GoodTouch ht).mono ?_; rintro e w' ⟨rfl, rfl⟩
    go_wp2
    go_ret
    rw [e1.out]
    exact ⟨rfl, below_go b0 hb1⟩
set_option maxRecDepth 100000 in
theorem spec_l9Good {t : ByteArray} {w : World} (hz : t.size ≤ 16777216) :
    Calls Try.prog 126 #[.string t] w fun e w' => e = .returned (.bool (goodT t)) ∧ w = w' := by
  have gb := PlainAid.get_bt t
  have HQ : Hid (goodT t = ((List.range t.size).all (callB t) && inB t.size 1 60)) := Lib.hid rfl
  go_in
  go_wp2
  go_loopw [3] (fun i wr => ∃ k : Nat, k ≤ t.size ∧ i = .int .i64 k ∧ Hid (∀ j, j < k → callB t j = true) ∧ w = wr) (fun i _ => t.size - (intOf i).toNat)
  case atStart => exact ⟨0, Nat.zero_le _, rfl, Lib.hid (fun j hj => absurd hj (by omega)), rfl⟩
  case round =>
    obtain ⟨k, hk, rfl, HK, rfl⟩ := hrel
    by_cases hlt : k < t.size
    · go_wp2_with fail
      refine (spec_l8Call (s := letter t k)).mono ?_; rintro e w' ⟨rfl, rfl⟩
      have E := Lib.hid (isCl_letter hlt)
      rcases hg : isCl (letter t k)
      · have e1 := Lib.hid (show goodT t = false by
          rw [HQ.out, show (List.range t.size).all (callB t) = false from by rw [List.all_eq_false]; exact ⟨k, List.mem_range.2 hlt, by rw [← E.out, hg]; simp⟩, Bool.false_and])
        go_wp2
        go_ret
        rw [e1.out]
        exact ⟨rfl, rfl⟩
      · have e1 := Lib.hid (show callB t k = true by rw [← E.out, hg])
        go_wp2
        go_roundw
        case rel => exact ⟨k + 1, by omega, by go_num, Lib.hid (upto_succ HK.out e1.out), trivial⟩
        case measure => simp [intOf]; omega
    · obtain rfl : k = t.size := by omega
      have e1 := Lib.hid (show goodT t = inB t.size 1 60 by rw [HQ.out, show (List.range t.size).all (callB t) = true from by rw [List.all_eq_true]; exact fun j hj => HK.out j (List.mem_range.1 hj), Bool.true_and])
      go_wp2_with fail
      refine (spec_l1In _ _ _ _).mono ?_; rintro e w' ⟨rfl, rfl⟩
      go_wp2
      go_ret
      rw [e1.out]
      exact ⟨rfl, rfl⟩
theorem spec_GoodTouch {t : ByteArray} {w : World} (hz : t.size ≤ 16777216) :
    Calls Try.prog 80 #[.string t] w fun e w' => e = .returned (.bool (goodT t)) ∧ w = w' := by
  go_in
  go_wp2_with fail
  refine (spec_l9Good hz).mono ?_; rintro e w' ⟨rfl, rfl⟩
  go_wp2
  go_ret
  exact ⟨rfl, rfl⟩
end Go.Proofs.Ytmdmnjjlpefigaa
