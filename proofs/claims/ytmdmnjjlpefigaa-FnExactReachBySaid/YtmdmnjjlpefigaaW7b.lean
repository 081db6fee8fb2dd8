/- The walks through the change between two rows, both sides. -/
import Derived.Test.YtmdmnjjlpefigaaP7c
import Derived.Test.YtmdmnjjlpefigaaW2c
import Derived.Test.YtmdmnjjlpefigaaW04a
import Derived.Test.YtmdmnjjlpefigaaW01b
import Derived.Test.YtmdmnjjlpefigaaP6s
import Derived.Test.YtmdmnjjlpefigaaP08
namespace Go.Proofs.Ytmdmnjjlpefigaa
set_option linter.unusedVariables false
set_option linter.unusedSimpArgs false
open Go.ChangeShapes Go.WideShapes Go.ChangeAt Go.RowKit Go.Deep
theorem chs_len {n : Nat} (h : n ≤ 8) : (chsRaw n).length ≤ 34 := by
  rw [chsRaw]
  exact Nat.le_trans (List.length_filter_le _ _) (by rw [List.length_map]; exact fromK_le h 1)
theorem btw_eq {a b : ByteArray} {k i : Nat} {sw : Bool} (h : PlainAid.bt a i = PlainAid.bt b i) : btwK a b (k + 1) i sw = btwK a b k (i + 1) sw := by
  rcases k with _ | k
  · show (if PlainAid.bt a i = PlainAid.bt b i then sw else false) = sw
    exact if_pos h
  · rw [btwK, if_pos h]
theorem btw_no1 {a b : ByteArray} {i : Nat} {sw : Bool} (h : ¬ PlainAid.bt a i = PlainAid.bt b i) : btwK a b 1 i sw = false := by rw [btwK, if_neg h]
theorem btw_swap {a b : ByteArray} {k i : Nat} {sw : Bool} (h : ¬ PlainAid.bt a i = PlainAid.bt b i) (h1 : PlainAid.bt a i = PlainAid.bt b (i + 1)) (h2 : PlainAid.bt a (i + 1) = PlainAid.bt b i) : btwK a b (k + 2) i sw = btwK a b k (i + 2) true := by
  rw [btwK, if_neg h, if_pos ⟨h1, h2⟩]
theorem btw_no {a b : ByteArray} {k i : Nat} {sw : Bool} (h : ¬ PlainAid.bt a i = PlainAid.bt b i) (h1 : ¬ (PlainAid.bt a i = PlainAid.bt b (i + 1) ∧ PlainAid.bt a (i + 1) = PlainAid.bt b i)) : btwK a b (k + 2) i sw = false := by
  rw [btwK, if_neg h, if_neg h1]
set_option maxHeartbeats 1000000 in
set_option maxRecDepth 100000 in
theorem impl_between {a b : ByteArray} {n : Nat} {w : World} (ha : a.size = n) (hb : b.size = n) (hn : n ≤ 8) :
    Calls Try.prog 110 #[.string a, .string b] w fun e w' => ∃ s, e = .returned (.tuple #[.string s, .bool (btwB a b)]) ∧ s.size ≤ 16 ∧ Below w.heap.size w w' := by
  have ga := PlainAid.get_bt a
  have gb := PlainAid.get_bt b
  have ha1 : a.size ≤ n := by omega
  have ha2 : n ≤ a.size := by omega
  have hb1 : b.size ≤ n := by omega
  have hb2 : n ≤ b.size := by omega
  have HB : Hid (btwB a b = btwK a b n 0 false) := Lib.hid (by rw [btwB, ha])
  have hr1 : n ≤ (roundsS a.size).size := by rw [rounds_size _ (by omega)]; omega
  clear ha hb
  go_in
  go_wp2
  go_loopw [6, 7, 8] (fun c sw i wr => ∃ (k i' : Nat) (s : ByteArray) (f : Bool), i' + k = n ∧ i = .int .i64 i' ∧ c = .string s ∧ sw = .bool f ∧ s.size ≤ i' ∧ Hid (btwB a b = btwK a b k i' f) ∧ Below w.heap.size w wr) (fun _ _ i _ => n + 2 - (intOf i).toNat)
  case atStart => exact ⟨n, 0, ByteArray.empty, false, by omega, rfl, rfl, rfl, Nat.le_refl _, HB, Below.refl _ _⟩
  case round =>
    obtain ⟨k, i, s, f, hik, rfl, rfl, rfl, hs, HK, hbl⟩ := hrel
    rcases k with _ | k
    · have hI : ¬ i < a.size := by omega
      have e1 := Lib.hid (show btwB a b = f by rw [HK.out, btwK])
      by_cases h0 : 0 < s.size
      · obtain ⟨e3, e4⟩ := some_bytes h0
        go_wp2
        go_ret2
        rw [e1.out]
        exact ⟨s, rfl, by omega, hbl⟩
      · obtain ⟨e3, e4⟩ := no_bytes h0
        go_wp2
        go_ret2
        rw [e1.out]
        exact ⟨_, rfl, by decide, hbl⟩
    · have hI : i < a.size := by omega
      have hJ : i < b.size := by omega
      by_cases hab : PlainAid.bt a i = PlainAid.bt b i
      · have e1 := Lib.hid (btw_eq (k := k) (sw := f) hab)
        have hab1 : (PlainAid.bt a i == PlainAid.bt b i) = true := by simpa using hab
        have HAB := Lib.hid hab
        clear hab
        go_wp2
        go_quiet (fail)
        go_wp2_with (first | (go_at_call 68; refine (impl_rounds (by omega)).mono ?_; rintro e w' ⟨rfl, rfl⟩))
        go_roundw
        case rel => exact ⟨k, i + 1, _, f, by omega, by go_num, rfl, rfl, by simp; omega, Lib.hid (by rw [HK.out, e1.out]), by (repeat' (first | (with_reducible exact Below.refl _ _) | (with_reducible assumption) | (with_reducible refine below_drewN ?_ _) | (with_reducible refine Below.drew ?_) | (with_reducible refine below_alloc ?_ _) | (with_reducible refine Below.alloc ?_ ?_ _) | (with_reducible refine Below.setCell ?_ ?_ _) | (with_reducible refine below_go ?_ (by with_reducible assumption)) | (with_reducible refine below_then (by with_reducible assumption) ?_ ?_) | go_size))⟩
        case measure => simp [intOf]; omega
      · have hab1 : (PlainAid.bt a i == PlainAid.bt b i) = false := by simpa using hab
        rcases k with _ | k
        · have e1 := Lib.hid (show btwB a b = false by rw [HK.out]; exact btw_no1 hab)
          have hI2 : ¬ i + 1 < a.size := by omega
          have hw := wrap_id (x := (i : Int) + 1) (by omega)
          have hd : decide ((i : Int) + 1 < (a.size : Int)) = false := decide_eq_false (by omega)
          clear hab
          go_wp2
          go_quiet (fail)
          go_wp2
          go_quiet (fail)
          clear hw hd
          go_wp2
          go_ret2
          rw [e1.out]
          exact ⟨_, rfl, by decide, by (repeat' (first | (with_reducible exact Below.refl _ _) | (with_reducible assumption) | (with_reducible refine below_drewN ?_ _) | (with_reducible refine Below.drew ?_) | (with_reducible refine below_alloc ?_ _) | (with_reducible refine Below.alloc ?_ ?_ _) | (with_reducible refine Below.setCell ?_ ?_ _) | (with_reducible refine below_go ?_ (by with_reducible assumption)) | (with_reducible refine below_then (by with_reducible assumption) ?_ ?_) | go_size))⟩
        · have hI2 : i + 1 < a.size := by omega
          have hJ2 : i + 1 < b.size := by omega
          by_cases h1 : PlainAid.bt a i = PlainAid.bt b (i + 1)
          · have h11 : (PlainAid.bt a i == PlainAid.bt b (i + 1)) = true := by simpa using h1
            by_cases h2 : PlainAid.bt a (i + 1) = PlainAid.bt b i
            · have h21 : (PlainAid.bt a (i + 1) == PlainAid.bt b i) = true := by simpa using h2
              have e1 := Lib.hid (show btwB a b = btwK a b k (i + 2) true by rw [HK.out]; exact btw_swap hab h1 h2)
              have hw := wrap_id (x := (i : Int) + 1) (by omega)
              have hd : decide ((i : Int) + 1 < (a.size : Int)) = true := decide_eq_true (by omega)
              have ht : ((i : Int) + 1).toNat = i + 1 := by omega
              clear hab h1 h2
              go_wp2
              go_quiet (fail)
              go_wp2
              go_quiet (fail)
              clear hw hd ht
              go_wp2
              go_roundw
              case rel => exact ⟨k, i + 2, s, true, by omega, by go_num, rfl, rfl, by omega, Lib.hid e1.out, by (repeat' (first | (with_reducible exact Below.refl _ _) | (with_reducible assumption) | (with_reducible refine below_drewN ?_ _) | (with_reducible refine Below.drew ?_) | (with_reducible refine below_alloc ?_ _) | (with_reducible refine Below.alloc ?_ ?_ _) | (with_reducible refine Below.setCell ?_ ?_ _) | (with_reducible refine below_go ?_ (by with_reducible assumption)) | (with_reducible refine below_then (by with_reducible assumption) ?_ ?_) | go_size))⟩
              case measure => simp [intOf]; omega
            · have h21 : (PlainAid.bt a (i + 1) == PlainAid.bt b i) = false := by simpa using h2
              have e1 := Lib.hid (show btwB a b = false by rw [HK.out]; exact btw_no hab (fun q => h2 q.2))
              have hw := wrap_id (x := (i : Int) + 1) (by omega)
              have hd : decide ((i : Int) + 1 < (a.size : Int)) = true := decide_eq_true (by omega)
              have ht : ((i : Int) + 1).toNat = i + 1 := by omega
              clear hab h1 h2
              go_wp2
              go_quiet (fail)
              go_wp2
              go_quiet (fail)
              clear hw hd ht
              go_wp2
              go_ret2
              rw [e1.out]
              exact ⟨_, rfl, by decide, by (repeat' (first | (with_reducible exact Below.refl _ _) | (with_reducible assumption) | (with_reducible refine below_drewN ?_ _) | (with_reducible refine Below.drew ?_) | (with_reducible refine below_alloc ?_ _) | (with_reducible refine Below.alloc ?_ ?_ _) | (with_reducible refine Below.setCell ?_ ?_ _) | (with_reducible refine below_go ?_ (by with_reducible assumption)) | (with_reducible refine below_then (by with_reducible assumption) ?_ ?_) | go_size))⟩
          · have h11 : (PlainAid.bt a i == PlainAid.bt b (i + 1)) = false := by simpa using h1
            have e1 := Lib.hid (show btwB a b = false by rw [HK.out]; exact btw_no hab (fun q => h1 q.1))
            have hw := wrap_id (x := (i : Int) + 1) (by omega)
            have hd : decide ((i : Int) + 1 < (a.size : Int)) = true := decide_eq_true (by omega)
            have ht : ((i : Int) + 1).toNat = i + 1 := by omega
            clear hab h1
            go_wp2
            go_quiet (fail)
            go_wp2
            go_quiet (fail)
            clear hw hd ht
            go_wp2
            go_ret2
            rw [e1.out]
            exact ⟨_, rfl, by decide, by (repeat' (first | (with_reducible exact Below.refl _ _) | (with_reducible assumption) | (with_reducible refine below_drewN ?_ _) | (with_reducible refine Below.drew ?_) | (with_reducible refine below_alloc ?_ _) | (with_reducible refine Below.alloc ?_ ?_ _) | (with_reducible refine Below.setCell ?_ ?_ _) | (with_reducible refine below_go ?_ (by with_reducible assumption)) | (with_reducible refine below_then (by with_reducible assumption) ?_ ?_) | go_size))⟩
theorem spec_l1Two {a b : ByteArray} {w : World} (ha : goodRow a = true) (hb : goodRow b = true) (e : a.size = b.size) :
    Calls Try.prog 156 #[.string a, .string b] w fun e w' => e = .returned (.bool true) ∧ Below w.heap.size w w' := by
  have h1 := goodRow_n ha; have h2 := goodRow_n hb
  have e1 : ((a.size : Int) == (b.size : Int)) = true := beq_iff_eq.2 (by omega)
  have HA := Lib.hid ha; have HB := Lib.hid hb
  clear ha hb e
  go_in
  go_wp2_with fail
  refine (spec_l1Row (by omega)).mono ?_; rw [HA.out]; rintro e w1 ⟨rfl, hb1⟩
  go_wp2_with fail
  refine (spec_l1Row (by omega)).mono ?_; rw [HB.out]; rintro e w2 ⟨rfl, hb2⟩
  go_wp2
  go_ret
  exact ⟨rfl, below_go hb1 hb2⟩
set_option maxRecDepth 100000 in
theorem spec_BetweenRows {a b : ByteArray} {w : World} (ha : goodRow a = true) (hb : goodRow b = true) (e : a.size = b.size) :
    Calls Try.prog 107 #[.string a, .string b] w fun e w' => ∃ s, e = .returned (.tuple #[.string s, .bool (btwB a b)]) ∧ s.size ≤ 16 ∧ Below w.heap.size w w' := by
  have h1 := goodRow_n ha
  have HC := Lib.hid (btw_change ha e)
  have HE := Lib.hid e
  clear e
  go_in
  go_wp2_with fail
  refine (spec_l1Two ha hb HE.out).mono ?_; rintro e w1 ⟨rfl, hb1⟩
  go_wp2_with fail
  refine (spec_l2All (by omega)).mono ?_; rintro e w2 ⟨A, c, L, rfl, ho, hp, hb2⟩
  have hB2 := below_go hb1 hb2
  have HL := Lib.hid (show (∃ c ∈ L, applyR a c = b) ↔ btwB a b = true from by
    rw [HC.out]
    exact ⟨fun ⟨c, hc, he⟩ => ⟨c, hp.subset hc, he⟩, fun ⟨c, hc, he⟩ => ⟨c, hp.symm.subset hc, he⟩⟩)
  have HG := Lib.hid (show ∀ c ∈ L, c.size ≤ 6 from fun c hc => goodChange_small (mem_chs.1 (hp.subset hc)).2)
  have hll : L.length ≤ 34 := by rw [hp.length_eq]; exact chs_len (by omega)
  clear ha hb hp
  go_wp2
  go_loopw [16] (fun i wr => ∃ k : Nat, k ≤ L.length ∧ i = .int .i64 k ∧ Hid (∀ j c, j < k → L[j]? = some c → applyR a c ≠ b) ∧ Below w2.heap.size w2 wr) (fun i _ => L.length - (intOf i).toNat)
  case atStart => exact ⟨0, Nat.zero_le _, rfl, Lib.hid (fun j c hj => absurd hj (by omega)), Below.refl _ _⟩
  case round =>
    obtain ⟨k, hk, rfl, HK, hb⟩ := hrel
    by_cases hlt : k < L.length
    · obtain ⟨b3, o3, x, rfl, _, hx, hcx⟩ := (ho.up hb).recs.at_str hlt
      have hxs := HG.out x (List.mem_of_getElem? hx)
      have HX := Lib.hid hx
      clear hx ho
      go_wp2_with fail
      refine (spec_l2Apply (by omega) (by omega)).mono ?_; rintro e w3 ⟨rfl, hb3⟩
      have hB3 := hb.trans (hb3.mono hb.size)
      by_cases hab : applyR a x = b
      · have e1 := Lib.hid (show btwB a b = true from HL.out.1 ⟨x, List.mem_of_getElem? HX.out, hab⟩)
        have e2 : ((applyR a x).toList == b.toList) = true := by rw [hab]; simp
        clear hab
        go_wp2
        go_ret2
        rw [e1.out]
        exact ⟨x, rfl, by omega, below_go hB2 hB3⟩
      · have e2 : ((applyR a x).toList == b.toList) = false := by
          rw [beq_eq_false_iff_ne]
          exact fun q => hab (toList_inj q)
        have HN := Lib.hid hab
        clear hab
        go_wp2
        go_roundw
        case rel => exact ⟨k + 1, by omega, by go_num, Lib.hid (fun j c hj hc => by
          rcases Nat.lt_succ_iff_lt_or_eq.1 hj with h | rfl
          · exact HK.out j c h hc
          · rw [HX.out] at hc; injection hc with hc; subst hc; exact HN.out), hB3⟩
        case measure => simp [intOf]; omega
    · have e1 := Lib.hid (show btwB a b = false by
        rcases h : btwB a b
        · rfl
        · obtain ⟨c, hc, he⟩ := HL.out.2 h
          obtain ⟨j, hj⟩ := List.getElem?_of_mem hc
          exact absurd he (HK.out j c (by have := (List.getElem?_eq_some_iff.1 hj).1; omega) hj))
      go_wp2
      go_ret2
      rw [e1.out]
      exact ⟨_, rfl, by decide, below_go hB2 hb⟩
end Go.Proofs.Ytmdmnjjlpefigaa
