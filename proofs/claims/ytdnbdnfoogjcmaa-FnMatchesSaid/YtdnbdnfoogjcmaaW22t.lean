/- The walks through the shape of a table of costs, both sides. -/
import Derived.Test.YtdnbdnfoogjcmaaW22c
import Derived.Test.YtdnbdnfoogjcmaaP22c
import Derived.Test.YtdnbdnfoogjcmaaTab
namespace Go.Proofs.Ytdnbdnfoogjcmaa
set_option linter.unusedVariables false
set_option linter.unusedSimpArgs false
open Go.ChangeShapes Go.WideShapes Go.ChangeAt Go.RowKit Go.Deep
set_option maxRecDepth 100000 in
theorem impl_goodTable {vs : List Hd} {A B C : Option Addr} {n m q c d f : Nat} {T : List (List Int)} {w : World} (hq : T.length = q) (h : TabR vs w C T) (hn : n ≤ 16777216) (hm : m ≤ 16777216) (hz : q ≤ 16777216) (hr : ∀ r ∈ T, r.length ≤ 16777216) :
    Calls Try.prog 45 #[.slice A n c, .slice B m d, .slice C q f] w fun e w' => e = .returned (.bool (shapeB n m T)) ∧ w = w' := by
  subst hq
  have E : Hid (shapeB n m T = ((List.range T.length).all (okRowB m T) && decide (T.length = n + 1))) := rfl
  have HR := Lib.hid hr
  clear hr
  by_cases hlen : T.length = n + 1
  · have hlI : ((T.length : Int) != (n : Int) + 1) = false := by rw [hlen]; simp
    have HLN := Lib.hid hlen
    clear hlen
    go_in
    go_wp2
    go_loopw [19] (fun i wr => ∃ k : Nat, k ≤ T.length ∧ i = .int .i64 k ∧ Hid (∀ j, j < k → okRowB m T j = true) ∧ w = wr) (fun i _ => T.length - (intOf i).toNat)
    case atStart => exact ⟨0, Nat.zero_le _, rfl, Lib.hid (fun j hj => absurd hj (by omega)), rfl⟩
    case round =>
      obtain ⟨k, hk, rfl, HK, rfl⟩ := hrel
      by_cases hlt : k < T.length
      · obtain ⟨b1, o1, v, rfl, _, hv, hcx⟩ := h.2.1.at_slc (k := k) (by rw [h.1]; exact hlt)
        obtain ⟨r, hr⟩ := some_of_lt hlt
        obtain ⟨e1, r1⟩ := h.2.2 k v r hv hr
        rw [e1] at hcx
        have lr := HR.out r (List.mem_of_getElem? hr)
        have ER := Lib.hid (okRowB_at (m := m) hr)
        have EW : Hid (rowB m r = (decide (r.length = m + 1) && allIn r 0 100000000)) := rfl
        obtain ⟨v0, v1, v2⟩ := v
        dsimp only at hcx r1
        clear hv hr e1
        by_cases hrm : r.length = m + 1
        · have hrI : ((r.length : Int) != (m : Int) + 1) = false := by rw [hrm]; simp
          have HRM := Lib.hid hrm
          clear hrm
          go_wp2
          go_loopw [31] (fun i wr => ∃ t : Nat, t ≤ r.length ∧ i = .int .i64 t ∧ Hid (∀ j, j < t → ∃ x, r[j]? = some x ∧ inB x 0 100000000 = true) ∧ w = wr) (fun i _ => r.length - (intOf i).toNat)
          case atStart => exact ⟨0, Nat.zero_le _, rfl, Lib.hid (fun j hj => absurd hj (by omega)), rfl⟩
          case round =>
            obtain ⟨t, ht, rfl, HT, rfl⟩ := hrel
            by_cases htr : t < r.length
            · obtain ⟨b2, o2, x, rfl, _, hx, hcy⟩ := r1.at_int htr
              have HX := Lib.hid hx
              clear hx h r1
              rcases hin : inB x 0 100000000
              · go_wp2_with (go_at_call 53; refine (impl_within _ _ _ _).mono ?_; rintro e w' ⟨rfl, rfl⟩)
                go_ret
                refine ⟨ret_bool ?_, rfl⟩
                rw [E.out, all_bad hlt (by rw [ER.out, EW.out, allIn_bad HX.out hin, Bool.and_false])]
              · go_wp2_with (go_at_call 53; refine (impl_within _ _ _ _).mono ?_; rintro e w' ⟨rfl, rfl⟩)
                go_roundw
                case rel => exact ⟨t + 1, by omega, by go_num, Lib.hid (upto_succ HT.out ⟨x, HX.out, hin⟩), trivial⟩
                case measure => simp [intOf]; omega
            · obtain rfl : t = r.length := by omega
              have e0 := Lib.hid (show okRowB m T k = true by rw [ER.out, EW.out, allIn_good (fun j hj => HT.out j hj), decide_eq_true HRM.out]; rfl)
              go_wp2
              go_roundw
              case rel => exact ⟨k + 1, by omega, by go_num, Lib.hid (upto_succ HK.out e0.out), trivial⟩
              case measure => simp [intOf]; omega
        · have hrI : ((r.length : Int) != (m : Int) + 1) = true := bne_iff_ne.2 (by omega)
          have e0 := Lib.hid (show okRowB m T k = false by rw [ER.out, EW.out, decide_eq_false hrm]; rfl)
          clear hrm
          go_wp2
          go_ret
          refine ⟨ret_bool ?_, rfl⟩
          rw [E.out, all_bad hlt e0.out]
      · obtain rfl : k = T.length := by omega
        go_wp2
        go_ret
        refine ⟨ret_bool ?_, rfl⟩
        rw [E.out, all_good (fun j hj => HK.out j hj), decide_eq_true HLN.out]
  · have hlI : ((T.length : Int) != (n : Int) + 1) = true := bne_iff_ne.2 (by omega)
    have e0 := Lib.hid (show shapeB n m T = false by rw [E.out, decide_eq_false hlen, Bool.and_false])
    clear hlen
    go_in
    go_wp2
    go_ret
    exact ⟨ret_bool e0.out.symm, rfl⟩
set_option maxRecDepth 100000 in
theorem spec_l22Shape {vs : List Hd} {A B C : Option Addr} {n m q c d f : Nat} {T : List (List Int)} {w : World} (hq : T.length = q) (h : TabR vs w C T) (hn : n ≤ 16777216) (hm : m ≤ 16777216) (hz : q ≤ 16777216) (hr : ∀ r ∈ T, r.length ≤ 16777216) :
    Calls Try.prog 49 #[.slice A n c, .slice B m d, .slice C q f] w fun e w' => e = .returned (.bool (shapeB n m T)) ∧ w = w' := by
  subst hq
  have E : Hid (shapeB n m T = ((List.range T.length).all (okRowB m T) && decide (T.length = n + 1))) := rfl
  have HR := Lib.hid hr
  clear hr
  go_in
  go_wp2
  go_loopw [11] (fun i wr => ∃ k : Nat, k ≤ T.length ∧ i = .int .i64 k ∧ Hid (∀ j, j < k → okRowB m T j = true) ∧ w = wr) (fun i _ => T.length - (intOf i).toNat)
  case atStart => exact ⟨0, Nat.zero_le _, rfl, Lib.hid (fun j hj => absurd hj (by omega)), rfl⟩
  case round =>
    obtain ⟨k, hk, rfl, HK, rfl⟩ := hrel
    by_cases hlt : k < T.length
    · obtain ⟨b1, o1, v, rfl, _, hv, hcx⟩ := h.2.1.at_slc (k := k) (by rw [h.1]; exact hlt)
      obtain ⟨r, hr⟩ := some_of_lt hlt
      obtain ⟨e1, r1⟩ := h.2.2 k v r hv hr
      rw [e1] at hcx
      have lr := HR.out r (List.mem_of_getElem? hr)
      have ER := Lib.hid (okRowB_at (m := m) hr)
      have EW : Hid (rowB m r = (decide (r.length = m + 1) && allIn r 0 100000000)) := rfl
      obtain ⟨v0, v1, v2⟩ := v
      dsimp only at hcx r1
      clear hv hr e1 h
      by_cases hrm : r.length = m + 1
      · have hrI : ((r.length : Int) != (m : Int) + 1) = false := by rw [hrm]; simp
        have HRM := Lib.hid hrm
        clear hrm
        rcases hin : allIn r 0 100000000
        · go_wp2_with (go_at_call 73; refine (spec_l1All _ _ _ _ _ _ r1 (by omega)).mono ?_; rw [hin]; rintro e w' ⟨rfl, rfl⟩)
          go_ret
          refine ⟨ret_bool ?_, rfl⟩
          rw [E.out, all_bad hlt (by rw [ER.out, EW.out, hin, Bool.and_false])]
        · go_wp2_with (go_at_call 73; refine (spec_l1All _ _ _ _ _ _ r1 (by omega)).mono ?_; rw [hin]; rintro e w' ⟨rfl, rfl⟩)
          go_roundw
          case rel => exact ⟨k + 1, by omega, by go_num, Lib.hid (upto_succ HK.out (by rw [ER.out, EW.out, hin, decide_eq_true HRM.out]; rfl)), trivial⟩
          case measure => simp [intOf]; omega
      · have hrI : ((r.length : Int) != (m : Int) + 1) = true := bne_iff_ne.2 (by omega)
        have e0 := Lib.hid (show okRowB m T k = false by rw [ER.out, EW.out, decide_eq_false hrm]; rfl)
        clear hrm
        go_wp2
        go_ret
        refine ⟨ret_bool ?_, rfl⟩
        rw [E.out, all_bad hlt e0.out]
    · obtain rfl : k = T.length := by omega
      have e0 := Lib.hid (show shapeB n m T = decide (T.length = n + 1) by rw [E.out, all_good (fun j hj => HK.out j hj)])
      by_cases hlen : T.length = n + 1
      · have hlI : ((T.length : Int) == (n : Int) + 1) = true := beq_iff_eq.2 (by omega)
        have HLN := Lib.hid hlen
        clear hlen
        go_wp2
        go_ret
        exact ⟨ret_bool (by rw [e0.out, decide_eq_true HLN.out]), rfl⟩
      · have hlI : ((T.length : Int) == (n : Int) + 1) = false := beq_eq_false_iff_ne.2 (by omega)
        have HLN := Lib.hid (decide_eq_false hlen)
        clear hlen
        go_wp2
        go_ret
        exact ⟨ret_bool (by rw [e0.out, HLN.out]), rfl⟩
end Go.Proofs.Ytdnbdnfoogjcmaa
