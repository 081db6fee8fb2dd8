/- The form of a proof, both sides. -/
import Derived.Test.YtoheahbkopbmhaaDoorW20
import Derived.Test.YtoheahbkopbmhaaDoorW0
import Derived.PlainAid
namespace Go.Proofs.YtoheahbkopbmhaaDoor
set_option linter.unusedVariables false
set_option linter.unusedSimpArgs false
open Go.ChangeShapes Go.WideShapes Go.ChangeAt Go.RowKit Go.Deep
def digB (s : ByteArray) (k : Nat) : Bool := inB (PlainAid.bt s k) 48 57
def digOk (s : ByteArray) : Bool := (List.range s.size).all (digB s) && inB s.size 1 8
def goodLn (x : Line3) : Bool := digOk x.1 && (inB x.2.1 0 60 && inB x.2.2 0 40)
def goodPf (lH : List ByteArray) (lL : List Line3) : Bool := (decide (lH.length ≤ 61) && decide (lL.length ≤ 800)) && (lH.all digOk && lL.all goodLn)
theorem digB_eq (s : ByteArray) (k : Nat) : digB s k = (!decide (PlainAid.bt s k < 48) && !decide (57 < PlainAid.bt s k)) := by
  rw [digB, inB, Bool.eq_iff_iff]
  simp
theorem allIdx {α : Type} {l : List α} {f : α → Bool} (h : ∀ j, j < l.length → ∀ x, l[j]? = some x → f x = true) : l.all f = true := by
  rw [List.all_eq_true]
  intro x hx
  obtain ⟨j, hj⟩ := List.getElem?_of_mem hx
  exact h j (List.getElem?_eq_some_iff.1 hj).1 x hj
theorem allNot {α : Type} {l : List α} {f : α → Bool} {j : Nat} {x : α} (hx : l[j]? = some x) (h : f x = false) : l.all f = false := by
  rw [List.all_eq_false]
  exact ⟨x, List.mem_of_getElem? hx, by rw [h]; simp⟩
theorem uptoIdx {α : Type} {l : List α} {f : α → Bool} {k : Nat} (h : ∀ j, j < k → ∀ x, l[j]? = some x → f x = true) {y : α} (hy : l[k]? = some y) (hf : f y = true) : ∀ j, j < k + 1 → ∀ x, l[j]? = some x → f x = true := by
  intro j hj x hx
  by_cases e : j = k
  · subst e
    rw [hy] at hx
    injection hx with hx
    subst hx
    exact hf
  · exact h j (by omega) x hx
set_option maxRecDepth 100000 in
theorem impl_areDigits {s : ByteArray} {w : World} (hz : s.size ≤ 16777216) :
    Calls Tryd.prog 31 #[.string s] w fun e w' => e = .returned (.bool (digOk s)) ∧ w = w' := by
  have gb := PlainAid.get_bt s
  have HN : Hid (digOk s = ((List.range s.size).all (digB s) && inB s.size 1 8)) := Lib.hid rfl
  go_in
  go_wp2
  go_loopw [6] (fun i wr => ∃ k : Nat, k ≤ s.size ∧ i = .int .i64 k ∧ Hid (∀ j, j < k → digB s j = true) ∧ w = wr) (fun i _ => s.size - (intOf i).toNat)
  case atStart => exact ⟨0, Nat.zero_le _, rfl, Lib.hid (fun j hj => absurd hj (by omega)), rfl⟩
  case round =>
    obtain ⟨k, hk, rfl, HK, rfl⟩ := hrel
    by_cases hlt : k < s.size
    · by_cases h1 : PlainAid.bt s k < 48
      · have e1 := Lib.hid (show digOk s = false by rw [HN.out]; exact all_bad hlt (by rw [digB_eq, decide_eq_true h1]; rfl) _)
        go_wp2
        go_ret
        rw [e1.out]
        exact ⟨rfl, rfl⟩
      · by_cases h2 : 57 < PlainAid.bt s k
        · have e1 := Lib.hid (show digOk s = false by rw [HN.out]; exact all_bad hlt (by rw [digB_eq, decide_eq_true h2, decide_eq_false h1]; rfl) _)
          go_wp2
          go_ret
          rw [e1.out]
          exact ⟨rfl, rfl⟩
        · have e1 := Lib.hid (show digB s k = true by rw [digB_eq, decide_eq_false h2, decide_eq_false h1]; rfl)
          go_wp2
          go_roundw
          case rel => exact ⟨k + 1, by omega, by go_num, Lib.hid (upto_succ HK.out e1.out), trivial⟩
          case measure => simp [intOf]; omega
    · obtain rfl : k = s.size := by omega
      have e1 := Lib.hid (show digOk s = inB s.size 1 8 by rw [HN.out]; exact all_good (fun j hj => HK.out j hj) _)
      go_wp2_with fail
      refine (impl_within _ _ _ _).mono ?_; rintro e w' ⟨rfl, rfl⟩
      go_wp2
      go_ret
      exact ⟨ret_bool e1.out.symm, rfl⟩
set_option maxRecDepth 100000 in
theorem spec_l20Digits {s : ByteArray} {w : World} (hz : s.size ≤ 16777216) :
    Calls Tryd.prog 25 #[.string s] w fun e w' => e = .returned (.bool (digOk s)) ∧ w = w' := by
  have gb := PlainAid.get_bt s
  have HN : Hid (digOk s = ((List.range s.size).all (digB s) && inB s.size 1 8)) := Lib.hid rfl
  go_in
  go_wp2
  go_loopw [3] (fun i wr => ∃ k : Nat, k ≤ s.size ∧ i = .int .i64 k ∧ Hid (∀ j, j < k → digB s j = true) ∧ w = wr) (fun i _ => s.size - (intOf i).toNat)
  case atStart => exact ⟨0, Nat.zero_le _, rfl, Lib.hid (fun j hj => absurd hj (by omega)), rfl⟩
  case round =>
    obtain ⟨k, hk, rfl, HK, rfl⟩ := hrel
    by_cases hlt : k < s.size
    · by_cases h1 : PlainAid.bt s k < 48
      · have e1 := Lib.hid (show digOk s = false by rw [HN.out]; exact all_bad hlt (by rw [digB_eq, decide_eq_true h1]; rfl) _)
        go_wp2
        go_ret
        rw [e1.out]
        exact ⟨rfl, rfl⟩
      · by_cases h2 : 57 < PlainAid.bt s k
        · have e1 := Lib.hid (show digOk s = false by rw [HN.out]; exact all_bad hlt (by rw [digB_eq, decide_eq_true h2, decide_eq_false h1]; rfl) _)
          go_wp2
          go_ret
          rw [e1.out]
          exact ⟨rfl, rfl⟩
        · have e1 := Lib.hid (show digB s k = true by rw [digB_eq, decide_eq_false h2, decide_eq_false h1]; rfl)
          go_wp2
          go_roundw
          case rel => exact ⟨k + 1, by omega, by go_num, Lib.hid (upto_succ HK.out e1.out), trivial⟩
          case measure => simp [intOf]; omega
    · obtain rfl : k = s.size := by omega
      have e1 := Lib.hid (show digOk s = inB s.size 1 8 by rw [HN.out]; exact all_good (fun j hj => HK.out j hj) _)
      go_wp2_with fail
      refine (spec_l1In _ _ _ _).mono ?_; rintro e w' ⟨rfl, rfl⟩
      go_wp2
      go_ret
      exact ⟨ret_bool e1.out.symm, rfl⟩
set_option maxHeartbeats 2000000 in
set_option maxRecDepth 100000 in
theorem impl_goodProof {AH : Option Addr} {nH cH : Nat} {lH : List ByteArray} {AL : Option Addr} {nL cL : Nat} {lL : List Line3} {w : World} (hnH : lH.length = nH) (hH : Strs w AH lH) (hnL : lL.length = nL) (hL : Recs lineE 3 w AL lL) (hzH : nH ≤ 1048576) (hzL : nL ≤ 1048576) (hsH : ∀ s ∈ lH, s.size ≤ 16777216) (hsL : ∀ x ∈ lL, x.1.size ≤ 16777216) :
    Calls Tryd.prog 16 #[.agg #[.slice AH nH cH, .slice AL nL cL]] w fun e w' => e = .returned (.bool (goodPf lH lL)) ∧ Below w.heap.size w w' := by
  have HQ : Hid (goodPf lH lL = ((decide (lH.length ≤ 61) && decide (lL.length ≤ 800)) && (lH.all digOk && lL.all goodLn))) := Lib.hid rfl
  have b0 : Below w.heap.size w (w.alloc (.cells ⟨[.slice AH nH cH, .slice AL nL cL]⟩ 25)) := by (repeat' (first | (with_reducible exact Below.refl _ _) | (with_reducible assumption) | (with_reducible refine below_drewN ?_ _) | (with_reducible refine Below.drew ?_) | (with_reducible refine below_alloc ?_ _) | (with_reducible refine Below.alloc ?_ ?_ _) | (with_reducible refine Below.setCell ?_ ?_ _) | (with_reducible refine below_go ?_ (by with_reducible assumption)) | (with_reducible refine below_then (by with_reducible assumption) ?_ ?_) | go_size))
  have K0 := Blk.at_ w 25 [.slice AH nH cH, .slice AL nL cL] (b := w.heap.size) rfl
  have HS := Lib.hid hsH
  have HT := Lib.hid hsL
  have HN := Lib.hid hnH
  have HM := Lib.hid hnL
  clear hsH hsL hnH hnL
  by_cases h1 : nH ≤ 61
  rotate_left
  · have e1 := Lib.hid (show goodPf lH lL = false by rw [HQ.out, HN.out, decide_eq_false h1]; rfl)
    have hI : (61 : Int) < (nH : Int) := by omega
    go_in
    go_wp2
    go_ret
    rw [e1.out]
    exact ⟨rfl, b0⟩
  by_cases h2 : nL ≤ 800
  rotate_left
  · have e1 := Lib.hid (show goodPf lH lL = false by rw [HQ.out, HM.out, decide_eq_false h2, Bool.and_false]; rfl)
    have hI : ¬ (61 : Int) < (nH : Int) := by omega
    have hJ : (800 : Int) < (nL : Int) := by omega
    go_in
    go_wp2
    go_ret
    rw [e1.out]
    exact ⟨rfl, b0⟩
  have hI : ¬ (61 : Int) < (nH : Int) := by omega
  have hJ : ¬ (800 : Int) < (nL : Int) := by omega
  have HW := Lib.hid (show (decide (lH.length ≤ 61) && decide (lL.length ≤ 800)) = true by rw [HN.out, HM.out, decide_eq_true h1, decide_eq_true h2]; rfl)
  go_in
  go_wp2
  obtain ⟨w0, hw0⟩ : ∃ u, u = (w.alloc (.cells #[.slice AH nH cH, .slice AL nL cL] 25)) := ⟨_, rfl⟩
  rw [← hw0] at b0 K0 ⊢
  clear hw0
  have H0 := Lib.hid (hH.up b0)
  have L0 := Lib.hid (hL.up b0)
  have k0 := K0.cell 0; have k1 := K0.cell 1
  simp only [List.getElem?_cons_zero, List.getElem?_cons_succ] at k0 k1
  clear hH hL K0
  go_loopw [20] (fun i wr => ∃ k : Nat, k ≤ nH ∧ i = .int .i64 k ∧ Hid (∀ j, j < k → ∀ x, lH[j]? = some x → digOk x = true) ∧ w0 = wr) (fun i _ => nH - (intOf i).toNat)
  case atStart => exact ⟨0, Nat.zero_le _, rfl, Lib.hid (fun j hj => absurd hj (by omega)), rfl⟩
  case round =>
    obtain ⟨k, hk, rfl, HK, rfl⟩ := hrel
    by_cases hlt : k < nH
    · obtain ⟨b1, o1, y, rfl, _, hy, hcy⟩ := H0.out.at_str (k := k) (by rw [HN.out]; exact hlt)
      have hys := HS.out y (List.mem_of_getElem? hy)
      have HY := Lib.hid hy
      clear hy
      go_wp2_with fail
      refine (impl_areDigits hys).mono ?_; rintro e w' ⟨rfl, rfl⟩
      rcases hg : digOk y
      · have e1 := Lib.hid (show goodPf lH lL = false by rw [HQ.out, allNot HY.out hg, Bool.false_and, Bool.and_false])
        go_wp2
        go_ret
        rw [e1.out]
        exact ⟨rfl, b0⟩
      · have e1 := Lib.hid hg
        clear hg
        go_wp2
        go_roundw
        case rel => exact ⟨k + 1, by omega, by go_num, Lib.hid (uptoIdx HK.out HY.out e1.out), trivial⟩
        case measure => simp [intOf]; omega
    · obtain rfl : nH = k := by omega
      have eH := Lib.hid (show lH.all digOk = true from allIdx (fun j hj => HK.out j (by rw [← HN.out]; exact hj)))
      clear HK
      go_wp2
      go_loopw [31] (fun i wr => ∃ k : Nat, k ≤ nL ∧ i = .int .i64 k ∧ Hid (∀ j, j < k → ∀ x, lL[j]? = some x → goodLn x = true) ∧ Below w0.heap.size w0 wr) (fun i _ => nL - (intOf i).toNat)
      case atStart => exact ⟨0, Nat.zero_le _, rfl, Lib.hid (fun j hj => absurd hj (by omega)), Below.refl _ _⟩
      case round =>
        obtain ⟨k, hk, rfl, HK, hb⟩ := hrel
        by_cases hlt : k < nL
        · obtain ⟨x, hx⟩ := some_of_lt (l := lL) (k := k) (by rw [HM.out]; exact hlt)
          obtain ⟨b1, o1, rfl, hbb, hc1, hc2, hc3⟩ := (L0.out.below hb (Nat.le_refl _)).at_3 hx
          have hxs := HT.out x (List.mem_of_getElem? hx)
          have HX := Lib.hid hx
          have HB := Lib.hid hb
          have HE : Hid (goodLn x = (digOk x.1 && (inB x.2.1 0 60 && inB x.2.2 0 40))) := Lib.hid rfl
          clear hx
          rcases i1 : digOk x.1
          · have e1 := Lib.hid (show goodPf lH lL = false by rw [HQ.out, allNot HX.out (show goodLn x = false by rw [HE.out, i1, Bool.false_and]), Bool.and_false, Bool.and_false])
            go_wp2_with (first | (go_at_call 31; refine (impl_areDigits hxs).mono ?_; rw [i1]; rintro e w' ⟨rfl, rfl⟩))
            go_ret
            rw [e1.out]
            exact ⟨rfl, by (repeat' (first | (with_reducible exact Below.refl _ _) | (with_reducible assumption) | (with_reducible refine below_drewN ?_ _) | (with_reducible refine Below.drew ?_) | (with_reducible refine below_alloc ?_ _) | (with_reducible refine Below.alloc ?_ ?_ _) | (with_reducible refine Below.setCell ?_ ?_ _) | (with_reducible refine below_go ?_ (by with_reducible assumption)) | (with_reducible refine below_then (by with_reducible assumption) ?_ ?_) | go_size))⟩
          rcases i2 : inB x.2.1 0 60
          · have e1 := Lib.hid (show goodPf lH lL = false by rw [HQ.out, allNot HX.out (show goodLn x = false by rw [HE.out, i1, i2]; rfl), Bool.and_false, Bool.and_false])
            go_wp2_with (first | (go_at_call 31; refine (impl_areDigits hxs).mono ?_; rw [i1]; rintro e w' ⟨rfl, rfl⟩) | (go_at_call 32; refine (impl_within _ _ _ _).mono ?_; rw [i2]; rintro e w' ⟨rfl, rfl⟩))
            go_ret
            rw [e1.out]
            exact ⟨rfl, by (repeat' (first | (with_reducible exact Below.refl _ _) | (with_reducible assumption) | (with_reducible refine below_drewN ?_ _) | (with_reducible refine Below.drew ?_) | (with_reducible refine below_alloc ?_ _) | (with_reducible refine Below.alloc ?_ ?_ _) | (with_reducible refine Below.setCell ?_ ?_ _) | (with_reducible refine below_go ?_ (by with_reducible assumption)) | (with_reducible refine below_then (by with_reducible assumption) ?_ ?_) | go_size))⟩
          rcases i3 : inB x.2.2 0 40
          · have e1 := Lib.hid (show goodPf lH lL = false by rw [HQ.out, allNot HX.out (show goodLn x = false by rw [HE.out, i1, i2, i3]; rfl), Bool.and_false, Bool.and_false])
            go_wp2_with (first | (go_at_call 31; refine (impl_areDigits hxs).mono ?_; rw [i1]; rintro e w' ⟨rfl, rfl⟩) | (go_at_call 32; refine (impl_within _ _ _ _).mono ?_; (first | rw [i3] | rw [i2]); rintro e w' ⟨rfl, rfl⟩))
            go_ret
            rw [e1.out]
            exact ⟨rfl, by (repeat' (first | (with_reducible exact Below.refl _ _) | (with_reducible assumption) | (with_reducible refine below_drewN ?_ _) | (with_reducible refine Below.drew ?_) | (with_reducible refine below_alloc ?_ _) | (with_reducible refine Below.alloc ?_ ?_ _) | (with_reducible refine Below.setCell ?_ ?_ _) | (with_reducible refine below_go ?_ (by with_reducible assumption)) | (with_reducible refine below_then (by with_reducible assumption) ?_ ?_) | go_size))⟩
          have e1 := Lib.hid (show goodLn x = true by rw [HE.out, i1, i2, i3]; rfl)
          go_wp2_with (first | (go_at_call 31; refine (impl_areDigits hxs).mono ?_; rw [i1]; rintro e w' ⟨rfl, rfl⟩) | (go_at_call 32; refine (impl_within _ _ _ _).mono ?_; (first | rw [i3] | rw [i2]); rintro e w' ⟨rfl, rfl⟩))
          go_roundw
          case rel => exact ⟨k + 1, by omega, by go_num, Lib.hid (uptoIdx HK.out HX.out e1.out), by (repeat' (first | (with_reducible exact Below.refl _ _) | (with_reducible assumption) | (with_reducible refine below_drewN ?_ _) | (with_reducible refine Below.drew ?_) | (with_reducible refine below_alloc ?_ _) | (with_reducible refine Below.alloc ?_ ?_ _) | (with_reducible refine Below.setCell ?_ ?_ _) | (with_reducible refine below_go ?_ (by with_reducible assumption)) | (with_reducible refine below_then (by with_reducible assumption) ?_ ?_) | go_size))⟩
          case measure => simp [intOf]; omega
        · obtain rfl : nL = k := by omega
          have eL := Lib.hid (show lL.all goodLn = true from allIdx (fun j hj => HK.out j (by rw [← HM.out]; exact hj)))
          have e1 := Lib.hid (show goodPf lH lL = true by rw [HQ.out, HW.out, eH.out, eL.out]; rfl)
          go_wp2
          go_ret
          rw [e1.out]
          exact ⟨rfl, below_go b0 hb⟩
set_option maxHeartbeats 2000000 in
set_option maxRecDepth 100000 in
theorem spec_l20Shape {AH : Option Addr} {nH cH : Nat} {lH : List ByteArray} {AL : Option Addr} {nL cL : Nat} {lL : List Line3} {w : World} (hnH : lH.length = nH) (hH : Strs w AH lH) (hnL : lL.length = nL) (hL : Recs lineE 3 w AL lL) (hzH : nH ≤ 1048576) (hzL : nL ≤ 1048576) (hsH : ∀ s ∈ lH, s.size ≤ 16777216) (hsL : ∀ x ∈ lL, x.1.size ≤ 16777216) :
    Calls Tryd.prog 11 #[.agg #[.slice AH nH cH, .slice AL nL cL]] w fun e w' => e = .returned (.bool (goodPf lH lL)) ∧ Below w.heap.size w w' := by
  have HQ : Hid (goodPf lH lL = ((decide (lH.length ≤ 61) && decide (lL.length ≤ 800)) && (lH.all digOk && lL.all goodLn))) := Lib.hid rfl
  have b0 : Below w.heap.size w (w.alloc (.cells ⟨[.slice AH nH cH, .slice AL nL cL]⟩ 25)) := by (repeat' (first | (with_reducible exact Below.refl _ _) | (with_reducible assumption) | (with_reducible refine below_drewN ?_ _) | (with_reducible refine Below.drew ?_) | (with_reducible refine below_alloc ?_ _) | (with_reducible refine Below.alloc ?_ ?_ _) | (with_reducible refine Below.setCell ?_ ?_ _) | (with_reducible refine below_go ?_ (by with_reducible assumption)) | (with_reducible refine below_then (by with_reducible assumption) ?_ ?_) | go_size))
  have K0 := Blk.at_ w 25 [.slice AH nH cH, .slice AL nL cL] (b := w.heap.size) rfl
  have HS := Lib.hid hsH
  have HT := Lib.hid hsL
  have HN := Lib.hid hnH
  have HM := Lib.hid hnL
  clear hsH hsL hnH hnL
  go_in
  go_wp2
  obtain ⟨w0, hw0⟩ : ∃ u, u = (w.alloc (.cells #[.slice AH nH cH, .slice AL nL cL] 25)) := ⟨_, rfl⟩
  rw [← hw0] at b0 K0 ⊢
  clear hw0
  have H0 := Lib.hid (hH.up b0)
  have L0 := Lib.hid (hL.up b0)
  have k0 := K0.cell 0; have k1 := K0.cell 1
  simp only [List.getElem?_cons_zero, List.getElem?_cons_succ] at k0 k1
  have KK := Lib.hid K0
  clear hH hL K0
  go_loopw [10] (fun i wr => ∃ k : Nat, k ≤ nH ∧ i = .int .i64 k ∧ Hid (∀ j, j < k → ∀ x, lH[j]? = some x → digOk x = true) ∧ w0 = wr) (fun i _ => nH - (intOf i).toNat)
  case atStart => exact ⟨0, Nat.zero_le _, rfl, Lib.hid (fun j hj => absurd hj (by omega)), rfl⟩
  case round =>
    obtain ⟨k, hk, rfl, HK, rfl⟩ := hrel
    by_cases hlt : k < nH
    · obtain ⟨b1, o1, y, rfl, _, hy, hcy⟩ := H0.out.at_str (k := k) (by rw [HN.out]; exact hlt)
      have hys := HS.out y (List.mem_of_getElem? hy)
      have HY := Lib.hid hy
      clear hy
      go_wp2_with fail
      refine (spec_l20Digits hys).mono ?_; rintro e w' ⟨rfl, rfl⟩
      rcases hg : digOk y
      · have e1 := Lib.hid (show goodPf lH lL = false by rw [HQ.out, allNot HY.out hg, Bool.false_and, Bool.and_false])
        go_wp2
        go_ret
        rw [e1.out]
        exact ⟨rfl, b0⟩
      · have e1 := Lib.hid hg
        clear hg
        go_wp2
        go_roundw
        case rel => exact ⟨k + 1, by omega, by go_num, Lib.hid (uptoIdx HK.out HY.out e1.out), trivial⟩
        case measure => simp [intOf]; omega
    · obtain rfl : nH = k := by omega
      have eH := Lib.hid (show lH.all digOk = true from allIdx (fun j hj => HK.out j (by rw [← HN.out]; exact hj)))
      clear HK
      go_wp2
      go_loopw [21] (fun i wr => ∃ k : Nat, k ≤ nL ∧ i = .int .i64 k ∧ Hid (∀ j, j < k → ∀ x, lL[j]? = some x → goodLn x = true) ∧ Below w0.heap.size w0 wr) (fun i _ => nL - (intOf i).toNat)
      case atStart => exact ⟨0, Nat.zero_le _, rfl, Lib.hid (fun j hj => absurd hj (by omega)), Below.refl _ _⟩
      case round =>
        obtain ⟨k, hk, rfl, HK, hb⟩ := hrel
        by_cases hlt : k < nL
        · obtain ⟨x, hx⟩ := some_of_lt (l := lL) (k := k) (by rw [HM.out]; exact hlt)
          obtain ⟨b1, o1, rfl, hbb, hc1, hc2, hc3⟩ := (L0.out.below hb (Nat.le_refl _)).at_3 hx
          have hxs := HT.out x (List.mem_of_getElem? hx)
          have HX := Lib.hid hx
          have HB := Lib.hid hb
          have HE : Hid (goodLn x = (digOk x.1 && (inB x.2.1 0 60 && inB x.2.2 0 40))) := Lib.hid rfl
          clear hx
          rcases i1 : digOk x.1
          · have e1 := Lib.hid (show goodPf lH lL = false by rw [HQ.out, allNot HX.out (show goodLn x = false by rw [HE.out, i1, Bool.false_and]), Bool.and_false, Bool.and_false])
            go_wp2_with (first | (go_at_call 25; refine (spec_l20Digits hxs).mono ?_; rw [i1]; rintro e w' ⟨rfl, rfl⟩))
            go_ret
            rw [e1.out]
            exact ⟨rfl, by (repeat' (first | (with_reducible exact Below.refl _ _) | (with_reducible assumption) | (with_reducible refine below_drewN ?_ _) | (with_reducible refine Below.drew ?_) | (with_reducible refine below_alloc ?_ _) | (with_reducible refine Below.alloc ?_ ?_ _) | (with_reducible refine Below.setCell ?_ ?_ _) | (with_reducible refine below_go ?_ (by with_reducible assumption)) | (with_reducible refine below_then (by with_reducible assumption) ?_ ?_) | go_size))⟩
          rcases i2 : inB x.2.1 0 60
          · have e1 := Lib.hid (show goodPf lH lL = false by rw [HQ.out, allNot HX.out (show goodLn x = false by rw [HE.out, i1, i2]; rfl), Bool.and_false, Bool.and_false])
            go_wp2_with (first | (go_at_call 25; refine (spec_l20Digits hxs).mono ?_; rw [i1]; rintro e w' ⟨rfl, rfl⟩) | (go_at_call 26; refine (spec_l1In _ _ _ _).mono ?_; rw [i2]; rintro e w' ⟨rfl, rfl⟩))
            go_ret
            rw [e1.out]
            exact ⟨rfl, by (repeat' (first | (with_reducible exact Below.refl _ _) | (with_reducible assumption) | (with_reducible refine below_drewN ?_ _) | (with_reducible refine Below.drew ?_) | (with_reducible refine below_alloc ?_ _) | (with_reducible refine Below.alloc ?_ ?_ _) | (with_reducible refine Below.setCell ?_ ?_ _) | (with_reducible refine below_go ?_ (by with_reducible assumption)) | (with_reducible refine below_then (by with_reducible assumption) ?_ ?_) | go_size))⟩
          rcases i3 : inB x.2.2 0 40
          · have e1 := Lib.hid (show goodPf lH lL = false by rw [HQ.out, allNot HX.out (show goodLn x = false by rw [HE.out, i1, i2, i3]; rfl), Bool.and_false, Bool.and_false])
            go_wp2_with (first | (go_at_call 25; refine (spec_l20Digits hxs).mono ?_; rw [i1]; rintro e w' ⟨rfl, rfl⟩) | (go_at_call 26; refine (spec_l1In _ _ _ _).mono ?_; (first | rw [i3] | rw [i2]); rintro e w' ⟨rfl, rfl⟩))
            go_ret
            rw [e1.out]
            exact ⟨rfl, by (repeat' (first | (with_reducible exact Below.refl _ _) | (with_reducible assumption) | (with_reducible refine below_drewN ?_ _) | (with_reducible refine Below.drew ?_) | (with_reducible refine below_alloc ?_ _) | (with_reducible refine Below.alloc ?_ ?_ _) | (with_reducible refine Below.setCell ?_ ?_ _) | (with_reducible refine below_go ?_ (by with_reducible assumption)) | (with_reducible refine below_then (by with_reducible assumption) ?_ ?_) | go_size))⟩
          have e1 := Lib.hid (show goodLn x = true by rw [HE.out, i1, i2, i3]; rfl)
          go_wp2_with (first | (go_at_call 25; refine (spec_l20Digits hxs).mono ?_; rw [i1]; rintro e w' ⟨rfl, rfl⟩) | (go_at_call 26; refine (spec_l1In _ _ _ _).mono ?_; (first | rw [i3] | rw [i2]); rintro e w' ⟨rfl, rfl⟩))
          go_roundw
          case rel => exact ⟨k + 1, by omega, by go_num, Lib.hid (uptoIdx HK.out HX.out e1.out), by (repeat' (first | (with_reducible exact Below.refl _ _) | (with_reducible assumption) | (with_reducible refine below_drewN ?_ _) | (with_reducible refine Below.drew ?_) | (with_reducible refine below_alloc ?_ _) | (with_reducible refine Below.alloc ?_ ?_ _) | (with_reducible refine Below.setCell ?_ ?_ _) | (with_reducible refine below_go ?_ (by with_reducible assumption)) | (with_reducible refine below_then (by with_reducible assumption) ?_ ?_) | go_size))⟩
          case measure => simp [intOf]; omega
        · obtain rfl : nL = k := by omega
          have eL := Lib.hid (show lL.all goodLn = true from allIdx (fun j hj => HK.out j (by rw [← HM.out]; exact hj)))
          have eC := Lib.hid (show goodPf lH lL = (decide (nH ≤ 61) && decide (nL ≤ 800)) by rw [HQ.out, eH.out, eL.out, HN.out, HM.out]; simp)
          have K0 := KK.out.up hb
          have c0 := K0.cell 0; have c1 := K0.cell 1
          simp only [List.getElem?_cons_zero, List.getElem?_cons_succ] at c0 c1
          by_cases h1 : nH ≤ 61
          · by_cases h2 : nL ≤ 800
            · have e1 := Lib.hid (show goodPf lH lL = true by rw [eC.out, decide_eq_true h1, decide_eq_true h2]; rfl)
              have hI : (nH : Int) ≤ 61 := by omega
              have hJ : (nL : Int) ≤ 800 := by omega
              go_wp2
              go_ret
              rw [e1.out]
              exact ⟨rfl, below_go b0 hb⟩
            · have e1 := Lib.hid (show goodPf lH lL = false by rw [eC.out, decide_eq_false h2, Bool.and_false])
              have hI : (nH : Int) ≤ 61 := by omega
              have hJ : ¬ (nL : Int) ≤ 800 := by omega
              go_wp2
              go_ret
              rw [e1.out]
              exact ⟨rfl, below_go b0 hb⟩
          · have e1 := Lib.hid (show goodPf lH lL = false by rw [eC.out, decide_eq_false h1, Bool.false_and])
            have hI : ¬ (nH : Int) ≤ 61 := by omega
            go_wp2
            go_ret
            rw [e1.out]
            exact ⟨rfl, below_go b0 hb⟩
end Go.Proofs.YtoheahbkopbmhaaDoor
