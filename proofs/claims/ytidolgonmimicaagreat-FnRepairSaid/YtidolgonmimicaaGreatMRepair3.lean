/- Texts 3 of 6 that the claim leans on: plain laws and the walks' contracts, in order. -/
import Derived.Test.YtidolgonmimicaaGreatMRepair2
import Derived.Deep.DeepCutAuto
import Derived.BigRegion
import Derived.Maps.StringElems
import Derived.Test.YtidolgonmimicaaGreatRows
import Derived.StillTailTactics
import Derived.Laws.BytesArg
import Derived.Deep.RegionHeld3
set_option linter.unusedVariables false
set_option linter.unusedSimpArgs false
namespace Go.Proofs.YtidolgonmimicaaGreat
open Go.ChangeShapes Go.WideShapes Go.ChangeAt Go.RowKit Go.Deep
theorem lowB_eq (s : ByteArray) (k : Nat) : lowB s k = (!decide (PlainAid.bt s k < 97) && !decide (122 < PlainAid.bt s k)) := by
 rw [lowB, inB, Bool.eq_iff_iff]
 simp
set_option maxRecDepth 100000 in
theorem impl_isWord {s : ByteArray} {w : World} (hz : s.size ≤ 16777216) :
  Calls Tryz.prog 187 #[.string s] w fun e w' => e = .returned (.bool (nameOk s)) ∧ w = w' := by
 have gb := PlainAid.get_bt s
 have HN : Hid (nameOk s = ((List.range s.size).all (lowB s) && inB s.size 1 10)) := Lib.hid rfl
 go_in
 go_wp2
 go_loopw [6] (fun i wr => ∃ k : Nat, k ≤ s.size ∧ i = .int .i64 k ∧ Hid (∀ j, j < k → lowB s j = true) ∧ w = wr) (fun i _ => s.size - (intOf i).toNat)
 case atStart => exact ⟨0, Nat.zero_le _, rfl, Lib.hid (fun j hj => absurd hj (by omega)), rfl⟩
 case round =>
  obtain ⟨k, hk, rfl, HK, rfl⟩ := hrel
  by_cases hlt : k < s.size
  ·by_cases h1 : PlainAid.bt s k < 97
   ·have e1 := Lib.hid (show nameOk s = false by rw [HN.out]; exact all_bad hlt (by rw [lowB_eq, decide_eq_true h1]; rfl) _)
    go_wp2
    go_ret
    rw [e1.out]
    exact ⟨rfl, rfl⟩
   ·by_cases h2 : 122 < PlainAid.bt s k
    ·have e1 := Lib.hid (show nameOk s = false by rw [HN.out]; exact all_bad hlt (by rw [lowB_eq, decide_eq_true h2, decide_eq_false h1]; rfl) _)
     go_wp2
     go_ret
     rw [e1.out]
     exact ⟨rfl, rfl⟩
    ·have e1 := Lib.hid (show lowB s k = true by rw [lowB_eq, decide_eq_false h2, decide_eq_false h1]; rfl)
     go_wp2
     go_roundw
     case rel => exact ⟨k + 1, by omega, by go_num, Lib.hid (upto_succ HK.out e1.out), trivial⟩
     case measure => simp [intOf]; omega
  ·obtain rfl : k = s.size := by omega
   have e1 := Lib.hid (show nameOk s = inB s.size 1 10 by rw [HN.out]; exact all_good (fun j hj => HK.out j hj) _)
   by_cases h1 : 1 ≤ s.size
   ·go_wp2
    go_ret
    refine ⟨ret_bool ?_, rfl⟩
    rw [e1.out, inB]
    exact decide_eq_decide.2 (by omega)
   ·have hI : ¬ (1 : Int) ≤ (s.size : Int) := by omega
    go_wp2
    go_ret
    refine ⟨ret_bool ?_, rfl⟩
    rw [e1.out, inB, decide_eq_false (by omega)]
set_option maxRecDepth 100000 in
theorem spec_l4Name {s : ByteArray} {w : World} (hz : s.size ≤ 16777216) :
  Calls Tryz.prog 183 #[.string s] w fun e w' => e = .returned (.bool (nameOk s)) ∧ w = w' := by
 have gb := PlainAid.get_bt s
 have HN : Hid (nameOk s = ((List.range s.size).all (lowB s) && inB s.size 1 10)) := Lib.hid rfl
 go_in
 go_wp2
 go_loopw [3] (fun i wr => ∃ k : Nat, k ≤ s.size ∧ i = .int .i64 k ∧ Hid (∀ j, j < k → lowB s j = true) ∧ w = wr) (fun i _ => s.size - (intOf i).toNat)
 case atStart => exact ⟨0, Nat.zero_le _, rfl, Lib.hid (fun j hj => absurd hj (by omega)), rfl⟩
 case round =>
  obtain ⟨k, hk, rfl, HK, rfl⟩ := hrel
  by_cases hlt : k < s.size
  ·by_cases h1 : PlainAid.bt s k < 97
   ·have e1 := Lib.hid (show nameOk s = false by rw [HN.out]; exact all_bad hlt (by rw [lowB_eq, decide_eq_true h1]; rfl) _)
    go_wp2
    go_ret
    rw [e1.out]
    exact ⟨rfl, rfl⟩
   ·by_cases h2 : 122 < PlainAid.bt s k
    ·have e1 := Lib.hid (show nameOk s = false by rw [HN.out]; exact all_bad hlt (by rw [lowB_eq, decide_eq_true h2, decide_eq_false h1]; rfl) _)
     go_wp2
     go_ret
     rw [e1.out]
     exact ⟨rfl, rfl⟩
    ·have e1 := Lib.hid (show lowB s k = true by rw [lowB_eq, decide_eq_false h2, decide_eq_false h1]; rfl)
     go_wp2
     go_roundw
     case rel => exact ⟨k + 1, by omega, by go_num, Lib.hid (upto_succ HK.out e1.out), trivial⟩
     case measure => simp [intOf]; omega
  ·obtain rfl : k = s.size := by omega
   have e1 := Lib.hid (show nameOk s = inB s.size 1 10 by rw [HN.out]; exact all_good (fun j hj => HK.out j hj) _)
   go_wp2_with fail
   refine (spec_l1In _ _ _ _).mono ?_; rintro e w' ⟨rfl, rfl⟩
   go_wp2
   go_ret
   exact ⟨ret_bool e1.out.symm, rfl⟩
set_option maxRecDepth 100000 in
theorem impl_areChanges {A : Option Addr} {N c : Nat} {st : Int} {l : List ByteArray} {w : World} (hN : l.length = N) (h : Strs w A l) (hz : N ≤ 1048576) (hs : ∀ s ∈ l, s.size ≤ 16777216) (hst : I64 st) :
  Calls Tryz.prog 188 #[.int .i64 st, .slice A N c] w fun e w' => e = .returned (.bool (inB l.length 1 40 && allCh st l)) ∧ Below w.heap.size w w' := by
 subst hN
 have HS := Lib.hid hs
 have HQ : Hid (allCh st l = (List.range l.length).all (okCh st l)) := Lib.hid rfl
 clear hs
 rcases hl : inB l.length 1 40
 ·by_cases h1 : l.length < 1
  ·have hI : (l.length : Int) < 1 := by omega
   go_in
   go_wp2
   go_ret
   exact ⟨rfl, Below.refl _ _⟩
  ·have hI : ¬ (l.length : Int) < 1 := by omega
   have hJ : (40 : Int) < (l.length : Int) := by
    rw [inB, decide_eq_false_iff_not] at hl; omega
   go_in
   go_wp2
   go_ret
   exact ⟨rfl, Below.refl _ _⟩
 ·have hb := inB_t hl
  have hI : ¬ (l.length : Int) < 1 := by omega
  have hJ : ¬ (40 : Int) < (l.length : Int) := by omega
  go_in
  go_wp2
  go_loopw [17] (fun i wr => ∃ k : Nat, k ≤ l.length ∧ i = .int .i64 k ∧ Hid (∀ j, j < k → okCh st l j = true) ∧ Below w.heap.size w wr) (fun i _ => l.length - (intOf i).toNat)
  case atStart => exact ⟨0, Nat.zero_le _, rfl, Lib.hid (fun j hj => absurd hj (by omega)), Below.refl _ _⟩
  case round =>
   obtain ⟨k, hk, rfl, HK, hb⟩ := hrel
   by_cases hlt : k < l.length
   ·obtain ⟨b1, o1, y, rfl, _, hy, hcy⟩ := (h.below hb (Nat.le_refl _)).at_str hlt
    have hys := HS.out y (List.mem_of_getElem? hy)
    have E := Lib.hid (okCh_at (n := st) hy)
    clear hy h
    go_wp2_with fail
    refine (impl_GoodChange hys).mono ?_; rintro e w1 ⟨rfl, hb1⟩
    have hbt := below_go hb hb1
    rcases hg : goodChange st y
    ·have e1 := Lib.hid (show allCh st l = false by rw [HQ.out]; exact all_no hlt (by rw [E.out, hg]))
     go_wp2
     go_ret
     rw [e1.out]
     exact ⟨rfl, hbt⟩
    ·have e1 := Lib.hid (show okCh st l k = true by rw [E.out, hg])
     go_wp2
     go_roundw
     case rel => exact ⟨k + 1, by omega, by go_num, Lib.hid (upto_succ HK.out e1.out), hbt⟩
     case measure => simp [intOf]; omega
   ·obtain rfl : k = l.length := by omega
    have e1 := Lib.hid (show allCh st l = true by rw [HQ.out]; exact all_yes (fun j hj => HK.out j hj))
    go_wp2
    go_ret
    rw [e1.out]
    exact ⟨rfl, hb⟩
theorem impl_GoodMethod {A : Option Addr} {n c : Nat} {nm : ByteArray} {st : Int} {l : List ByteArray} {w : World} (hn : l.length = n) (h : Strs w A l) (hz : n ≤ 1048576) (hs : ∀ s ∈ l, s.size ≤ 16777216) (hnm : nm.size ≤ 16777216) (hst : I64 st) :
  Calls Tryz.prog 98 #[.agg #[.string nm, .int .i64 st, .slice A n c]] w fun e w' => e = .returned (.bool (goodM nm st l)) ∧ Below w.heap.size w w' := by
 subst hn
 have HQ : Hid (goodM nm st l = (nameOk nm && (inB st 3 8 && (inB l.length 1 40 && allCh st l)))) := Lib.hid rfl
 have b0 : Below w.heap.size w (w.alloc (.cells ⟨[.string nm, .int .i64 st, .slice A l.length c]⟩ 25)) := by (repeat' (first | (with_reducible exact Below.refl _ _) | (with_reducible assumption) | (with_reducible refine below_drewN ?_ _) | (with_reducible refine Below.drew ?_) | (with_reducible refine below_alloc ?_ _) | (with_reducible refine Below.alloc ?_ ?_ _) | (with_reducible refine Below.setCell ?_ ?_ _) | (with_reducible refine below_go ?_ (by with_reducible assumption)) | (with_reducible refine below_then (by with_reducible assumption) ?_ ?_) | go_size))
 rcases hN : nameOk nm
 ·have e1 := Lib.hid (show goodM nm st l = false by rw [HQ.out, hN]; rfl)
  go_in
  go_wp2_with fail
  refine (impl_isWord hnm).mono ?_; rw [hN]; rintro e w' ⟨rfl, rfl⟩
  go_wp2
  go_ret
  rw [e1.out]
  exact ⟨rfl, b0⟩
 ·have e1 := Lib.hid (show goodM nm st l = (inB l.length 1 40 && allCh st l) by
   rw [HQ.out, hN]
   rcases hI : inB st 3 8
   ·rcases hl : inB l.length 1 40
    ·rfl
    ·have := inB_t hl
     have : allCh st l = false := all_no (k := 0) (by omega) (by
      obtain ⟨x, hx⟩ := some_of_lt (l := l) (k := 0) (by omega)
      rw [okCh_at hx]; exact goodChange_stage hI)
     rw [this]; rfl
   ·rfl)
  go_in
  go_wp2_with fail
  refine (impl_isWord hnm).mono ?_; rw [hN]; rintro e w' ⟨rfl, rfl⟩
  go_wp2_with fail
  refine (impl_areChanges rfl (h.up b0) hz hs hst).mono ?_; rintro e w1 ⟨rfl, hb1⟩
  go_wp2
  go_ret
  rw [e1.out]
  exact ⟨rfl, below_go b0 hb1⟩
theorem goodM_tail {nm : ByteArray} {st : Int} {l : List ByteArray} (ha : allCh st l = true) : goodM nm st l = (nameOk nm && (inB st 3 8 && inB l.length 1 40)) := by
 rw [goodM, ha, Bool.and_true]
theorem goodM_bad {nm : ByteArray} {st : Int} {l : List ByteArray} (ha : allCh st l = false) : goodM nm st l = false := by
 rw [goodM, ha, Bool.and_false, Bool.and_false, Bool.and_false]
set_option maxHeartbeats 1000000 in
set_option maxRecDepth 100000 in
theorem spec_l4Good {A : Option Addr} {n c : Nat} {nm : ByteArray} {st : Int} {l : List ByteArray} {w : World} (hn : l.length = n) (h : Strs w A l) (hz : n ≤ 1048576) (hs : ∀ s ∈ l, s.size ≤ 16777216) (hnm : nm.size ≤ 16777216) (hst : I64 st) :
  Calls Tryz.prog 93 #[.agg #[.string nm, .int .i64 st, .slice A n c]] w fun e w' => e = .returned (.bool (goodM nm st l)) ∧ Below w.heap.size w w' := by
 subst hn
 have HS := Lib.hid hs
 have HQ : Hid (allCh st l = (List.range l.length).all (okCh st l)) := Lib.hid rfl
 have b0 : Below w.heap.size w (w.alloc (.cells ⟨[.string nm, .int .i64 st, .slice A l.length c]⟩ 25)) := by (repeat' (first | (with_reducible exact Below.refl _ _) | (with_reducible assumption) | (with_reducible refine below_drewN ?_ _) | (with_reducible refine Below.drew ?_) | (with_reducible refine below_alloc ?_ _) | (with_reducible refine Below.alloc ?_ ?_ _) | (with_reducible refine Below.setCell ?_ ?_ _) | (with_reducible refine below_go ?_ (by with_reducible assumption)) | (with_reducible refine below_then (by with_reducible assumption) ?_ ?_) | go_size))
 have K0 := Blk.at_ w 25 [.string nm, .int .i64 st, .slice A l.length c] (b := w.heap.size) rfl
 have h := h.up b0
 clear hs
 go_in
 go_wp2
 obtain ⟨w0, hw0⟩ : ∃ u, u = (w.alloc (.cells #[.string nm, .int .i64 st, .slice A l.length c] 25)) := ⟨_, rfl⟩
 rw [← hw0] at b0 K0 h ⊢
 clear hw0
 have k0 := K0.cell 0; have k1 := K0.cell 1; have k2 := K0.cell 2
 simp only [List.getElem?_cons_zero, List.getElem?_cons_succ] at k0 k1 k2
 go_loopw [8] (fun i wr => ∃ k : Nat, k ≤ l.length ∧ i = .int .i64 k ∧ Hid (∀ j, j < k → okCh st l j = true) ∧ w0 = wr) (fun i _ => l.length - (intOf i).toNat)
 case atStart => exact ⟨0, Nat.zero_le _, rfl, Lib.hid (fun j hj => absurd hj (by omega)), rfl⟩
 case round =>
  obtain ⟨k, hk, rfl, HK, rfl⟩ := hrel
  by_cases hlt : k < l.length
  ·obtain ⟨b1, o1, y, rfl, _, hy, hcy⟩ := h.at_str hlt
   have hys := HS.out y (List.mem_of_getElem? hy)
   have E := Lib.hid (okCh_at (n := st) hy)
   clear hy h
   go_wp2_with fail
   refine (spec_l2Change hys hst).mono ?_; rintro e w' ⟨rfl, rfl⟩
   rcases hg : goodChange st y
   ·have e1 := Lib.hid (show goodM nm st l = false from goodM_bad (by rw [HQ.out]; exact all_no hlt (by rw [E.out, hg])))
    go_wp2
    go_ret
    rw [e1.out]
    exact ⟨rfl, b0⟩
   ·have e1 := Lib.hid (show okCh st l k = true by rw [E.out, hg])
    go_wp2
    go_roundw
    case rel => exact ⟨k + 1, by omega, by go_num, Lib.hid (upto_succ HK.out e1.out), trivial⟩
    case measure => simp [intOf]; omega
  ·obtain rfl : k = l.length := by omega
   have e1 := Lib.hid (show goodM nm st l = (nameOk nm && (inB st 3 8 && inB l.length 1 40)) from goodM_tail (by rw [HQ.out]; exact all_yes (fun j hj => HK.out j hj)))
   go_wp2_with fail
   refine (spec_l4Name hnm).mono ?_; rintro e w' ⟨rfl, rfl⟩
   rcases h1 : nameOk nm
   ·have e2 := Lib.hid (show goodM nm st l = false by rw [e1.out, h1]; rfl)
    go_wp2
    go_ret
    rw [e2.out]
    exact ⟨rfl, b0⟩
   ·go_wp2_with fail
    refine (spec_l1In _ _ _ _).mono ?_; rintro e w' ⟨rfl, rfl⟩
    rcases h2 : inB st 3 8
    ·have e2 := Lib.hid (show goodM nm st l = false by rw [e1.out, h1, h2]; rfl)
     go_wp2
     go_ret
     rw [e2.out]
     exact ⟨rfl, b0⟩
    ·have e2 := Lib.hid (show goodM nm st l = inB l.length 1 40 by rw [e1.out, h1, h2]; rfl)
     go_wp2_with fail
     refine (spec_l1In _ _ _ _).mono ?_; rintro e w' ⟨rfl, rfl⟩
     go_wp2
     go_ret
     rw [e2.out]
     exact ⟨rfl, b0⟩
set_option maxHeartbeats 1000000 in
theorem impl_GoodCalls {A : Option Addr} {n c : Nat} {nm : ByteArray} {st : Int} {l : List ByteArray} {kb ks : ByteArray} {w : World} (hn : l.length = n) (h : Strs w A l) (hz : n ≤ 1048576) (hs : ∀ s ∈ l, s.size ≤ 16777216) (hnm : nm.size ≤ 16777216) (hst : I64 st) (hkb : kb.size ≤ 16777216) (hks : ks.size ≤ 16777216) :
  Calls Tryz.prog 167 #[.agg #[.string nm, .int .i64 st, .slice A n c], .agg #[.string kb, .string ks]] w fun e w' => e = .returned (.bool (goodK nm st l kb ks)) ∧ Below w.heap.size w w' := by
 have HQ : Hid (goodK nm st l kb ks = (goodM nm st l && (goodChange st kb && goodChange st ks))) := Lib.hid rfl
 have b0 : Below w.heap.size w ((w.alloc (.cells ⟨[.string nm, .int .i64 st, .slice A n c]⟩ 25)).alloc (.cells ⟨[.string kb, .string ks]⟩ 27)) := by (repeat' (first | (with_reducible exact Below.refl _ _) | (with_reducible assumption) | (with_reducible refine below_drewN ?_ _) | (with_reducible refine Below.drew ?_) | (with_reducible refine below_alloc ?_ _) | (with_reducible refine Below.alloc ?_ ?_ _) | (with_reducible refine Below.setCell ?_ ?_ _) | (with_reducible refine below_go ?_ (by with_reducible assumption)) | (with_reducible refine below_then (by with_reducible assumption) ?_ ?_) | go_size))
 have K0 := (Blk.at_ w 25 [.string nm, .int .i64 st, .slice A n c] (b := w.heap.size) rfl).alloc (.cells ⟨[.string kb, .string ks]⟩ 27)
 have K1 := Blk.at_ (w.alloc (.cells ⟨[.string nm, .int .i64 st, .slice A n c]⟩ 25)) 27 [.string kb, .string ks] (b := w.heap.size + 1) (by simp)
 go_in
 go_wp2_with fail
 obtain ⟨w0, hw0⟩ : ∃ u, u = ((w.alloc (.cells #[.string nm, .int .i64 st, .slice A n c] 25)).alloc (.cells #[.string kb, .string ks] 27)) := ⟨_, rfl⟩
 rw [← hw0] at b0 K0 K1 ⊢
 clear hw0
 refine (impl_GoodMethod hn (h.up b0) hz hs hnm hst).mono ?_; rintro e w1 ⟨rfl, hb1⟩
 have hB1 := below_go b0 hb1
 rcases h1 : goodM nm st l
 ·have e1 := Lib.hid (show goodK nm st l kb ks = false by rw [HQ.out, h1]; rfl)
  go_wp2
  go_ret
  rw [e1.out]
  exact ⟨rfl, hB1⟩
 have K0 := K0.up hb1; have K1 := K1.up hb1
 have k1 := K0.cell 1; have q0 := K1.cell 0
 simp only [List.getElem?_cons_zero, List.getElem?_cons_succ] at k1 q0
 go_wp2_with fail
 refine (impl_GoodChange hkb).mono ?_; rintro e w2 ⟨rfl, hb2⟩
 have hB2 := below_go hB1 hb2
 rcases h2 : goodChange st kb
 ·have e1 := Lib.hid (show goodK nm st l kb ks = false by rw [HQ.out, h1, h2]; rfl)
  go_wp2
  go_ret
  rw [e1.out]
  exact ⟨rfl, hB2⟩
 have K0 := K0.up hb2; have K1 := K1.up hb2
 have k2 := K0.cell 1; have q1 := K1.cell 1
 simp only [List.getElem?_cons_zero, List.getElem?_cons_succ] at k2 q1
 clear k1 q0
 go_wp2_with fail
 refine (impl_GoodChange hks).mono ?_; rintro e w3 ⟨rfl, hb3⟩
 have e1 := Lib.hid (show goodK nm st l kb ks = goodChange st ks by rw [HQ.out, h1, h2]; rfl)
 go_wp2
 go_ret
 rw [e1.out]
 exact ⟨rfl, below_go hB2 hb3⟩
set_option maxHeartbeats 1000000 in
theorem spec_l8Good {A : Option Addr} {n c : Nat} {nm : ByteArray} {st : Int} {l : List ByteArray} {kb ks : ByteArray} {w : World} (hn : l.length = n) (h : Strs w A l) (hz : n ≤ 1048576) (hs : ∀ s ∈ l, s.size ≤ 16777216) (hnm : nm.size ≤ 16777216) (hst : I64 st) (hkb : kb.size ≤ 16777216) (hks : ks.size ≤ 16777216) :
  Calls Tryz.prog 117 #[.agg #[.string nm, .int .i64 st, .slice A n c], .agg #[.string kb, .string ks]] w fun e w' => e = .returned (.bool (goodK nm st l kb ks)) ∧ Below w.heap.size w w' := by
 have HQ : Hid (goodK nm st l kb ks = (goodM nm st l && (goodChange st kb && goodChange st ks))) := Lib.hid rfl
 have b0 : Below w.heap.size w ((w.alloc (.cells ⟨[.string nm, .int .i64 st, .slice A n c]⟩ 25)).alloc (.cells ⟨[.string kb, .string ks]⟩ 27)) := by (repeat' (first | (with_reducible exact Below.refl _ _) | (with_reducible assumption) | (with_reducible refine below_drewN ?_ _) | (with_reducible refine Below.drew ?_) | (with_reducible refine below_alloc ?_ _) | (with_reducible refine Below.alloc ?_ ?_ _) | (with_reducible refine Below.setCell ?_ ?_ _) | (with_reducible refine below_go ?_ (by with_reducible assumption)) | (with_reducible refine below_then (by with_reducible assumption) ?_ ?_) | go_size))
 have K0 := (Blk.at_ w 25 [.string nm, .int .i64 st, .slice A n c] (b := w.heap.size) rfl).alloc (.cells ⟨[.string kb, .string ks]⟩ 27)
 have K1 := Blk.at_ (w.alloc (.cells ⟨[.string nm, .int .i64 st, .slice A n c]⟩ 25)) 27 [.string kb, .string ks] (b := w.heap.size + 1) (by simp)
 go_in
 go_wp2_with fail
 obtain ⟨w0, hw0⟩ : ∃ u, u = ((w.alloc (.cells #[.string nm, .int .i64 st, .slice A n c] 25)).alloc (.cells #[.string kb, .string ks] 27)) := ⟨_, rfl⟩
 rw [← hw0] at b0 K0 K1 ⊢
 clear hw0
 refine (spec_l4Good hn (h.up b0) hz hs hnm hst).mono ?_; rintro e w1 ⟨rfl, hb1⟩
 have hB1 := below_go b0 hb1
 rcases h1 : goodM nm st l
 ·have e1 := Lib.hid (show goodK nm st l kb ks = false by rw [HQ.out, h1]; rfl)
  go_wp2
  go_ret
  rw [e1.out]
  exact ⟨rfl, hB1⟩
 have K0 := K0.up hb1; have K1 := K1.up hb1
 have k1 := K0.cell 1; have q0 := K1.cell 0; have q1 := K1.cell 1
 simp only [List.getElem?_cons_zero, List.getElem?_cons_succ] at k1 q0 q1
 go_wp2_with fail
 refine (spec_l2Change hkb hst).mono ?_; rintro e w' ⟨rfl, rfl⟩
 rcases h2 : goodChange st kb
 ·have e1 := Lib.hid (show goodK nm st l kb ks = false by rw [HQ.out, h1, h2]; rfl)
  go_wp2
  go_ret
  rw [e1.out]
  exact ⟨rfl, hB1⟩
 go_wp2_with fail
 refine (spec_l2Change hks hst).mono ?_; rintro e w' ⟨rfl, rfl⟩
 have e1 := Lib.hid (show goodK nm st l kb ks = goodChange st ks by rw [HQ.out, h1, h2]; rfl)
 go_wp2
 go_ret
 rw [e1.out]
 exact ⟨rfl, hB1⟩
theorem impl_isCall {s : ByteArray} {w : World} :
  Calls Tryz.prog 213 #[.string s] w fun e w' => e = .returned (.bool (isCl s)) ∧ w = w' := by
 have HQ : Hid (isCl s = (isP s || (isB s || isS s))) := Lib.hid rfl
 rcases h1 : isP s <;> rcases h2 : isB s <;> rcases h3 : isS s
 all_goals
  have e1 := HQ.out
  rw [h1, h2, h3] at e1
  have E1 := Lib.hid e1
  have a1 := Lib.hid h1; have a2 := Lib.hid h2; have a3 := Lib.hid h3
  clear e1 h1 h2 h3
  have g1 : (s.toList == [112]) = _ := a1.out
  have g2 : (s.toList == [98]) = _ := a2.out
  have g3 : (s.toList == [115]) = _ := a3.out
  go_in
  go_wp2
  go_ret
  rw [E1.out]
  exact ⟨rfl, rfl⟩
theorem spec_l8Call {s : ByteArray} {w : World} :
  Calls Tryz.prog 177 #[.string s] w fun e w' => e = .returned (.bool (isCl s)) ∧ w = w' := by
 have HQ : Hid (isCl s = (isP s || (isB s || isS s))) := Lib.hid rfl
 rcases h1 : isP s <;> rcases h2 : isB s <;> rcases h3 : isS s
 all_goals
  have e1 := HQ.out
  rw [h1, h2, h3] at e1
  have E1 := Lib.hid e1
  have a1 := Lib.hid h1; have a2 := Lib.hid h2; have a3 := Lib.hid h3
  clear e1 h1 h2 h3
  have g1 : (s.toList == [112]) = _ := a1.out
  have g2 : (s.toList == [98]) = _ := a2.out
  have g3 : (s.toList == [115]) = _ := a3.out
  go_in
  go_wp2
  go_ret
  rw [E1.out]
  exact ⟨rfl, rfl⟩
end Go.Proofs.YtidolgonmimicaaGreat
namespace Go.Proofs.YtidolgonmimicaaGreat
open Go.ChangeShapes Go.WideShapes Go.ChangeAt Go.RowKit Go.Deep
theorem lit_app_drew {w w' : World} {o : Obj} {n c : Nat} (hg : (w.alloc o).drew.grownBy w' (Value.slice (some ⟨w.heap.size, 0, none⟩) n c).ownBlock) : Below w.heap.size w w' :=
 (((Below.refl _ _).alloc (Nat.le_refl _) _).drew).trans (grown_base hg (by simp) (fun k hk => by injection hk with hk; dsimp only at hk; omega))
theorem lit_app_drew2 {w w' : World} {o o' : Obj} {n c : Nat} (hg : ((w.alloc o).alloc o').drew.grownBy w' (Value.slice (some ⟨w.heap.size, 0, none⟩) n c).ownBlock) : Below w.heap.size w w' :=
 ((((Below.refl _ _).alloc (Nat.le_refl _) _).alloc (by simp) _).drew).trans (grown_base hg (by simp; omega) (fun k hk => by injection hk with hk; dsimp only at hk; omega))
theorem lit_app_drew3 {w w' : World} {o o' : Obj} {n c : Nat} (hg : ((w.alloc o).alloc o').drew.grownBy w' (Value.slice (some ⟨w.heap.size + 1, 0, none⟩) n c).ownBlock) : Below w.heap.size w w' :=
 ((((Below.refl _ _).alloc (Nat.le_refl _) _).alloc (by simp) _).drew).trans (grown_base hg (by simp; omega) (fun k hk => by injection hk with hk; dsimp only at hk; omega))
theorem impl_withChanges {A : Option Addr} {n c : Nat} {nm : ByteArray} {st : Int} {w : World} {B : Option Addr} {m d : Nat} :
  Calls Tryz.prog 230 #[.agg #[.string nm, .int .i64 st, .slice A n c], .slice B m d] w fun e w' => e = .returned (.agg #[.string nm, .int .i64 st, .slice B m d]) ∧ Below w.heap.size w w' := by
 go_in
 go_wp2
 refine bodyPost_ret (v := .agg #[.string nm, .int .i64 st, .slice B m d]) (by simp [results, Tryz.results230, go_sem]) rfl ?_
 exact ⟨rfl, by (repeat' (first | (with_reducible exact Below.refl _ _) | (with_reducible assumption) | (with_reducible refine below_drewN ?_ _) | (with_reducible refine Below.drew ?_) | (with_reducible refine below_alloc ?_ _) | (with_reducible refine Below.alloc ?_ ?_ _) | (with_reducible refine Below.setCell ?_ ?_ _) | (with_reducible refine below_go ?_ (by with_reducible assumption)) | (with_reducible refine below_then (by with_reducible assumption) ?_ ?_) | go_size))⟩
theorem Owned.ne_blk {α : Type} {e : α → List Value} {s : Nat} {E : TypeId} {w : World} {base : Nat} {A : Option Addr} {n c : Nat} {l : List α} {p : Nat} {t : TypeId} {cs : List Value} (h : Owned e s E w base A n c l) (k : Blk w p t cs) (hE : E ≠ t) : ∀ q, (Value.slice A n c).ownBlock = some q → q ≠ p := by
 intro q hq e2
 rcases h.2.2.2 with ⟨hv, _⟩ | ⟨g, cap, cur, hv, _, hh, _⟩
 ·rw [hv] at hq; cases hq
 ·rw [hv] at hq
  injection hq with hq
  dsimp only at hq
  subst hq; subst e2
  unfold Blk at k
  rw [hh] at k
  injection k with k
  injection k with _ e3 _
  exact hE e3
theorem lead_fin {w0 w3 : World} {p base : Nat} {A2 : Option Addr} {n c2 : Nat} {l : List ByteArray} {nm : ByteArray} {st : Int} (KZ : Blk w3 p 25 [.string { data := #[] }, .int .i64 0, .slice none 0 0]) (ho : Owned strE 1 9 w3 base A2 n c2 l) (C3 : Below w0.heap.size w0 w3) (hp : w0.heap.size ≤ p) :
  Blk (((w3.setCell ⟨p, 0, none⟩ (.string nm)).setCell ⟨p, 1, none⟩ (.int .i64 st)).setCell ⟨p, 2, none⟩ (.slice A2 n c2)) p 25 [.string nm, .int .i64 st, .slice A2 n c2] ∧
   Owned strE 1 9 (((w3.setCell ⟨p, 0, none⟩ (.string nm)).setCell ⟨p, 1, none⟩ (.int .i64 st)).setCell ⟨p, 2, none⟩ (.slice A2 n c2)) base A2 n c2 l ∧
   Below w0.heap.size w0 (((w3.setCell ⟨p, 0, none⟩ (.string nm)).setCell ⟨p, 1, none⟩ (.int .i64 st)).setCell ⟨p, 2, none⟩ (.slice A2 n c2)) := by
 have hne := ho.ne_blk KZ (by decide)
 have g : w3.grownBy (((w3.setCell ⟨p, 0, none⟩ (.string nm)).setCell ⟨p, 1, none⟩ (.int .i64 st)).setCell ⟨p, 2, none⟩ (.slice A2 n c2)) (some p) :=
  grownBy_trans (grownBy_trans (only_set w3 (p := ⟨p, 0, none⟩) _) (only_set _ (p := ⟨p, 1, none⟩) _)) (only_set _ (p := ⟨p, 2, none⟩) _)
 exact ⟨((KZ.set_ 0 _).set_ 1 _).set_ 2 _, ho.kept g (fun k hk e => hne k hk (by injection e with e; exact e.symm)), ((C3.setCell (p := ⟨p, 0, none⟩) hp _).setCell (p := ⟨p, 1, none⟩) hp _).setCell (p := ⟨p, 2, none⟩) hp _⟩
set_option maxHeartbeats 1000000 in
set_option maxRecDepth 100000 in
theorem impl_calledLead {A : Option Addr} {n c : Nat} {nm : ByteArray} {st : Int} {l : List ByteArray} {kb ks : ByteArray} {s : ByteArray} {w : World} (hn : l.length = n) (h : Strs w A l) (hz : n ≤ 1048576) (hs : ∀ s ∈ l, s.size ≤ 16777216) (hnm : nm.size ≤ 16777216) (hst : I64 st) (h0 : 0 < n) :
  Calls Tryz.prog 198 #[.agg #[.string nm, .int .i64 st, .slice A n c], .agg #[.string kb, .string ks], .string s] w fun e w' => ∃ A' c', e = .returned (.agg #[.string nm, .int .i64 st, .slice A' n c']) ∧ Owned strE 1 9 w' w.heap.size A' n c' (l.set (n - 1) (chOf l kb ks s)) ∧ Below w.heap.size w w' := by
 obtain ⟨m, rfl⟩ : ∃ m, n = m + 1 := ⟨n - 1, by omega⟩
 have HN := Lib.hid hn
 clear hn
 have b0 : Below w.heap.size w (((w.alloc (.cells ⟨[.string nm, .int .i64 st, .slice A (m + 1) c]⟩ 25)).alloc (.cells ⟨[.string kb, .string ks]⟩ 27)).alloc (.cells ⟨[.string { data := #[] }, .int .i64 0, .slice none 0 0]⟩ 25)) := by (repeat' (first | (with_reducible exact Below.refl _ _) | (with_reducible assumption) | (with_reducible refine below_drewN ?_ _) | (with_reducible refine Below.drew ?_) | (with_reducible refine below_alloc ?_ _) | (with_reducible refine Below.alloc ?_ ?_ _) | (with_reducible refine Below.setCell ?_ ?_ _) | (with_reducible refine below_go ?_ (by with_reducible assumption)) | (with_reducible refine below_then (by with_reducible assumption) ?_ ?_) | go_size))
 have K0 := ((Blk.at_ w 25 [.string nm, .int .i64 st, .slice A (m + 1) c] (b := w.heap.size) rfl).alloc (.cells ⟨[.string kb, .string ks]⟩ 27)).alloc (.cells ⟨[.string { data := #[] }, .int .i64 0, .slice none 0 0]⟩ 25)
 have K1 := (Blk.at_ (w.alloc (.cells ⟨[.string nm, .int .i64 st, .slice A (m + 1) c]⟩ 25)) 27 [.string kb, .string ks] (b := w.heap.size + 1) (by simp)).alloc (.cells ⟨[.string { data := #[] }, .int .i64 0, .slice none 0 0]⟩ 25)
 have K2 := Blk.at_ ((w.alloc (.cells ⟨[.string nm, .int .i64 st, .slice A (m + 1) c]⟩ 25)).alloc (.cells ⟨[.string kb, .string ks]⟩ 27)) 25 [.string { data := #[] }, .int .i64 0, .slice none 0 0] (b := w.heap.size + 1 + 1) (by simp)
 go_in
 go_upto_region 1 with fail
 obtain ⟨w0, hw0⟩ : ∃ u, u = (((w.alloc (.cells #[.string nm, .int .i64 st, .slice A (m + 1) c] 25)).alloc (.cells #[.string kb, .string ks] 27)).alloc (.cells #[.string { data := #[] }, .int .i64 0, .slice none 0 0] 25)) := ⟨_, rfl⟩
 have sz0 : w0.heap.size = w.heap.size + 1 + 1 + 1 := by rw [hw0]; simp
 have sz0' : w0.heap.size ≤ w.heap.size + 3 := by omega
 have sz0'' : w.heap.size + 3 ≤ w0.heap.size := by omega
 rw [← hw0] at b0 K0 K1 K2 ⊢
 clear hw0 sz0
 have carry : Hid (∀ u : World, Below w0.heap.size w0 u → u.cell? ⟨w.heap.size, 0, none⟩ = some (.string nm) ∧ u.cell? ⟨w.heap.size, 1, none⟩ = some (.int .i64 st) ∧ u.cell? ⟨w.heap.size, 2, none⟩ = some (.slice A (m + 1) c)) := Lib.hid (fun u hu => by
  have L0 := K0.up hu
  exact ⟨by simpa using L0.cell 0, by simpa using L0.cell 1, by simpa using L0.cell 2⟩)
 have hr := Lib.hid (h.up b0)
 have HOV : Hid (Owned strE 1 9 ((w0.alloc (.cells #[.string { data := #[] }, .int .i64 0, .slice none 0 0] 25)).alloc (.cells #[] 9)) w0.heap.size (some ⟨w0.heap.size + 1, 0, none⟩) 0 0 ([] : List ByteArray)) := Lib.hid (by have q := Owned.empty (E := 9) strE_len (w0.alloc (.cells #[.string { data := #[] }, .int .i64 0, .slice none 0 0] 25)) (base := w0.heap.size) (by simp); simpa using q)
 go_cut [7] (fun s7 wx => ∃ (p : Nat) (A2 : Option Addr) (c2 : Nat), s7 = .pointer (some ⟨p, 0, none⟩) ∧ w0.heap.size ≤ p ∧ Blk wx p 25 [.string nm, .int .i64 st, .slice A2 (m + 1) c2] ∧ Owned strE 1 9 wx w0.heap.size A2 (m + 1) c2 l ∧ Below w0.heap.size w0 wx)
 case first =>
  go_region_held3 (fun u => u.cell? ⟨w.heap.size, 0, none⟩ = some (.string nm) ∧ u.cell? ⟨w.heap.size, 1, none⟩ = some (.int .i64 st) ∧ u.cell? ⟨w.heap.size, 2, none⟩ = some (.slice A (m + 1) c)) (first | exact carry.out _ C3 | exact carry.out _ (C3.alloc C3.size _) | exact carry.out _ (((C3.setCell (p := ⟨w2.heap.size, 0, none⟩) C2.size _).setCell (p := ⟨w2.heap.size, 1, none⟩) C2.size _).setCell (p := ⟨w2.heap.size, 2, none⟩) C2.size _) | exact carry.out _ (((C3.setCell (p := ⟨w0.heap.size + 1, 0, none⟩) (Nat.le_succ _) _).setCell (p := ⟨w0.heap.size + 1, 1, none⟩) (Nat.le_succ _) _).setCell (p := ⟨w0.heap.size + 1, 2, none⟩) (Nat.le_succ _) _) | exact carry.out _ (((C3.setCell (p := ⟨w0.heap.size, 0, none⟩) (Nat.le_refl _) _).setCell (p := ⟨w0.heap.size, 1, none⟩) (Nat.le_refl _) _).setCell (p := ⟨w0.heap.size, 2, none⟩) (Nat.le_refl _) _) | exact carry.out _ ((((Below.refl _ _).alloc (Nat.le_refl _) _).alloc (by simp) _).drew) | exact carry.out _ C2 | exact carry.out _ (C2.alloc C2.size _) | exact carry.out _ (((Below.refl _ _).alloc (Nat.le_refl _) _).drew) | exact carry.out _ (Below.refl _ _).drew) (first | (go_at_call 230; refine impl_withChanges.mono ?_; rintro e w3 ⟨rfl, hb3⟩; have KZ := KZ2.up hb3; have C3 := C2.trans (hb3.mono C2.size); have z0 := KZ.cell 0; have z1 := KZ.cell 1; have z2 := KZ.cell 2; simp only [List.getElem?_cons_zero, List.getElem?_cons_succ] at z0 z1 z2; have f0 := KZ.frozen 0; have f1 := KZ.frozen 1; have f2 := KZ.frozen 2) | (go_at_call 230; refine impl_withChanges.mono ?_; rintro e w3 ⟨rfl, hb3⟩; have C3 := C2.trans (hb3.mono C2.size)) | (go_at_call 230; refine impl_withChanges.mono ?_; rintro e w3 ⟨rfl, hb3⟩; have C3 := (C2.alloc C2.size _).trans (hb3.mono (by simp; have := C2.size; omega)); have KZ := (Blk.at_ w2 25 [.string { data := #[] }, .int .i64 0, .slice none 0 0] (b := w2.heap.size) rfl).up hb3; have z0 := KZ.cell 0; have z1 := KZ.cell 1; have z2 := KZ.cell 2; simp only [List.getElem?_cons_zero, List.getElem?_cons_succ] at z0 z1 z2; have f0 := KZ.frozen 0; have f1 := KZ.frozen 1; have f2 := KZ.frozen 2) | (refine step_append_recs Tryz.elStr strE_one rfl (.tmp 10) (.tmp 12) rfl (by rfl) (Owned.empty (E := 9) strE_len w0 (Nat.le_refl _)).drew (by rfl) ((hr.out.alloc _).drew) HN.out ?_ (by decide) ?_ ?_; (focus (first | omega | (simp only [World.size_alloc]; done) | (simp only [World.size_alloc]; omega) | (simp; done) | (simp; omega))); (focus (first | omega | (simp only [World.size_alloc]; done) | (simp only [World.size_alloc]; omega) | (simp; done) | (simp; omega))); intro A2 c2 w2 ho2 hg2 hl2; have ho2' : Owned strE 1 9 w2 w0.heap.size A2 (m + 1) c2 l := (by simpa using ho2); have C2 := lit_app_drew hg2) | (refine step_append_recs Tryz.elStr strE_one rfl (.tmp 10) (.tmp 12) rfl (by rfl) ((Owned.empty (E := 9) strE_len w0 (Nat.le_refl _)).alloc (.cells #[.string { data := #[] }, .int .i64 0, .slice none 0 0] 25)).drew (by rfl) (((hr.out.alloc _).alloc _).drew) HN.out ?_ (by decide) ?_ ?_; (focus (first | omega | (simp only [World.size_alloc]; done) | (simp only [World.size_alloc]; omega) | (simp; done) | (simp; omega))); (focus (first | omega | (simp only [World.size_alloc]; done) | (simp only [World.size_alloc]; omega) | (simp; done) | (simp; omega))); intro A2 c2 w2 ho2 hg2 hl2; have ho2' : Owned strE 1 9 w2 w0.heap.size A2 (m + 1) c2 l := (by simpa using ho2); have C2 := lit_app_drew2 hg2; have KZ2 := ((Blk.at_ (w0.alloc (.cells #[] 9)) 25 [.string { data := #[] }, .int .i64 0, .slice none 0 0] (b := w0.heap.size + 1) (by simp)).drewN 1).grown hg2 (fun e => by injection e with e; dsimp only at e; omega)) | (refine step_append_recs Tryz.elStr strE_one rfl (.tmp 10) (.tmp 12) rfl (by rfl) (HOV.out).drew (by rfl) (((hr.out.alloc _).alloc _).drew) HN.out ?_ (by decide) ?_ ?_; (focus (first | omega | (simp only [World.size_alloc]; done) | (simp only [World.size_alloc]; omega) | (simp; done) | (simp; omega))); (focus (first | omega | (simp only [World.size_alloc]; done) | (simp only [World.size_alloc]; omega) | (simp; done) | (simp; omega))); intro A2 c2 w2 ho2 hg2 hl2; have ho2' : Owned strE 1 9 w2 w0.heap.size A2 (m + 1) c2 l := (by simpa using ho2); have C2 := lit_app_drew3 hg2; have KZ2 := (((Blk.at_ w0 25 [.string { data := #[] }, .int .i64 0, .slice none 0 0] (b := w0.heap.size) rfl).alloc (.cells #[] 9)).drewN 1).grown hg2 (fun e => by injection e with e; dsimp only at e; omega)))
  all_goals
   go_wp2_with fail
   go_meet
   refine ⟨_, A2, c2, rfl, ?_⟩
   first
    | with_reducible exact ⟨C2.size, lead_fin KZ ((ho2'.alloc _).up hb3) C3 C2.size⟩
    | with_reducible exact ⟨Nat.le_refl _, lead_fin KZ (ho2'.up hb3) C3 (Nat.le_refl _)⟩
    | with_reducible exact ⟨Nat.le_succ _, lead_fin KZ (ho2'.up hb3) C3 (Nat.le_succ _)⟩
    | with_reducible exact ⟨C3.size, Blk.at_ w3 25 [.string nm, .int .i64 st, .slice A2 (m + 1) c2] rfl, (ho2'.up hb3).alloc _, C3.alloc C3.size _⟩
 case rest =>
  obtain ⟨p, A2, c2, rfl, hp, K4, ho4, B4⟩ := hcut
  rename World => w4
  have L1 := K1.up B4; have L2 := K2.up B4
  have k0 := K4.cell 0; have k1 := K4.cell 1; have k2 := K4.cell 2
  have q0 := L1.cell 0; have q1 := L1.cell 1
  have r0 := L2.cell 0; have r1 := L2.cell 1; have r2 := L2.cell 2
  have t0 := L2.frozen 0; have t1 := L2.frozen 1; have t2 := L2.frozen 2
  simp only [List.getElem?_cons_zero, List.getElem?_cons_succ] at k0 k1 k2 q0 q1 r0 r1 r2
  obtain ⟨g, rfl, g0, g1, gc, gf⟩ := ho4.at_ h0
  obtain ⟨y, hy⟩ := some_of_lt (l := l) (k := m) (by rw [HN.out]; omega)
  have cy := gc m y 0 _ hy rfl
  have fy := gf m
  simp only [Nat.mul_one, Nat.add_zero] at cy
  have HY := Lib.hid hy
  clear gc gf hy
  have FO : Hid (∀ (u : World) (l' : List ByteArray) (a b d : Value), w4.heap.size ≤ u.heap.size → Owned strE 1 9 u w0.heap.size (some ⟨g, 0, none⟩) (m + 1) c2 l' → Below w.heap.size w u → Owned strE 1 9 (((u.setCell ⟨w.heap.size + 1 + 1, 0, none⟩ a).setCell ⟨w.heap.size + 1 + 1, 1, none⟩ b).setCell ⟨w.heap.size + 1 + 1, 2, none⟩ d) w.heap.size (some ⟨g, 0, none⟩) (m + 1) c2 l' ∧ Below w.heap.size w (((u.setCell ⟨w.heap.size + 1 + 1, 0, none⟩ a).setCell ⟨w.heap.size + 1 + 1, 1, none⟩ b).setCell ⟨w.heap.size + 1 + 1, 2, none⟩ d)) := Lib.hid (by
   intro u l' a b d hu ho hb
   have gg : u.grownBy (((u.setCell ⟨w.heap.size + 1 + 1, 0, none⟩ a).setCell ⟨w.heap.size + 1 + 1, 1, none⟩ b).setCell ⟨w.heap.size + 1 + 1, 2, none⟩ d) (some (w.heap.size + 1 + 1)) :=
    grownBy_trans (grownBy_trans (only_set u (p := ⟨w.heap.size + 1 + 1, 0, none⟩) _) (only_set _ (p := ⟨w.heap.size + 1 + 1, 1, none⟩) _)) (only_set _ (p := ⟨w.heap.size + 1 + 1, 2, none⟩) _)
   exact ⟨(ho.past gg (by omega)).base_le (by omega), hb.grown gg hb.size (fun k hk => by injection hk with hk; omega)⟩)
  have hBB := b0.trans (B4.mono b0.size)
  have hpg : ¬ p = g := fun e => ho4.ne_blk K4 (by decide) g rfl e.symm
  have hgp : ¬ g = p := fun e => hpg e.symm
  have PT := Lib.hid (fun (x : ByteArray) => ho4.put (j := 0) (x := x) (u := .string x) HY.out (by decide) rfl)
  rcases hB : isB s
  ·rcases hS : isS s
   ·have g2 : (s.toList == [98]) = false := hB
    have g3 : (s.toList == [115]) = false := hS
    have e1 := Lib.hid (show l.set m (chOf l kb ks s) = l by
     rw [chOf, hB, hS, if_neg (by simp), if_neg (by simp)]
     have h1 : lastC l = y := by rw [lastC, HN.out, Nat.add_sub_cancel, List.getD, HY.out]; rfl
     apply List.ext_getElem?
     intro q
     by_cases hq : q = m
     ·subst hq; rw [List.getElem?_set_self (by rw [HN.out]; omega), h1, HY.out]
     ·rw [List.getElem?_set_ne (fun e => hq e.symm)])
    clear hB hS
    go_wp2
    refine bodyPost_ret (v := .agg #[.string nm, .int .i64 st, .slice (some ⟨g, 0, none⟩) (m + 1) c2]) (by simp [results, Tryz.results198, go_sem, World.cell?_setCell_same, r0, r1, r2]) rfl ?_
    rw [Nat.add_sub_cancel, e1.out]
    exact ⟨_, _, rfl, FO.out _ _ _ _ _ (Nat.le_refl _) ho4 hBB⟩
   ·have g2 : (s.toList == [98]) = false := hB
    have g3 : (s.toList == [115]) = true := hS
    have e1 := Lib.hid (show l.set m (chOf l kb ks s) = l.set m ks by rw [chOf, hB, hS, if_neg (by simp), if_pos rfl])
    have pt := PT.out ks
    simp only [Nat.mul_one, Nat.add_zero] at pt
    have PO := Lib.hid pt.1
    have PG := Lib.hid pt.2
    clear hB hS pt
    go_wp2
    refine bodyPost_ret (v := .agg #[.string nm, .int .i64 st, .slice (some ⟨g, 0, none⟩) (m + 1) c2]) (by simp [results, Tryz.results198, go_sem, World.cell?_setCell_same, r0, r1, r2]) rfl ?_
    rw [Nat.add_sub_cancel, e1.out]
    exact ⟨_, _, rfl, FO.out _ _ _ _ _ PG.out.size PO.out (hBB.grown PG.out hBB.size (fun k hk => by injection hk with hk; omega))⟩
  ·have g2 : (s.toList == [98]) = true := hB
   have e1 := Lib.hid (show l.set m (chOf l kb ks s) = l.set m kb by rw [chOf, hB, if_pos rfl])
   have pt := PT.out kb
   simp only [Nat.mul_one, Nat.add_zero] at pt
   have PO := Lib.hid pt.1
   have PG := Lib.hid pt.2
   clear hB pt
   go_wp2
   refine bodyPost_ret (v := .agg #[.string nm, .int .i64 st, .slice (some ⟨g, 0, none⟩) (m + 1) c2]) (by simp [results, Tryz.results198, go_sem, World.cell?_setCell_same, r0, r1, r2]) rfl ?_
   rw [Nat.add_sub_cancel, e1.out]
   exact ⟨_, _, rfl, FO.out _ _ _ _ _ PG.out.size PO.out (hBB.grown PG.out hBB.size (fun k hk => by injection hk with hk; omega))⟩
end Go.Proofs.YtidolgonmimicaaGreat
namespace Go.Proofs.YtidolgonmimicaaGreat
open Go.ChangeShapes Go.WideShapes Go.ChangeAt Go.RowKit Go.Deep
def drM (nm : ByteArray) (st : Nat) (L : List ByteArray) : Prop := nm.size ≤ 16 ∧ 2 ≤ st ∧ st ≤ 9 ∧ L.length ≤ 41 ∧ ∀ s ∈ L, s.size ≤ 8
theorem goodM_changes {nm : ByteArray} {st : Int} {l : List ByteArray} (h : goodM nm st l = true) : ∀ s ∈ l, s.size ≤ 8 := fun s hs => by
 have h1 := (goodM_t h).2.2.2
 rw [allCh, List.all_eq_true] at h1
 obtain ⟨k, hk⟩ := List.getElem?_of_mem hs
 have h2 := h1 k (List.mem_range.2 (List.getElem?_eq_some_iff.1 hk).1)
 rw [okCh_at hk] at h2
 have := goodChange_small h2
 omega
theorem goodM_name {nm : ByteArray} {st : Int} {l : List ByteArray} (h : goodM nm st l = true) : nm.size ≤ 10 := by
 have h1 := (goodM_t h).1
 rw [nameOk, Bool.and_eq_true] at h1
 have := inB_t h1.2
 omega
section
variable {w u u' : World} {p n c a a' b : Nat} {A : Option Addr} {nm : ByteArray} {st : Int} {v v' : Value}
theorem MSt.put0 {x : ByteArray} (h : MSt w u p A n c a b nm st v) : MSt w (u.setCell ⟨b, 0, none⟩ (.string x)) p A n c a b x st v := by
 obtain ⟨h1, h2, ⟨q, y, z, h3⟩, h4, h5, h6⟩ := h
 have hg : u.grownBy (u.setCell ⟨b, 0, none⟩ (.string x)) (some b) := only_set u (p := ⟨b, 0, none⟩) (.string x)
 exact ⟨h1.set_ 0 (.string x), h2.grown hg (fun e => by injection e with e; omega), ⟨q, y, z, h3.grown hg (fun e => by injection e with e; omega)⟩, grow_own h4 hg (fun k e => by injection e with e; omega), h5, h6⟩
theorem MSt.put1 {x : Int} (h : MSt w u p A n c a b nm st v) : MSt w (u.setCell ⟨b, 1, none⟩ (.int .i64 x)) p A n c a b nm x v := by
 obtain ⟨h1, h2, ⟨q, y, z, h3⟩, h4, h5, h6⟩ := h
 have hg : u.grownBy (u.setCell ⟨b, 1, none⟩ (.int .i64 x)) (some b) := only_set u (p := ⟨b, 1, none⟩) (.int .i64 x)
 exact ⟨h1.set_ 1 (.int .i64 x), h2.grown hg (fun e => by injection e with e; omega), ⟨q, y, z, h3.grown hg (fun e => by injection e with e; omega)⟩, grow_own h4 hg (fun k e => by injection e with e; omega), h5, h6⟩
theorem MSt.grown2 {row : Option Nat} (h : MSt w u p A n c a b nm st v) (hg : u.grownBy u' row) (hr : ∀ k, row = some k → w.heap.size < k ∧ k ≠ b) : MSt w u' p A n c a b nm st v := by
 obtain ⟨h1, h2, ⟨x, y, z, h3⟩, h4, h5, h6⟩ := h
 exact ⟨h1.grown hg (fun e => (hr b e.symm).2 rfl), h2.grown hg (fun e => by have := (hr p e.symm).1; omega), ⟨x, y, z, h3.grown hg (fun e => by have := (hr _ e.symm).1; omega)⟩, grow_own h4 hg (fun k e => by have := (hr k e).1; omega), h5, h6⟩
theorem MSt.app {m d base : Nat} {B : Option Addr} {l : List ByteArray} (h : MSt w u p A n c a b nm st v) (ho : Owned strE 1 9 u base B m d l) (hb : w.heap.size < base) (hg : u.grownBy u' (Value.slice B m d).ownBlock) : MSt w u' p A n c a b nm st v :=
 h.grown2 hg (fun k hk => ⟨by have := (ho.blk hk).1; omega, ho.ne_blk h.1 (by decide) k hk⟩)
end
def clen : Option Value → Nat
 | some (.slice _ n _) => n
 | _ => 0
end Go.Proofs.YtidolgonmimicaaGreat
namespace Go.Proofs.YtidolgonmimicaaGreat
open Go.ChangeShapes Go.WideShapes Go.ChangeAt Go.RowKit Go.Deep
set_option maxHeartbeats 2000000 in
set_option maxRecDepth 100000 in
theorem spec_l15Places {N : Nat} {w : World} (hN : N ≤ 8) :
  Calls Tryz.prog 254 #[.int .i64 (N : Int)] w fun e w' => ∃ (A' : Option Addr) (m c' : Nat) (L : List Int), e = .returned (.slice A' m c') ∧ Owned intE 1 3 w' w.heap.size A' m c' L ∧ m ≤ 20 ∧ (∀ x ∈ L, 1 ≤ x ∧ x ≤ (N : Int)) ∧ Below w.heap.size w w' := by
 go_in
 go_wp2
 go_loopw [3, 4] (fun v i wr => ∃ (k m : Nat) (A' : Option Addr) (c' : Nat) (L : List Int), v = .slice A' m c' ∧ i = .int .i64 (k : Int) ∧ 2 ≤ k ∧ k ≤ N + 2 ∧ 2 * m + 2 ≤ k ∧ Hid (Owned intE 1 3 wr w.heap.size A' m c' L) ∧ Hid (∀ x ∈ L, 1 ≤ x ∧ x ≤ (N : Int)) ∧ Hid (Below w.heap.size w wr)) (fun _ i _ => 11 - (intOf i).toNat)
 case atStart => exact ⟨2, 0, none, 0, [], rfl, rfl, by omega, by omega, by omega, Lib.hid (Owned.nil intE_len _ _ _), Lib.hid (fun x hx => by cases hx), Lib.hid (Below.refl _ _)⟩
 case round =>
  obtain ⟨k, m, A3, c3, L, rfl, rfl, hk2, hkN, hmk, HO, HL, HB⟩ := hrel
  rename World => wr
  have hszr := HB.out.size
  by_cases hlt : k ≤ N
  ·have hI : decide ((k : Int) ≤ (N : Int)) = true := decide_eq_true (by omega)
   have hw : IntKind.i64.wrap ((k : Int) + 2) = ((k + 2 : Nat) : Int) := by rw [wrap_id (by omega)]; omega
   go_wp2_with (first | (at_builtin; go_must ((refine wpList_append_recs Tryz.elInt intE_one rfl (.tmp 11) (.tmp 13) rfl rfl (HO.out.alloc _) rfl (own_lit1_at' intE_len _ 3 (k : Int) rfl (Nat.le_refl _)).recs rfl ?_ (by decide) ?_ ?_; (focus (first | omega | (simp only [World.size_alloc]; done) | (simp only [World.size_alloc]; omega) | (simp; done) | (simp; omega))); (focus (first | omega | (simp only [World.size_alloc]; done) | (simp only [World.size_alloc]; omega) | (simp; done) | (simp; omega))); intro A6 c6 w6 ho6 hg6 hl6; have hb6 : Below w.heap.size w w6 := (HB.out.alloc hszr _).trans (grown_base hg6 (by simp; omega) (fun z hz => (HO.out.range z hz).1)); have HO6 := Lib.hid ho6; have HB6 := Lib.hid hb6; clear ho6 hg6 hl6 hb6))))
   go_roundw
   case rel => exact ⟨k + 2, m + 1, A6, c6, L ++ [(k : Int)], rfl, by first | rfl | go_num, by omega, by omega, by omega, HO6, Lib.hid (fun x hx => (List.mem_append.1 hx).elim (HL.out x) (fun q => by rw [List.mem_singleton.1 q]; omega)), HB6⟩
   case measure => simp [intOf]; omega
  ·have hI : decide ((k : Int) ≤ (N : Int)) = false := decide_eq_false (by omega)
   have hm5 : m ≤ 4 := by omega
   have htm : (N : Int).tmod 2 = ((N % 2 : Nat) : Int) := by rw [Int.tmod_eq_emod_of_nonneg (by omega)]; omega
   have hemd : (N : Int) % 2 = ((N % 2 : Nat) : Int) := by omega
   have hwm : IntKind.i64.wrap ((N % 2 : Nat) : Int) = ((N % 2 : Nat) : Int) := wrap_id (by omega)
   obtain ⟨r, hr⟩ : ∃ r, r = N % 2 := ⟨_, rfl⟩
   rw [← hr] at htm hemd hwm
   have hr2 : r < 2 := by omega
   clear hr
   rcases Nat.lt_or_ge r 1 with hr0 | hr1
   ·obtain rfl : r = 0 := by omega
    have hwp : IntKind.i64.wrap ((N : Int) - 1) = (N : Int) - 1 := wrap_id (by omega)
    obtain ⟨q, hq⟩ : ∃ q : Int, q = (N : Int) - 1 := ⟨_, rfl⟩
    rw [← hq] at hwp
    have hqN : q ≤ (N : Int) := by omega
    have hq1 : -1 ≤ q := by omega
    go_wp2
    go_loopw [3, 5] (fun v i wr2 => ∃ (x : Int) (m : Nat) (A' : Option Addr) (c' : Nat) (L : List Int), v = .slice A' m c' ∧ i = .int .i64 x ∧ x ≤ (N : Int) ∧ -1 ≤ x ∧ (m : Int) + x ≤ 12 ∧ Hid (Owned intE 1 3 wr2 w.heap.size A' m c' L) ∧ Hid (∀ x ∈ L, 1 ≤ x ∧ x ≤ (N : Int)) ∧ Hid (Below w.heap.size w wr2)) (fun _ i _ => (intOf i + 1).toNat)
    case atStart => exact ⟨q, m, A3, c3, L, rfl, by rw [hq], hqN, hq1, by omega, HO, HL, HB⟩
    case round =>
     obtain ⟨x, m, A4, c4, L, rfl, rfl, hxN, hx1, hmx, HO, HL, HB⟩ := hrel
     rename World => wq
     have hszq := HB.out.size
     by_cases h3 : 3 ≤ x
     ·have hI3 : decide ((3 : Int) ≤ x) = true := decide_eq_true h3
      have hwx : IntKind.i64.wrap (x - 2) = x - 2 := wrap_id (by omega)
      go_wp2_with (first | (at_builtin; go_must ((refine wpList_append_recs Tryz.elInt intE_one rfl (.tmp 25) (.tmp 27) rfl rfl (HO.out.alloc _) rfl (own_lit1_at' intE_len _ 3 x rfl (Nat.le_refl _)).recs rfl ?_ (by decide) ?_ ?_; (focus (first | omega | (simp only [World.size_alloc]; done) | (simp only [World.size_alloc]; omega) | (simp; done) | (simp; omega))); (focus (first | omega | (simp only [World.size_alloc]; done) | (simp only [World.size_alloc]; omega) | (simp; done) | (simp; omega))); intro A6 c6 w6 ho6 hg6 hl6; have hb6 : Below w.heap.size w w6 := (HB.out.alloc hszq _).trans (grown_base hg6 (by simp; omega) (fun z hz => (HO.out.range z hz).1)); have HO6 := Lib.hid ho6; have HB6 := Lib.hid hb6; clear ho6 hg6 hl6 hb6))))
      go_roundw
      case rel => exact ⟨x - 2, m + 1, A6, c6, L ++ [x], rfl, rfl, by omega, by omega, by omega, HO6, Lib.hid (fun y hy => (List.mem_append.1 hy).elim (HL.out y) (fun q => by rw [List.mem_singleton.1 q]; omega)), HB6⟩
      case measure => simp [intOf]; omega
     ·have hI3 : decide ((3 : Int) ≤ x) = false := decide_eq_false h3
      go_wp2
      go_ret
      exact ⟨A4, m, c4, rfl, L, HO.out, by omega, HL.out, HB.out⟩
   ·obtain rfl : r = 1 := by omega
    obtain ⟨q, hq⟩ : ∃ q : Int, q = (N : Int) := ⟨_, rfl⟩
    have hqN : q ≤ (N : Int) := by omega
    have hq1 : -1 ≤ q := by omega
    go_wp2
    go_loopw [3, 5] (fun v i wr2 => ∃ (x : Int) (m : Nat) (A' : Option Addr) (c' : Nat) (L : List Int), v = .slice A' m c' ∧ i = .int .i64 x ∧ x ≤ (N : Int) ∧ -1 ≤ x ∧ (m : Int) + x ≤ 12 ∧ Hid (Owned intE 1 3 wr2 w.heap.size A' m c' L) ∧ Hid (∀ x ∈ L, 1 ≤ x ∧ x ≤ (N : Int)) ∧ Hid (Below w.heap.size w wr2)) (fun _ i _ => (intOf i + 1).toNat)
    case atStart => exact ⟨q, m, A3, c3, L, rfl, by rw [hq], hqN, hq1, by omega, HO, HL, HB⟩
    case round =>
     obtain ⟨x, m, A4, c4, L, rfl, rfl, hxN, hx1, hmx, HO, HL, HB⟩ := hrel
     rename World => wq
     have hszq := HB.out.size
     by_cases h3 : 3 ≤ x
     ·have hI3 : decide ((3 : Int) ≤ x) = true := decide_eq_true h3
      have hwx : IntKind.i64.wrap (x - 2) = x - 2 := wrap_id (by omega)
      go_wp2_with (first | (at_builtin; go_must ((refine wpList_append_recs Tryz.elInt intE_one rfl (.tmp 25) (.tmp 27) rfl rfl (HO.out.alloc _) rfl (own_lit1_at' intE_len _ 3 x rfl (Nat.le_refl _)).recs rfl ?_ (by decide) ?_ ?_; (focus (first | omega | (simp only [World.size_alloc]; done) | (simp only [World.size_alloc]; omega) | (simp; done) | (simp; omega))); (focus (first | omega | (simp only [World.size_alloc]; done) | (simp only [World.size_alloc]; omega) | (simp; done) | (simp; omega))); intro A6 c6 w6 ho6 hg6 hl6; have hb6 : Below w.heap.size w w6 := (HB.out.alloc hszq _).trans (grown_base hg6 (by simp; omega) (fun z hz => (HO.out.range z hz).1)); have HO6 := Lib.hid ho6; have HB6 := Lib.hid hb6; clear ho6 hg6 hl6 hb6))))
      go_roundw
      case rel => exact ⟨x - 2, m + 1, A6, c6, L ++ [x], rfl, rfl, by omega, by omega, by omega, HO6, Lib.hid (fun y hy => (List.mem_append.1 hy).elim (HL.out y) (fun q => by rw [List.mem_singleton.1 q]; omega)), HB6⟩
      case measure => simp [intOf]; omega
     ·have hI3 : decide ((3 : Int) ≤ x) = false := decide_eq_false h3
      go_wp2
      go_ret
      exact ⟨A4, m, c4, rfl, L, HO.out, by omega, HL.out, HB.out⟩
set_option maxRecDepth 100000 in
theorem spec_l15Course {r : ByteArray} {w : World} (hz : r.size ≤ 8) :
  Calls Tryz.prog 229 #[.string r] w fun e w' => ∃ s : ByteArray, e = .returned (.string s) ∧ s.size ≤ 20 ∧ Below w.heap.size w w' := by
 go_in
 go_wp2_with fail
 refine (spec_l15Places hz).mono ?_; rintro e w1 ⟨A1, m, c1, L, rfl, ho, hm, hL, hb⟩
 have HO := Lib.hid ho
 have HL := Lib.hid hL
 have HLl := Lib.hid ho.len
 clear ho hL
 go_wp2
 go_loopw [3, 10] (fun v i wr => ∃ (k : Nat) (s : ByteArray), k ≤ m ∧ v = .string s ∧ i = .int .i64 (k : Int) ∧ s.size ≤ k ∧ w1 = wr) (fun _ i _ => m - (intOf i).toNat)
 case atStart => exact ⟨0, ⟨#[]⟩, Nat.zero_le _, rfl, rfl, Nat.le_refl _, rfl⟩
 case round =>
  obtain ⟨k, s, hk, rfl, rfl, hs, rfl⟩ := hrel
  by_cases hlt : k < m
  ·obtain ⟨b1, o1, x, rfl, _, hx, hcx⟩ := HO.out.recs.at_int (k := k) (by rw [HLl.out]; exact hlt)
   have hxb := HL.out x (List.mem_of_getElem? hx)
   obtain ⟨y, rfl⟩ : ∃ y : Nat, x = ((y + 1 : Nat) : Int) := ⟨(x - 1).toNat, by omega⟩
   have hyz : y + 1 ≤ r.size := by omega
   have hkI : (k : Int) < (m : Int) := by omega
   have hw1 : IntKind.i64.wrap ((y : Int) + 1 - 1) = (y : Int) := by rw [wrap_id (by omega)]; omega
   have hw2 : IntKind.i64.wrap (y : Int) = (y : Int) := wrap_id (by omega)
   have h0 : (0 : Int) ≤ (y : Int) := by omega
   have h1 : (y : Int) ≤ (y : Int) + 1 := by omega
   have h2 : (y : Int) + 1 ≤ (r.size : Int) := by omega
   have hes : (r.extract y (y + 1)).size ≤ 1 := by rw [ByteArray.size_extract]; omega
   have hov : ¬ 9223372036854775807 < s.size + (r.extract y (y + 1)).size := by omega
   have hsz : (s ++ r.extract y (y + 1)).size ≤ k + 1 := by rw [ByteArray.size_append]; omega
   clear hx hxb
   go_wp2
   go_roundw
   case rel => exact ⟨k + 1, s ++ r.extract y (y + 1), by omega, rfl, by go_num, hsz, trivial⟩
   case measure => simp [intOf]; omega
  ·obtain rfl : k = m := by omega
   have hkI : ¬ (k : Int) < (k : Int) := by omega
   go_wp2
   go_ret
   exact ⟨s, rfl, by omega, hb⟩
set_option maxHeartbeats 2000000 in
set_option maxRecDepth 100000 in
theorem spec_l15Turn {A : Option Addr} {n c st : Nat} {nm : ByteArray} {l : List ByteArray} {w : World} (hn : l.length = n) (h : Strs w A l) (hz : n ≤ 1048576) (hs : ∀ s ∈ l, s.size ≤ 16777216) (hnm : nm.size ≤ 16777216) (h9 : st ≤ 1000) (h3 : 3 ≤ st) (h8 : st ≤ 8) :
  Calls Tryz.prog 194 #[.agg #[.string nm, .int .i64 st, .slice A n c]] w fun e w' => ∃ x : Int, e = .returned (.int .i64 x) ∧ Below w.heap.size w w' := by
 have b0 : Below w.heap.size w (w.alloc (.cells ⟨[.string nm, .int .i64 st, .slice A n c]⟩ 25)) := by (repeat' (first | (with_reducible exact Below.refl _ _) | (with_reducible assumption) | (with_reducible refine below_drewN ?_ _) | (with_reducible refine Below.drew ?_) | (with_reducible refine below_alloc ?_ _) | (with_reducible refine Below.alloc ?_ ?_ _) | (with_reducible refine Below.setCell ?_ ?_ _) | (with_reducible refine below_go ?_ (by with_reducible assumption)) | (with_reducible refine below_then (by with_reducible assumption) ?_ ?_) | go_size))
 have K0 := Blk.at_ w 25 [.string nm, .int .i64 st, .slice A n c] (b := w.heap.size) rfl
 have k0 := K0.cell 0; have k1 := K0.cell 1; have k2 := K0.cell 2
 simp only [List.getElem?_cons_zero, List.getElem?_cons_succ] at k0 k1 k2
 go_in
 go_wp2_with fail
 clear k0 k1 k2
 refine (spec_l4Head (nm := nm) hn (h.up b0) hz hs h8).mono ?_; rintro e w1 ⟨rfl, hb1⟩
 have B1 := below_go b0 hb1
 have hrz : (rAt (roundsS st) l n).size = st := by rw [rAt_size]; exact rounds_size st (by omega)
 obtain ⟨hd, hhd⟩ : ∃ u, u = rAt (roundsS st) l n := ⟨_, rfl⟩
 rw [← hhd] at hrz ⊢
 clear hhd
 have k1 := (K0.up hb1).cell 1
 simp only [List.getElem?_cons_zero, List.getElem?_cons_succ] at k1
 go_wp2_with fail
 clear k1
 refine (spec_l1Rounds (n := st) h8).mono ?_; rintro e w' ⟨rfl, rfl⟩
 have hrs : (roundsS st).size ≤ 8 := by rw [rounds_size st (by omega)]; exact h8
 go_wp2_with fail
 refine (spec_l15Course hrs).mono ?_; rintro e w2 ⟨pl, rfl, hpl, hb2⟩
 have HB2 := Lib.hid (below_go B1 hb2)
 have gb := PlainAid.get_bt hd
 have hd0 : 0 < hd.size := by omega
 have hst0 : 0 < st := by omega
 have hst0I : (0 : Int) < (st : Int) := by omega
 clear hb1 hb2 B1 b0 K0 hrs
 go_wp2
 go_loopw [5] (fun i wr => ∃ k : Nat, 1 ≤ k ∧ k ≤ 21 ∧ i = .int .i64 (k : Int) ∧ Hid (Below w.heap.size w wr)) (fun i _ => 22 - (intOf i).toNat)
 case atStart => exact ⟨1, Nat.le_refl _, by omega, rfl, HB2⟩
 case round =>
  obtain ⟨k, hk1, hk2, rfl, HB⟩ := hrel
  rename World => wr
  by_cases hlt : k < pl.size
  ·have hkI : (k : Int) < (pl.size : Int) := by omega
   have h0 : (0 : Int) ≤ (k : Int) := by omega
   have h1 : (k : Int) ≤ (pl.size : Int) := by omega
   have he1 : (pl.extract k pl.size).size ≤ 20 := by rw [ByteArray.size_extract]; omega
   have he2 : (pl.extract 0 k).size ≤ 20 := by rw [ByteArray.size_extract]; omega
   have hov : ¬ 9223372036854775807 < (pl.extract k pl.size).size + (pl.extract 0 k).size := by omega
   have hov2 : ¬ 9223372036854775807 < pl.size - k + min k pl.size := by omega
   have hd0I : (0 : Int) < (hd.size : Int) := by omega
   have hwk : IntKind.i64.wrap ((k : Int) + 1) = ((k + 1 : Nat) : Int) := by rw [wrap_id (by omega)]; omega
   have C0 : Below wr.heap.size wr wr.drew := (Below.refl _ _).drew
   go_upto_region 6 with fail
   obtain ⟨z, hz0⟩ : ∃ z, z = PlainAid.bt hd 0 := ⟨_, rfl⟩
   have gb0 := gb 0 hd0
   go_cut [32] (fun s32 wx => ∃ y : Bool, s32 = .bool y ∧ Hid (Below w.heap.size w wx))
   case first =>
    by_cases h49 : z = 49
    ·have hz1 : ((hd[0]'hd0).toNat : Int) = 49 := by rw [gb0, ← hz0]; exact h49
     have hzz : (hd[0]'hd0).toNat = 49 := by omega
     refine wp_region_held_drew (S := fun _ => True) (by kernel_rfl) (trivial) (fun hHeld => ?_)
     refine takeH 0 18 (v := ?_) rfl (by kernel_rfl) (by kernel_rfl) (by kernel_rfl) (fun _ _ _ h => h) (Or.inl ⟨by rfl, ?_⟩) (by assumption) ?_
     rotate_left
     ·(intro w hSw; (try dsimp only at hSw); go_simp) <;> with_reducible rfl
     (try simp only [Act.put, List.setIfInBounds_toArray, List.set_cons_zero, List.set_cons_succ])
     refine takeH 1 19 (v := ?_) rfl (by kernel_rfl) (by kernel_rfl) (by kernel_rfl) (fun _ _ _ h => h) (Or.inl ⟨by rfl, ?_⟩) (by assumption) ?_
     rotate_left
     ·(intro w hSw; (try dsimp only at hSw); go_simp) <;> with_reducible rfl
     (try simp only [Act.put, List.setIfInBounds_toArray, List.set_cons_zero, List.set_cons_succ])
     refine takeH 2 20 (v := ?_) rfl (by kernel_rfl) (by kernel_rfl) (by kernel_rfl) (fun _ _ _ h => h) (Or.inl ⟨by rfl, ?_⟩) (by assumption) ?_
     rotate_left
     ·(intro w hSw; (try dsimp only at hSw); go_simp) <;> with_reducible rfl
     (try simp only [Act.put, List.setIfInBounds_toArray, List.set_cons_zero, List.set_cons_succ])
     refine takeH 3 21 (v := ?_) rfl (by kernel_rfl) (by kernel_rfl) (by kernel_rfl) (fun _ _ _ h => h) (Or.inl ⟨by rfl, ?_⟩) (by assumption) ?_
     rotate_left
     ·(intro w hSw; (try dsimp only at hSw); go_simp) <;> with_reducible rfl
     (try simp only [Act.put, List.setIfInBounds_toArray, List.set_cons_zero, List.set_cons_succ])
     refine takeH 4 22 (v := ?_) rfl (by kernel_rfl) (by kernel_rfl) (by kernel_rfl) (fun _ _ _ h => h) (Or.inl ⟨by rfl, ?_⟩) (by assumption) ?_
     rotate_left
     ·(intro w hSw; (try dsimp only at hSw); go_simp) <;> with_reducible rfl
     (try simp only [Act.put, List.setIfInBounds_toArray, List.set_cons_zero, List.set_cons_succ])
     refine takeH 6 24 (v := ?_) rfl (by kernel_rfl) (by kernel_rfl) (by kernel_rfl) (fun _ _ _ h => h) (Or.inl ⟨by rfl, ?_⟩) (by assumption) ?_
     rotate_left
     ·(intro w hSw; (try dsimp only at hSw); go_simp) <;> with_reducible rfl
     (try simp only [Act.put, List.setIfInBounds_toArray, List.set_cons_zero, List.set_cons_succ])
     refine takeH 7 25 (v := ?_) rfl (by kernel_rfl) (by kernel_rfl) (by kernel_rfl) (fun _ _ _ h => h) (Or.inl ⟨by rfl, ?_⟩) (by assumption) ?_
     rotate_left
     ·(intro w hSw; (try dsimp only at hSw); go_simp) <;> with_reducible rfl
     (try simp only [Act.put, List.setIfInBounds_toArray, List.set_cons_zero, List.set_cons_succ])
     refine takeH 8 26 (v := ?_) rfl (by kernel_rfl) (by kernel_rfl) (by kernel_rfl) (fun _ _ _ h => h) (Or.inl ⟨by rfl, ?_⟩) (by assumption) ?_
     rotate_left
     ·(intro w hSw; (try dsimp only at hSw); go_simp) <;> with_reducible rfl
     (try simp only [Act.put, List.setIfInBounds_toArray, List.set_cons_zero, List.set_cons_succ])
     refine takeH 9 27 (v := ?_) rfl (by kernel_rfl) (by kernel_rfl) (by kernel_rfl) (fun _ _ _ h => h) (Or.inl ⟨by rfl, ?_⟩) (by assumption) ?_
     rotate_left
     ·(intro w hSw; (try dsimp only at hSw); go_simp) <;> with_reducible rfl
     (try simp only [Act.put, List.setIfInBounds_toArray, List.set_cons_zero, List.set_cons_succ])
     refine takeH 10 28 (v := ?_) rfl (by kernel_rfl) (by kernel_rfl) (by kernel_rfl) (fun _ _ _ h => h) (Or.inl ⟨by rfl, ?_⟩) (by assumption) ?_
     rotate_left
     ·(intro w hSw; (try dsimp only at hSw); go_simp) <;> with_reducible rfl
     (try simp only [Act.put, List.setIfInBounds_toArray, List.set_cons_zero, List.set_cons_succ])
     refine takeH 11 29 (v := ?_) rfl (by kernel_rfl) (by kernel_rfl) (by kernel_rfl) (fun _ _ _ h => h) (Or.inl ⟨by rfl, ?_⟩) (by assumption) ?_
     rotate_left
     ·(intro w hSw; (try dsimp only at hSw); go_simp) <;> with_reducible rfl
     (try simp only [Act.put, List.setIfInBounds_toArray, List.set_cons_zero, List.set_cons_succ])
     refine takeH 12 30 (v := ?_) rfl (by kernel_rfl) (by kernel_rfl) (by kernel_rfl) (fun _ _ _ h => h) (Or.inl ⟨by rfl, ?_⟩) (by assumption) ?_
     rotate_left
     ·(intro w hSw; (try dsimp only at hSw); go_simp) <;> with_reducible rfl
     (try simp only [Act.put, List.setIfInBounds_toArray, List.set_cons_zero, List.set_cons_succ])
     refine wpAnyH_ready (rs := [5]) (by kernel_rfl) (by simp) ?_
     refine AllReadyH.cons (o := _) rfl (fun K hK => ?_) AllReadyH.nil
     go_simp
     refine (spec_l15Course (by rw [hrz]; exact h8)).mono ?_; rintro e w6 ⟨s6, rfl, hs6, hb6⟩
     try go_wp2_with fail
     refine hK.out _ _ (trivial) (fun hHeld => ?_)
     clear hK K
     (try simp only [Act.put, List.setIfInBounds_toArray, List.set_cons_zero, List.set_cons_succ])
     refine takeH 13 31 (v := ?_) rfl (by kernel_rfl) (by kernel_rfl) (by kernel_rfl) (fun _ _ _ h => h) (Or.inl ⟨by rfl, ?_⟩) (by assumption) ?_
     rotate_left
     ·(intro w hSw; (try dsimp only at hSw); go_simp) <;> with_reducible rfl
     (try simp only [Act.put, List.setIfInBounds_toArray, List.set_cons_zero, List.set_cons_succ])
     refine takeH 14 32 (v := ?_) rfl (by kernel_rfl) (by kernel_rfl) (by kernel_rfl) (fun _ _ _ h => h) (Or.inl ⟨by rfl, ?_⟩) (by assumption) ?_
     rotate_left
     ·(intro w hSw; (try dsimp only at hSw); go_simp) <;> with_reducible rfl
     (try simp only [Act.put, List.setIfInBounds_toArray, List.set_cons_zero, List.set_cons_succ])
     refine wpAnyH_done (by kernel_rfl) ?_ _
     (try simp only [Act.put, List.setIfInBounds_toArray, List.set_cons_zero, List.set_cons_succ])
     obtain ⟨y, hy⟩ : ∃ y, y = (s6.toList == (pl.extract k pl.size ++ pl.extract 0 k).toList) := ⟨_, rfl⟩
     have HBX := Lib.hid (below_go HB.out (below_of_drew hb6))
     go_wp2_with fail
     go_meet
     exact ⟨_, rfl, HBX⟩
    ·have hzz : ¬ (hd[0]'hd0).toNat = 49 := by
      intro q
      have := gb0
      omega
     have hE : (PlainAid.bt hd 0 == 49) = false := by rw [← hz0]; simpa using h49
     refine wp_region_held_drew (S := fun _ => True) (by kernel_rfl) (trivial) (fun hHeld => ?_)
     refine takeH 0 18 (v := ?_) rfl (by kernel_rfl) (by kernel_rfl) (by kernel_rfl) (fun _ _ _ h => h) (Or.inl ⟨by rfl, ?_⟩) (by assumption) ?_
     rotate_left
     ·(intro w hSw; (try dsimp only at hSw); go_simp) <;> with_reducible rfl
     (try simp only [Act.put, List.setIfInBounds_toArray, List.set_cons_zero, List.set_cons_succ])
     refine takeH 1 19 (v := ?_) rfl (by kernel_rfl) (by kernel_rfl) (by kernel_rfl) (fun _ _ _ h => h) (Or.inl ⟨by rfl, ?_⟩) (by assumption) ?_
     rotate_left
     ·(intro w hSw; (try dsimp only at hSw); go_simp) <;> with_reducible rfl
     (try simp only [Act.put, List.setIfInBounds_toArray, List.set_cons_zero, List.set_cons_succ])
     refine takeH 2 20 (v := ?_) rfl (by kernel_rfl) (by kernel_rfl) (by kernel_rfl) (fun _ _ _ h => h) (Or.inl ⟨by rfl, ?_⟩) (by assumption) ?_
     rotate_left
     ·(intro w hSw; (try dsimp only at hSw); go_simp) <;> with_reducible rfl
     (try simp only [Act.put, List.setIfInBounds_toArray, List.set_cons_zero, List.set_cons_succ])
     refine takeH 3 21 (v := ?_) rfl (by kernel_rfl) (by kernel_rfl) (by kernel_rfl) (fun _ _ _ h => h) (Or.inl ⟨by rfl, ?_⟩) (by assumption) ?_
     rotate_left
     ·(intro w hSw; (try dsimp only at hSw); go_simp) <;> with_reducible rfl
     (try simp only [Act.put, List.setIfInBounds_toArray, List.set_cons_zero, List.set_cons_succ])
     refine takeH 4 22 (v := undef) rfl (by kernel_rfl) (by kernel_rfl) (by kernel_rfl) (fun _ _ _ h => h) (Or.inr ⟨by rfl, rfl⟩) (by assumption) ?_
     (try simp only [Act.put, List.setIfInBounds_toArray, List.set_cons_zero, List.set_cons_succ])
     refine takeH 5 23 (v := undef) rfl (by kernel_rfl) (by kernel_rfl) (by kernel_rfl) (fun _ _ _ h => h) (Or.inr ⟨by rfl, rfl⟩) (by assumption) ?_
     (try simp only [Act.put, List.setIfInBounds_toArray, List.set_cons_zero, List.set_cons_succ])
     refine takeH 6 24 (v := undef) rfl (by kernel_rfl) (by kernel_rfl) (by kernel_rfl) (fun _ _ _ h => h) (Or.inr ⟨by rfl, rfl⟩) (by assumption) ?_
     (try simp only [Act.put, List.setIfInBounds_toArray, List.set_cons_zero, List.set_cons_succ])
     refine takeH 7 25 (v := undef) rfl (by kernel_rfl) (by kernel_rfl) (by kernel_rfl) (fun _ _ _ h => h) (Or.inr ⟨by rfl, rfl⟩) (by assumption) ?_
     (try simp only [Act.put, List.setIfInBounds_toArray, List.set_cons_zero, List.set_cons_succ])
     refine takeH 8 26 (v := undef) rfl (by kernel_rfl) (by kernel_rfl) (by kernel_rfl) (fun _ _ _ h => h) (Or.inr ⟨by rfl, rfl⟩) (by assumption) ?_
     (try simp only [Act.put, List.setIfInBounds_toArray, List.set_cons_zero, List.set_cons_succ])
     refine takeH 9 27 (v := undef) rfl (by kernel_rfl) (by kernel_rfl) (by kernel_rfl) (fun _ _ _ h => h) (Or.inr ⟨by rfl, rfl⟩) (by assumption) ?_
     (try simp only [Act.put, List.setIfInBounds_toArray, List.set_cons_zero, List.set_cons_succ])
     refine takeH 10 28 (v := undef) rfl (by kernel_rfl) (by kernel_rfl) (by kernel_rfl) (fun _ _ _ h => h) (Or.inr ⟨by rfl, rfl⟩) (by assumption) ?_
     (try simp only [Act.put, List.setIfInBounds_toArray, List.set_cons_zero, List.set_cons_succ])
     refine takeH 11 29 (v := undef) rfl (by kernel_rfl) (by kernel_rfl) (by kernel_rfl) (fun _ _ _ h => h) (Or.inr ⟨by rfl, rfl⟩) (by assumption) ?_
     (try simp only [Act.put, List.setIfInBounds_toArray, List.set_cons_zero, List.set_cons_succ])
     refine takeH 12 30 (v := undef) rfl (by kernel_rfl) (by kernel_rfl) (by kernel_rfl) (fun _ _ _ h => h) (Or.inr ⟨by rfl, rfl⟩) (by assumption) ?_
     (try simp only [Act.put, List.setIfInBounds_toArray, List.set_cons_zero, List.set_cons_succ])
     refine takeH 13 31 (v := undef) rfl (by kernel_rfl) (by kernel_rfl) (by kernel_rfl) (fun _ _ _ h => h) (Or.inr ⟨by rfl, rfl⟩) (by assumption) ?_
     (try simp only [Act.put, List.setIfInBounds_toArray, List.set_cons_zero, List.set_cons_succ])
     refine takeH 14 32 (v := ?_) rfl (by kernel_rfl) (by kernel_rfl) (by kernel_rfl) (fun _ _ _ h => h) (Or.inl ⟨by rfl, ?_⟩) (by assumption) ?_
     rotate_left
     ·(intro w hSw; (try dsimp only at hSw); go_simp) <;> with_reducible rfl
     (try simp only [Act.put, List.setIfInBounds_toArray, List.set_cons_zero, List.set_cons_succ])
     refine wpAnyH_done (by kernel_rfl) ?_ _
     (try simp only [Act.put, List.setIfInBounds_toArray, List.set_cons_zero, List.set_cons_succ])
     have HBX := Lib.hid (below_go HB.out C0)
     go_wp2_with fail
     go_meet
     exact ⟨_, rfl, HBX⟩
   case rest =>
    obtain ⟨y, rfl, HBX⟩ := hcut
    rename World => wx
    clear hz0 gb0
    rcases y
    ·go_wp2
     go_roundw
     case rel => exact ⟨k + 1, by omega, by omega, by first | rfl | go_num, HBX⟩
     case measure => simp [intOf]; omega
    ·go_wp2
     go_ret
     exact ⟨(k : Int), rfl, HBX.out⟩
  ·have hkI : ¬ (k : Int) < (pl.size : Int) := by omega
   go_wp2
   go_ret
   exact ⟨⟨0, rfl⟩, HB.out⟩
end Go.Proofs.YtidolgonmimicaaGreat
namespace Go.Proofs.YtidolgonmimicaaGreat
open Go.ChangeShapes Go.WideShapes Go.ChangeAt Go.RowKit Go.Deep
theorem sets3_grown (u : World) (r : Nat) (a b c : Value) : u.grownBy (((u.setCell ⟨r, 0, none⟩ a).setCell ⟨r, 1, none⟩ b).setCell ⟨r, 2, none⟩ c) (some r) :=
 grownBy_trans (grownBy_trans (only_set _ (p := ⟨r, 0, none⟩) _) (only_set _ (p := ⟨r, 1, none⟩) _)) (only_set _ (p := ⟨r, 2, none⟩) _)
theorem sets2_grown (u : World) (r : Nat) (a b : Value) : u.grownBy ((u.setCell ⟨r, 0, none⟩ a).setCell ⟨r, 1, none⟩ b) (some r) :=
 grownBy_trans (only_set _ (p := ⟨r, 0, none⟩) _) (only_set _ (p := ⟨r, 1, none⟩) _)
end Go.Proofs.YtidolgonmimicaaGreat
namespace Go.Proofs.YtidolgonmimicaaGreat
open Go.ChangeShapes Go.WideShapes Go.ChangeAt Go.RowKit Go.Deep
set_option maxHeartbeats 4000000 in
set_option maxRecDepth 100000 in
theorem cur_regular {A : Option Addr} {n c a p : Nat} {w0 w : World} (hS : Src w0 A n) (hb : Below w0.heap.size w0 w) (hp : w0.heap.size ≤ p) (hc : Cur w p A n c a) (ha : a ≤ 900000) :
  Calls Tryz.prog 115 #[.pointer (some ⟨p, 0, none⟩)] w fun e w' => ∃ (nm : ByteArray) (st : Nat) (A' : Option Addr) (m c' : Nat) (L : List ByteArray), e = .returned (.agg #[.string nm, .int .i64 st, .slice A' m c']) ∧ goodM nm st L = true ∧ 3 ≤ st ∧ st ≤ 6 ∧ m ≤ 12 ∧ Owned strE 1 9 w' w.heap.size A' m c' L ∧ Cur w' p A n c (a + 4000) ∧ w.grownBy w' (some p) := by
 have hpw := hc.lt
 have R0 := Blk.at_ w 25 [.string ⟨#[]⟩, .int .i64 0, .slice none 0 0] (b := w.heap.size) rfl
 have b0 : Below w.heap.size w (w.alloc (.cells #[.string ⟨#[]⟩, .int .i64 0, .slice none 0 0] 25)) := by (repeat' (first | (with_reducible exact Below.refl _ _) | (with_reducible assumption) | (with_reducible refine below_drewN ?_ _) | (with_reducible refine Below.drew ?_) | (with_reducible refine below_alloc ?_ _) | (with_reducible refine Below.alloc ?_ ?_ _) | (with_reducible refine Below.setCell ?_ ?_ _) | (with_reducible refine below_go ?_ (by with_reducible assumption)) | (with_reducible refine below_then (by with_reducible assumption) ?_ ?_) | go_size))
 have G : Hid (∀ u : World, w.grownBy u (some p) → Below w0.heap.size w0 u) := Lib.hid (fun u hg => grown_below hb hp hg)
 have HS := Lib.hid hS
 clear hS hb
 go_in
 go_wp2_with fail
 obtain ⟨w1, hw1⟩ : ∃ u, u = w.alloc (.cells #[.string ⟨#[]⟩, .int .i64 0, .slice none 0 0] 25) := ⟨_, rfl⟩
 have z1 : w1.heap.size = w.heap.size + 1 := by rw [hw1]; simp
 rw [← hw1] at b0 ⊢
 have R1 : Blk w1 w.heap.size 25 [.string ⟨#[]⟩, .int .i64 0, .slice none 0 0] := by rw [hw1]; exact R0
 clear hw1 R0
 refine (cur_method HS.out (G.out _ (grown_any b0 _)) hp (hc.up b0) (by omega)).mono ?_; rintro e w2 ⟨nm, st, A2, m, c2, L, rfl, hgm, h3, h6, hm, ho2, hc2, hg2⟩
 have g2 : w.grownBy w2 (some p) := grownBy_trans (grown_any b0 _) hg2
 have R2 := R1.grown hg2 (fun e => by injection e with e; omega)
 have s2 := hg2.size
 have K3 := Blk.at_ w2 25 [.string nm, .int .i64 (st : Int), .slice A2 m c2] (b := w2.heap.size) rfl
 have a3 : Below w2.heap.size w2 (w2.alloc (.cells #[.string nm, .int .i64 (st : Int), .slice A2 m c2] 25)) := by (repeat' (first | (with_reducible exact Below.refl _ _) | (with_reducible assumption) | (with_reducible refine below_drewN ?_ _) | (with_reducible refine Below.drew ?_) | (with_reducible refine below_alloc ?_ _) | (with_reducible refine Below.alloc ?_ ?_ _) | (with_reducible refine Below.setCell ?_ ?_ _) | (with_reducible refine below_go ?_ (by with_reducible assumption)) | (with_reducible refine below_then (by with_reducible assumption) ?_ ?_) | go_size))
 have M3 : MSt w (w2.alloc (.cells #[.string nm, .int .i64 (st : Int), .slice A2 m c2] 25)) p A n c (a + 100) w2.heap.size nm st (.slice A2 m c2) := ⟨K3, hc2.up a3, ⟨_, _, _, R2.up a3⟩, grownBy_trans g2 (grown_any a3 _), hpw, by omega⟩
 have HO3 := Lib.hid (ho2.up a3)
 have HG3 := Lib.hid hgm
 clear K3 a3 R2 g2 hc2 ho2 hg2 hgm R1 hc
 go_upto_region 2 with fail
 obtain ⟨w3, hw3⟩ : ∃ u, u = w2.alloc (.cells #[.string nm, .int .i64 (st : Int), .slice A2 m c2] 25) := ⟨_, rfl⟩
 rw [← hw3] at M3 HO3 ⊢
 clear hw3
 rw [z1] at HO3
 obtain ⟨b, hb⟩ : ∃ b, b = w2.heap.size := ⟨_, rfl⟩
 rw [← hb] at M3 s2 ⊢
 clear hb
 have HM3 := Lib.hid M3
 clear M3 b0 z1
 go_wp2
 go_loopw [4] (fun i wr => ∃ (k st m : Nat) (nm : ByteArray) (A' : Option Addr) (c' : Nat) (L : List ByteArray), k ≤ 30 ∧ i = .int .i64 (k : Int) ∧ Hid (MSt w wr p A n c (a + 100 + 110 * k) b nm st (.slice A' m c')) ∧ Hid (Owned strE 1 9 wr (w.heap.size + 1) A' m c' L) ∧ Hid (goodM nm st L = true) ∧ 3 ≤ st ∧ st ≤ 6 ∧ m ≤ 12) (fun i _ => 30 - (intOf i).toNat)
 case atStart => exact ⟨0, st, m, nm, A2, c2, L, by omega, rfl, HM3, HO3, HG3, h3, h6, hm⟩
 case round =>
  clear h3 h6 hm HM3 HO3 HG3
  obtain ⟨k, st, m, nm, A2, c2, L, hk, rfl, HM, HO, HG, h3, h6, hm⟩ := hrel
  rename World => wr
  have hwk : IntKind.i64.wrap ((k : Int) + 1) = ((k + 1 : Nat) : Int) := by rw [wrap_id (by omega)]; omega
  by_cases hlt : k < 30
  ·have hkI : (k : Int) < 30 := by omega
   have kc0 := HM.out.1.cell 0; have kc1 := HM.out.1.cell 1; have kc2 := HM.out.1.cell 2
   simp only [List.getElem?_cons_zero, List.getElem?_cons_succ] at kc0 kc1 kc2
   by_cases h4 : st < 4
   ·have h4I : (st : Int) < 4 := by omega
    go_wp2_with fail
    clear kc0 kc1 kc2
    have hMb := HM.out.1.lt
    have hwb := HM.out.2.2.2.2.2
    refine (cur_method HS.out (G.out _ HM.out.2.2.2.1) hp HM.out.2.1 (by omega)).mono ?_; rintro e w8 ⟨nm8, st8, A8, m8, c8, L8, rfl, hgm8, h38, h68, hm8, ho8, hc8, hg8⟩
    have HM8 := Lib.hid (HM.out.draw hg8 hc8)
    have HMx := Lib.hid (((HM8.out.put0 (x := nm8)).put1 (x := (st8 : Int))).put (v' := .slice A8 m8 c8))
    have HOx := Lib.hid ((ho8.past (sets3_grown w8 b (.string nm8) (.int .i64 (st8 : Int)) (.slice A8 m8 c8)) hMb).base_le (show w.heap.size + 1 ≤ _ by omega))
    have HGx := Lib.hid hgm8
    have kq0 := HM8.out.1.cell 0; have kq1 := HM8.out.1.cell 1; have kq2 := HM8.out.1.cell 2
    simp only [List.getElem?_cons_zero, List.getElem?_cons_succ] at kq0 kq1 kq2
    have kf0 := HM8.out.1.frozen 0; have kf1 := HM8.out.1.frozen 1; have kf2 := HM8.out.1.frozen 2
    clear hgm8 ho8 hc8 hg8 HM HO HG HM8
    go_wp2
    go_roundw
    case rel => exact ⟨k + 1, st8, m8, nm8, A8, c8, L8, by omega, by first | rfl | go_num, Lib.hid (MSt.mono HMx.out (by omega)), HOx, HGx, h38, h68, hm8⟩
    case measure => simp [intOf]; omega
   ·have h4I : ¬ (st : Int) < 4 := by omega
    go_wp2_with fail
    clear kc0 kc1 kc2
    refine (cur_one HS.out (G.out _ HM.out.2.2.2.1) hp HM.out.2.1 (by omega) (by decide) (by decide)).mono ?_; rintro e w4 ⟨y, rfl, hc4, hg4⟩
    have HO4 := Lib.hid (HO.out.past hg4 (by have := HM.out.2.2.2.2.1; omega))
    have HM4 := Lib.hid (HM.out.draw hg4 hc4)
    clear hc4 hg4 HM HO
    have HM := HM4
    have HO := HO4
    clear HM4 HO4
    have kc0 := HM.out.1.cell 0; have kc1 := HM.out.1.cell 1; have kc2 := HM.out.1.cell 2
    simp only [List.getElem?_cons_zero, List.getElem?_cons_succ] at kc0 kc1 kc2
    rcases y
    ·go_wp2_with fail
     clear kc0 kc1 kc2
     have hLl := HO.out.len
     have hzl := goodM_changes HG.out
     have hzn := goodM_name HG.out
     refine (spec_l15Turn (nm := nm) (st := st) hLl HO.out.recs (by omega) (fun s hs => by have := hzl s hs; omega) (by omega) (by omega) h3 (by omega)).mono ?_; rintro e w5 ⟨x, rfl, hb5⟩
     clear hzl hzn hLl
     have HO5 := Lib.hid (HO.out.up hb5)
     have HM5 := Lib.hid (HM.out.up hb5)
     clear hb5 HM HO
     have HM := HM5
     have HO := HO5
     clear HM5 HO5
     have kc0 := HM.out.1.cell 0; have kc1 := HM.out.1.cell 1; have kc2 := HM.out.1.cell 2
     simp only [List.getElem?_cons_zero, List.getElem?_cons_succ] at kc0 kc1 kc2
     by_cases hx : x = 0
     ·subst hx
      go_wp2_with fail
      clear kc0 kc1 kc2
      have hMb := HM.out.1.lt
      have hwb := HM.out.2.2.2.2.2
      refine (cur_method HS.out (G.out _ HM.out.2.2.2.1) hp HM.out.2.1 (by omega)).mono ?_; rintro e w8 ⟨nm8, st8, A8, m8, c8, L8, rfl, hgm8, h38, h68, hm8, ho8, hc8, hg8⟩
      have HM8 := Lib.hid (HM.out.draw hg8 hc8)
      have HMx := Lib.hid (((HM8.out.put0 (x := nm8)).put1 (x := (st8 : Int))).put (v' := .slice A8 m8 c8))
      have HOx := Lib.hid ((ho8.past (sets3_grown w8 b (.string nm8) (.int .i64 (st8 : Int)) (.slice A8 m8 c8)) hMb).base_le (show w.heap.size + 1 ≤ _ by omega))
      have HGx := Lib.hid hgm8
      have kq0 := HM8.out.1.cell 0; have kq1 := HM8.out.1.cell 1; have kq2 := HM8.out.1.cell 2
      simp only [List.getElem?_cons_zero, List.getElem?_cons_succ] at kq0 kq1 kq2
      have kf0 := HM8.out.1.frozen 0; have kf1 := HM8.out.1.frozen 1; have kf2 := HM8.out.1.frozen 2
      clear hgm8 ho8 hc8 hg8 HM HO HG HM8
      go_wp2
      go_roundw
      case rel => exact ⟨k + 1, st8, m8, nm8, A8, c8, L8, by omega, by first | rfl | go_num, Lib.hid (MSt.mono HMx.out (by omega)), HOx, HGx, h38, h68, hm8⟩
      case measure => simp [intOf]; omega
     ·have hx' : (x == 0) = false := by simpa using hx
      obtain ⟨K1, K2, ⟨rx, ry, rz, K3⟩, K4, K5, K6⟩ := HM.out
      have kd0 := K3.cell 0; have kd1 := K3.cell 1; have kd2 := K3.cell 2
      have kf0 := K3.frozen 0; have kf1 := K3.frozen 1; have kf2 := K3.frozen 2
      simp only [List.getElem?_cons_zero, List.getElem?_cons_succ] at kd0 kd1 kd2
      have Z := ((K3.set_ 0 (.string nm)).set_ 1 (.int .i64 (st : Int))).set_ 2 (.slice A2 m c2)
      have y0 := Z.cell 0; have y1 := Z.cell 1; have y2 := Z.cell 2
      simp only [List.set_cons_zero, List.set_cons_succ, List.getElem?_cons_zero, List.getElem?_cons_succ] at y0 y1 y2
      have HK := Lib.hid K2; have HGR := Lib.hid K4
      clear K1 K2 K3 K4 Z
      go_wp2_with fail
      refine bodyPost_ret (v := .agg #[.string nm, .int .i64 (st : Int), .slice A2 m c2]) (by simp [results, Tryz.results115, go_sem, y0, y1, y2]) rfl ?_
      have gF := sets3_grown w5 w.heap.size (.string nm) (.int .i64 (st : Int)) (.slice A2 m c2)
      have X1 := (HO.out.past gF (by omega)).base_le (show w.heap.size ≤ w.heap.size + 1 by omega)
      have X2 := (HK.out.grown gF (fun e => by injection e with e; omega)).mono (show _ ≤ a + 4000 by omega)
      have X3 := grow_own HGR.out gF (fun k e => by injection e with e; omega)
      have X0 := HG.out
      first | exact ⟨nm, st, A2, m, c2, L, rfl, X0, h3, h6, hm, X1, X2, X3⟩ | exact ⟨nm, st, A2, m, c2, rfl, L, X0, h3, h6, hm, X1, X2, X3⟩ | exact ⟨nm, st, A2, m, c2, rfl, L, X0, h3, h6, hm, X1, X2, X3⟩
    ·skip
     obtain ⟨K1, K2, ⟨rx, ry, rz, K3⟩, K4, K5, K6⟩ := HM.out
     have kd0 := K3.cell 0; have kd1 := K3.cell 1; have kd2 := K3.cell 2
     have kf0 := K3.frozen 0; have kf1 := K3.frozen 1; have kf2 := K3.frozen 2
     simp only [List.getElem?_cons_zero, List.getElem?_cons_succ] at kd0 kd1 kd2
     have Z := ((K3.set_ 0 (.string nm)).set_ 1 (.int .i64 (st : Int))).set_ 2 (.slice A2 m c2)
     have y0 := Z.cell 0; have y1 := Z.cell 1; have y2 := Z.cell 2
     simp only [List.set_cons_zero, List.set_cons_succ, List.getElem?_cons_zero, List.getElem?_cons_succ] at y0 y1 y2
     have HK := Lib.hid K2; have HGR := Lib.hid K4
     clear K1 K2 K3 K4 Z
     go_wp2_with fail
     refine bodyPost_ret (v := .agg #[.string nm, .int .i64 (st : Int), .slice A2 m c2]) (by simp [results, Tryz.results115, go_sem, y0, y1, y2]) rfl ?_
     have gF := sets3_grown w4 w.heap.size (.string nm) (.int .i64 (st : Int)) (.slice A2 m c2)
     have X1 := (HO.out.past gF (by omega)).base_le (show w.heap.size ≤ w.heap.size + 1 by omega)
     have X2 := (HK.out.grown gF (fun e => by injection e with e; omega)).mono (show _ ≤ a + 4000 by omega)
     have X3 := grow_own HGR.out gF (fun k e => by injection e with e; omega)
     have X0 := HG.out
     first | exact ⟨nm, st, A2, m, c2, L, rfl, X0, h3, h6, hm, X1, X2, X3⟩ | exact ⟨nm, st, A2, m, c2, rfl, L, X0, h3, h6, hm, X1, X2, X3⟩ | exact ⟨nm, st, A2, m, c2, rfl, L, X0, h3, h6, hm, X1, X2, X3⟩
  ·have hkI : ¬ (k : Int) < 30 := by omega
   have kc0 := HM.out.1.cell 0; have kc1 := HM.out.1.cell 1; have kc2 := HM.out.1.cell 2
   simp only [List.getElem?_cons_zero, List.getElem?_cons_succ] at kc0 kc1 kc2
   obtain ⟨K1, K2, ⟨rx, ry, rz, K3⟩, K4, K5, K6⟩ := HM.out
   have kd0 := K3.cell 0; have kd1 := K3.cell 1; have kd2 := K3.cell 2
   have kf0 := K3.frozen 0; have kf1 := K3.frozen 1; have kf2 := K3.frozen 2
   simp only [List.getElem?_cons_zero, List.getElem?_cons_succ] at kd0 kd1 kd2
   have Z := ((K3.set_ 0 (.string nm)).set_ 1 (.int .i64 (st : Int))).set_ 2 (.slice A2 m c2)
   have y0 := Z.cell 0; have y1 := Z.cell 1; have y2 := Z.cell 2
   simp only [List.set_cons_zero, List.set_cons_succ, List.getElem?_cons_zero, List.getElem?_cons_succ] at y0 y1 y2
   have HK := Lib.hid K2; have HGR := Lib.hid K4
   clear K1 K2 K3 K4 Z
   go_wp2_with fail
   refine bodyPost_ret (v := .agg #[.string nm, .int .i64 (st : Int), .slice A2 m c2]) (by simp [results, Tryz.results115, go_sem, y0, y1, y2]) rfl ?_
   have gF := sets3_grown wr w.heap.size (.string nm) (.int .i64 (st : Int)) (.slice A2 m c2)
   have X1 := (HO.out.past gF (by omega)).base_le (show w.heap.size ≤ w.heap.size + 1 by omega)
   have X2 := (HK.out.grown gF (fun e => by injection e with e; omega)).mono (show _ ≤ a + 4000 by omega)
   have X3 := grow_own HGR.out gF (fun k e => by injection e with e; omega)
   have X0 := HG.out
   first | exact ⟨nm, st, A2, m, c2, L, rfl, X0, h3, h6, hm, X1, X2, X3⟩ | exact ⟨nm, st, A2, m, c2, rfl, L, X0, h3, h6, hm, X1, X2, X3⟩ | exact ⟨nm, st, A2, m, c2, rfl, L, X0, h3, h6, hm, X1, X2, X3⟩
end Go.Proofs.YtidolgonmimicaaGreat
namespace Go.Proofs.YtidolgonmimicaaGreat
open Go.ChangeShapes Go.WideShapes Go.ChangeAt Go.RowKit Go.Deep
def calT (t : ByteArray) : Prop := ∀ z ∈ nums t, z = 112 ∨ z = 98 ∨ z = 115
theorem calT_app {a b : ByteArray} (h : calT a) (g : calT b) : calT (a ++ b) := fun z hz => by
 rw [nums_app] at hz
 exact (List.mem_append.1 hz).elim (h z) (g z)
theorem calT_at {t : ByteArray} (h : calT t) : ∀ k, k < t.size → callB t k = true := fun k hk => by
 have := h _ (List.mem_of_getElem? (nums_at hk))
 rw [callB]
 rcases this with e | e | e <;> rw [e] <;> rfl
theorem goodT_of {t : ByteArray} (h : calT t) (h1 : 1 ≤ t.size) (h2 : t.size ≤ 60) : goodT t = true := by
 rw [goodT, Bool.and_eq_true, List.all_eq_true]
 exact ⟨fun k hk => calT_at h k (List.mem_range.1 hk), by rw [inB, decide_eq_true_iff]; omega⟩
theorem calT_nil : calT ⟨#[]⟩ := fun z hz => by cases hz
theorem calT_b : calT ⟨#[98]⟩ := by
 intro z hz
 have : nums ⟨#[98]⟩ = [98] := by rfl
 rw [this] at hz; simp at hz; omega
theorem calT_p : calT ⟨#[112]⟩ := by
 intro z hz
 have : nums ⟨#[112]⟩ = [112] := by rfl
 rw [this] at hz; simp at hz; omega
theorem calT_s : calT ⟨#[115]⟩ := by
 intro z hz
 have : nums ⟨#[115]⟩ = [115] := by rfl
 rw [this] at hz; simp at hz; omega
end Go.Proofs.YtidolgonmimicaaGreat
namespace Go.Proofs.YtidolgonmimicaaGreat
open Go.ChangeShapes Go.WideShapes Go.ChangeAt Go.RowKit Go.Deep
def CSt (w u : World) (p : Nat) (A : Option Addr) (n c a b : Nat) (kb ks : ByteArray) : Prop :=
 Blk u b 27 [.string kb, .string ks] ∧ Cur u p A n c a ∧ (∃ x y, Blk u (w.heap.size + 1) 27 [x, y]) ∧ w.grownBy u (some p) ∧ p < w.heap.size ∧ w.heap.size + 1 < b
section
variable {w u u' : World} {p n c a a' b : Nat} {A : Option Addr} {kb ks : ByteArray}
theorem CSt.mono (h : CSt w u p A n c a b kb ks) (ha : a ≤ a') : CSt w u p A n c a' b kb ks := ⟨h.1, h.2.1.mono ha, h.2.2⟩
theorem CSt.draw (h : CSt w u p A n c a b kb ks) (hg : u.grownBy u' (some p)) (hc : Cur u' p A n c a') : CSt w u' p A n c a' b kb ks := by
 obtain ⟨h1, _, ⟨x, y, h3⟩, h4, h5, h6⟩ := h
 exact ⟨h1.grown hg (fun e => by injection e with e; omega), hc, ⟨x, y, h3.grown hg (fun e => by injection e with e; omega)⟩, grownBy_trans h4 hg, h5, h6⟩
theorem CSt.up (h : CSt w u p A n c a b kb ks) (hb : Below u.heap.size u u') : CSt w u' p A n c a b kb ks := by
 obtain ⟨h1, h2, ⟨x, y, h3⟩, h4, h5, h6⟩ := h
 exact ⟨h1.up hb, h2.up hb, ⟨x, y, h3.up hb⟩, grownBy_trans h4 (grown_any hb _), h5, h6⟩
theorem CSt.put0 {x : ByteArray} (h : CSt w u p A n c a b kb ks) : CSt w (u.setCell ⟨b, 0, none⟩ (.string x)) p A n c a b x ks := by
 obtain ⟨h1, h2, ⟨q, y, h3⟩, h4, h5, h6⟩ := h
 have hg : u.grownBy (u.setCell ⟨b, 0, none⟩ (.string x)) (some b) := only_set u (p := ⟨b, 0, none⟩) (.string x)
 exact ⟨h1.set_ 0 (.string x), h2.grown hg (fun e => by injection e with e; omega), ⟨q, y, h3.grown hg (fun e => by injection e with e; omega)⟩, grow_own h4 hg (fun k e => by injection e with e; omega), h5, h6⟩
theorem CSt.put1 {x : ByteArray} (h : CSt w u p A n c a b kb ks) : CSt w (u.setCell ⟨b, 1, none⟩ (.string x)) p A n c a b kb x := by
 obtain ⟨h1, h2, ⟨q, y, h3⟩, h4, h5, h6⟩ := h
 have hg : u.grownBy (u.setCell ⟨b, 1, none⟩ (.string x)) (some b) := only_set u (p := ⟨b, 1, none⟩) (.string x)
 exact ⟨h1.set_ 1 (.string x), h2.grown hg (fun e => by injection e with e; omega), ⟨q, y, h3.grown hg (fun e => by injection e with e; omega)⟩, grow_own h4 hg (fun k e => by injection e with e; omega), h5, h6⟩
end
set_option maxHeartbeats 4000000 in
set_option maxRecDepth 100000 in
theorem cur_calls {A B : Option Addr} {n c a p st m d : Nat} {nm : ByteArray} {w0 w : World} (hS : Src w0 A n) (hb : Below w0.heap.size w0 w) (hp : w0.heap.size ≤ p) (hc : Cur w p A n c a) (ha : a ≤ 1000000) (h3 : 3 ≤ st) (h8 : st ≤ 8) :
  Calls Tryz.prog 195 #[.pointer (some ⟨p, 0, none⟩), .agg #[.string nm, .int .i64 st, .slice B m d]] w fun e w' => ∃ kb ks : ByteArray, e = .returned (.agg #[.string kb, .string ks]) ∧ kb.size ≤ 8 ∧ ks.size ≤ 8 ∧ Cur w' p A n c (a + 10) ∧ w.grownBy w' (some p) := by
 have hpw := hc.lt
 have R0 := Blk.at_ (w.alloc (.cells #[.string nm, .int .i64 (st : Int), .slice B m d] 25)) 27 [.string ⟨#[]⟩, .string ⟨#[]⟩] (b := w.heap.size + 1) (by simp)
 have b0 : Below w.heap.size w ((w.alloc (.cells #[.string nm, .int .i64 (st : Int), .slice B m d] 25)).alloc (.cells #[.string ⟨#[]⟩, .string ⟨#[]⟩] 27)) := by (repeat' (first | (with_reducible exact Below.refl _ _) | (with_reducible assumption) | (with_reducible refine below_drewN ?_ _) | (with_reducible refine Below.drew ?_) | (with_reducible refine below_alloc ?_ _) | (with_reducible refine Below.alloc ?_ ?_ _) | (with_reducible refine Below.setCell ?_ ?_ _) | (with_reducible refine below_go ?_ (by with_reducible assumption)) | (with_reducible refine below_then (by with_reducible assumption) ?_ ?_) | go_size))
 have G : Hid (∀ u : World, w.grownBy u (some p) → Below w0.heap.size w0 u) := Lib.hid (fun u hg => grown_below hb hp hg)
 have HS := Lib.hid hS
 clear hS hb
 go_in
 go_wp2_with fail
 obtain ⟨w1, hw1⟩ : ∃ u, u = ((w.alloc (.cells #[.string nm, .int .i64 (st : Int), .slice B m d] 25)).alloc (.cells #[.string ⟨#[]⟩, .string ⟨#[]⟩] 27)) := ⟨_, rfl⟩
 have z1 : w1.heap.size = w.heap.size + 2 := by rw [hw1]; simp
 rw [← hw1] at b0 R0 ⊢
 clear hw1
 refine (cur_change HS.out (G.out _ (grown_any b0 _)) hp (hc.up b0) (by omega) h8 h3).mono ?_; rintro e w2 ⟨x, rfl, _, zx, hc2, hg2⟩
 have g2 : w.grownBy w2 (some p) := grownBy_trans (grown_any b0 _) hg2
 have R2 := R0.grown hg2 (fun e => by injection e with e; omega)
 clear R0 hc b0
 go_wp2_with fail
 refine (cur_change HS.out (G.out _ g2) hp hc2 (by omega) h8 h3).mono ?_; rintro e w3 ⟨y, rfl, _, zy, hc3, hg3⟩
 have g3 := grownBy_trans g2 hg3
 have R3 := R2.grown hg3 (fun e => by injection e with e; omega)
 have s2 := hg2.size
 have s3 := hg3.size
 have K3 := Blk.at_ w3 27 [.string x, .string y] (b := w3.heap.size) rfl
 have a3 : Below w3.heap.size w3 (w3.alloc (.cells #[.string x, .string y] 27)) := by (repeat' (first | (with_reducible exact Below.refl _ _) | (with_reducible assumption) | (with_reducible refine below_drewN ?_ _) | (with_reducible refine Below.drew ?_) | (with_reducible refine below_alloc ?_ _) | (with_reducible refine Below.alloc ?_ ?_ _) | (with_reducible refine Below.setCell ?_ ?_ _) | (with_reducible refine below_go ?_ (by with_reducible assumption)) | (with_reducible refine below_then (by with_reducible assumption) ?_ ?_) | go_size))
 have HM3 := Lib.hid (show CSt w (w3.alloc (.cells #[.string x, .string y] 27)) p A n c (a + 2) w3.heap.size x y from ⟨K3, hc3.up a3, ⟨_, _, R3.up a3⟩, grownBy_trans g3 (grown_any a3 _), hpw, by omega⟩)
 clear R2 R3 hc2 hc3 hg2 hg3 K3 a3 g2 g3
 go_upto_region 3 with fail
 obtain ⟨w4, hw4⟩ : ∃ u, u = w3.alloc (.cells #[.string x, .string y] 27) := ⟨_, rfl⟩
 obtain ⟨b, hb⟩ : ∃ b, b = w3.heap.size := ⟨_, rfl⟩
 rw [← hw4] at HM3 ⊢
 rw [← hb] at HM3 ⊢
 clear hw4 hb s2 s3 z1
 have hst : st = 3 ∨ st = 4 ∨ st = 5 ∨ st = 6 ∨ st = 7 ∨ st = 8 := by omega
 clear h3 h8
 rcases hst with rfl | rfl | rfl | rfl | rfl | rfl
 ·skip
  have HM := HM3
  clear HM3
  obtain ⟨K1, K2, ⟨rx, ry, K3⟩, K4, K5, K6⟩ := HM.out
  have kc0 := K1.cell 0; have kc1 := K1.cell 1
  have kd0 := K3.cell 0; have kd1 := K3.cell 1
  have kf0 := K3.frozen 0; have kf1 := K3.frozen 1
  simp only [List.getElem?_cons_zero, List.getElem?_cons_succ] at kc0 kc1 kd0 kd1
  have Z := (K3.set_ 0 (.string x)).set_ 1 (.string y)
  have y0 := Z.cell 0; have y1 := Z.cell 1
  simp only [List.set_cons_zero, List.set_cons_succ, List.getElem?_cons_zero, List.getElem?_cons_succ] at y0 y1
  have HK := Lib.hid K2; have HGR := Lib.hid K4
  clear K1 K2 K3 K4 Z
  go_wp2_with fail
  refine bodyPost_ret (v := .agg #[.string x, .string y]) (by simp [results, Tryz.results195, go_sem, y0, y1]) rfl ?_
  have hq := sets2_grown w4 (w.heap.size + 1) (.string x) (.string y)
  exact ⟨x, y, rfl, zx, zy, (HK.out.grown hq (fun e => by injection e with e; omega)).mono (by omega), grow_own HGR.out hq (fun k e => by injection e with e; omega)⟩
 ·skip
  go_wp2_with fail
  refine (cur_one HS.out (G.out _ HM3.out.2.2.2.1) hp HM3.out.2.1 (by omega) (by decide) (by decide)).mono ?_; rintro e w5 ⟨b1, rfl, hc5, hg5⟩
  have HM5 := Lib.hid (HM3.out.draw hg5 hc5)
  clear hc5 hg5 HM3
  rcases b1
  ·skip
   have g0 := HM5.out.1.cell 0; have g1 := HM5.out.1.cell 1; have e0 := HM5.out.1.frozen 0; have e1 := HM5.out.1.frozen 1
   simp only [List.getElem?_cons_zero, List.getElem?_cons_succ] at g0 g1
   have HM := Lib.hid ((((HM5.out.put0 (x := ⟨#[49, 52]⟩)).put1 (x := ⟨#[49, 50, 51, 52]⟩)).put1 (x := ⟨#[49, 50]⟩)).put0 (x := ⟨#[49, 52]⟩))
   clear HM5
   obtain ⟨K1, K2, ⟨rx, ry, K3⟩, K4, K5, K6⟩ := HM.out
   have kc0 := K1.cell 0; have kc1 := K1.cell 1
   have kd0 := K3.cell 0; have kd1 := K3.cell 1
   have kf0 := K3.frozen 0; have kf1 := K3.frozen 1
   simp only [List.getElem?_cons_zero, List.getElem?_cons_succ] at kc0 kc1 kd0 kd1
   have Z := (K3.set_ 0 (.string ⟨#[49, 52]⟩)).set_ 1 (.string ⟨#[49, 50]⟩)
   have y0 := Z.cell 0; have y1 := Z.cell 1
   simp only [List.set_cons_zero, List.set_cons_succ, List.getElem?_cons_zero, List.getElem?_cons_succ] at y0 y1
   have HK := Lib.hid K2; have HGR := Lib.hid K4
   clear K1 K2 K3 K4 Z
   go_wp2_with fail
   refine bodyPost_ret (v := .agg #[.string ⟨#[49, 52]⟩, .string ⟨#[49, 50]⟩]) (by simp [results, Tryz.results195, go_sem, y0, y1]) rfl ?_
   have hq := sets2_grown ((((w5.setCell ⟨b, 0, none⟩ (.string ⟨#[49, 52]⟩)).setCell ⟨b, 1, none⟩ (.string ⟨#[49, 50, 51, 52]⟩)).setCell ⟨b, 1, none⟩ (.string ⟨#[49, 50]⟩)).setCell ⟨b, 0, none⟩ (.string ⟨#[49, 52]⟩)) (w.heap.size + 1) (.string ⟨#[49, 52]⟩) (.string ⟨#[49, 50]⟩)
   exact ⟨⟨#[49, 52]⟩, ⟨#[49, 50]⟩, rfl, by decide, by decide, (HK.out.grown hq (fun e => by injection e with e; omega)).mono (by omega), grow_own HGR.out hq (fun k e => by injection e with e; omega)⟩
  ·skip
   have HM := HM5
   clear HM5
   obtain ⟨K1, K2, ⟨rx, ry, K3⟩, K4, K5, K6⟩ := HM.out
   have kc0 := K1.cell 0; have kc1 := K1.cell 1
   have kd0 := K3.cell 0; have kd1 := K3.cell 1
   have kf0 := K3.frozen 0; have kf1 := K3.frozen 1
   simp only [List.getElem?_cons_zero, List.getElem?_cons_succ] at kc0 kc1 kd0 kd1
   have Z := (K3.set_ 0 (.string x)).set_ 1 (.string y)
   have y0 := Z.cell 0; have y1 := Z.cell 1
   simp only [List.set_cons_zero, List.set_cons_succ, List.getElem?_cons_zero, List.getElem?_cons_succ] at y0 y1
   have HK := Lib.hid K2; have HGR := Lib.hid K4
   clear K1 K2 K3 K4 Z
   go_wp2_with fail
   refine bodyPost_ret (v := .agg #[.string x, .string y]) (by simp [results, Tryz.results195, go_sem, y0, y1]) rfl ?_
   have hq := sets2_grown w5 (w.heap.size + 1) (.string x) (.string y)
   exact ⟨x, y, rfl, zx, zy, (HK.out.grown hq (fun e => by injection e with e; omega)).mono (by omega), grow_own HGR.out hq (fun k e => by injection e with e; omega)⟩
 ·skip
  go_wp2_with fail
  refine (cur_one HS.out (G.out _ HM3.out.2.2.2.1) hp HM3.out.2.1 (by omega) (by decide) (by decide)).mono ?_; rintro e w5 ⟨b1, rfl, hc5, hg5⟩
  have HM5 := Lib.hid (HM3.out.draw hg5 hc5)
  clear hc5 hg5 HM3
  rcases b1
  ·skip
   have g0 := HM5.out.1.cell 0; have g1 := HM5.out.1.cell 1; have e0 := HM5.out.1.frozen 0; have e1 := HM5.out.1.frozen 1
   simp only [List.getElem?_cons_zero, List.getElem?_cons_succ] at g0 g1
   have HM := Lib.hid ((HM5.out.put0 (x := ⟨#[49, 52, 53]⟩)).put1 (x := ⟨#[49, 50, 51]⟩))
   clear HM5
   obtain ⟨K1, K2, ⟨rx, ry, K3⟩, K4, K5, K6⟩ := HM.out
   have kc0 := K1.cell 0; have kc1 := K1.cell 1
   have kd0 := K3.cell 0; have kd1 := K3.cell 1
   have kf0 := K3.frozen 0; have kf1 := K3.frozen 1
   simp only [List.getElem?_cons_zero, List.getElem?_cons_succ] at kc0 kc1 kd0 kd1
   have Z := (K3.set_ 0 (.string ⟨#[49, 52, 53]⟩)).set_ 1 (.string ⟨#[49, 50, 51]⟩)
   have y0 := Z.cell 0; have y1 := Z.cell 1
   simp only [List.set_cons_zero, List.set_cons_succ, List.getElem?_cons_zero, List.getElem?_cons_succ] at y0 y1
   have HK := Lib.hid K2; have HGR := Lib.hid K4
   clear K1 K2 K3 K4 Z
   go_wp2_with fail
   refine bodyPost_ret (v := .agg #[.string ⟨#[49, 52, 53]⟩, .string ⟨#[49, 50, 51]⟩]) (by simp [results, Tryz.results195, go_sem, y0, y1]) rfl ?_
   have hq := sets2_grown ((w5.setCell ⟨b, 0, none⟩ (.string ⟨#[49, 52, 53]⟩)).setCell ⟨b, 1, none⟩ (.string ⟨#[49, 50, 51]⟩)) (w.heap.size + 1) (.string ⟨#[49, 52, 53]⟩) (.string ⟨#[49, 50, 51]⟩)
   exact ⟨⟨#[49, 52, 53]⟩, ⟨#[49, 50, 51]⟩, rfl, by decide, by decide, (HK.out.grown hq (fun e => by injection e with e; omega)).mono (by omega), grow_own HGR.out hq (fun k e => by injection e with e; omega)⟩
  ·skip
   have HM := HM5
   clear HM5
   obtain ⟨K1, K2, ⟨rx, ry, K3⟩, K4, K5, K6⟩ := HM.out
   have kc0 := K1.cell 0; have kc1 := K1.cell 1
   have kd0 := K3.cell 0; have kd1 := K3.cell 1
   have kf0 := K3.frozen 0; have kf1 := K3.frozen 1
   simp only [List.getElem?_cons_zero, List.getElem?_cons_succ] at kc0 kc1 kd0 kd1
   have Z := (K3.set_ 0 (.string x)).set_ 1 (.string y)
   have y0 := Z.cell 0; have y1 := Z.cell 1
   simp only [List.set_cons_zero, List.set_cons_succ, List.getElem?_cons_zero, List.getElem?_cons_succ] at y0 y1
   have HK := Lib.hid K2; have HGR := Lib.hid K4
   clear K1 K2 K3 K4 Z
   go_wp2_with fail
   refine bodyPost_ret (v := .agg #[.string x, .string y]) (by simp [results, Tryz.results195, go_sem, y0, y1]) rfl ?_
   have hq := sets2_grown w5 (w.heap.size + 1) (.string x) (.string y)
   exact ⟨x, y, rfl, zx, zy, (HK.out.grown hq (fun e => by injection e with e; omega)).mono (by omega), grow_own HGR.out hq (fun k e => by injection e with e; omega)⟩
 ·skip
  go_wp2_with fail
  refine (cur_one HS.out (G.out _ HM3.out.2.2.2.1) hp HM3.out.2.1 (by omega) (by decide) (by decide)).mono ?_; rintro e w5 ⟨b1, rfl, hc5, hg5⟩
  have HM5 := Lib.hid (HM3.out.draw hg5 hc5)
  clear hc5 hg5 HM3
  rcases b1
  ·skip
   have g0 := HM5.out.1.cell 0; have g1 := HM5.out.1.cell 1; have e0 := HM5.out.1.frozen 0; have e1 := HM5.out.1.frozen 1
   simp only [List.getElem?_cons_zero, List.getElem?_cons_succ] at g0 g1
   have HM := Lib.hid ((HM5.out.put0 (x := ⟨#[49, 52]⟩)).put1 (x := ⟨#[49, 50, 51, 52]⟩))
   clear HM5
   obtain ⟨K1, K2, ⟨rx, ry, K3⟩, K4, K5, K6⟩ := HM.out
   have kc0 := K1.cell 0; have kc1 := K1.cell 1
   have kd0 := K3.cell 0; have kd1 := K3.cell 1
   have kf0 := K3.frozen 0; have kf1 := K3.frozen 1
   simp only [List.getElem?_cons_zero, List.getElem?_cons_succ] at kc0 kc1 kd0 kd1
   have Z := (K3.set_ 0 (.string ⟨#[49, 52]⟩)).set_ 1 (.string ⟨#[49, 50, 51, 52]⟩)
   have y0 := Z.cell 0; have y1 := Z.cell 1
   simp only [List.set_cons_zero, List.set_cons_succ, List.getElem?_cons_zero, List.getElem?_cons_succ] at y0 y1
   have HK := Lib.hid K2; have HGR := Lib.hid K4
   clear K1 K2 K3 K4 Z
   go_wp2_with fail
   refine bodyPost_ret (v := .agg #[.string ⟨#[49, 52]⟩, .string ⟨#[49, 50, 51, 52]⟩]) (by simp [results, Tryz.results195, go_sem, y0, y1]) rfl ?_
   have hq := sets2_grown ((w5.setCell ⟨b, 0, none⟩ (.string ⟨#[49, 52]⟩)).setCell ⟨b, 1, none⟩ (.string ⟨#[49, 50, 51, 52]⟩)) (w.heap.size + 1) (.string ⟨#[49, 52]⟩) (.string ⟨#[49, 50, 51, 52]⟩)
   exact ⟨⟨#[49, 52]⟩, ⟨#[49, 50, 51, 52]⟩, rfl, by decide, by decide, (HK.out.grown hq (fun e => by injection e with e; omega)).mono (by omega), grow_own HGR.out hq (fun k e => by injection e with e; omega)⟩
  ·skip
   have HM := HM5
   clear HM5
   obtain ⟨K1, K2, ⟨rx, ry, K3⟩, K4, K5, K6⟩ := HM.out
   have kc0 := K1.cell 0; have kc1 := K1.cell 1
   have kd0 := K3.cell 0; have kd1 := K3.cell 1
   have kf0 := K3.frozen 0; have kf1 := K3.frozen 1
   simp only [List.getElem?_cons_zero, List.getElem?_cons_succ] at kc0 kc1 kd0 kd1
   have Z := (K3.set_ 0 (.string x)).set_ 1 (.string y)
   have y0 := Z.cell 0; have y1 := Z.cell 1
   simp only [List.set_cons_zero, List.set_cons_succ, List.getElem?_cons_zero, List.getElem?_cons_succ] at y0 y1
   have HK := Lib.hid K2; have HGR := Lib.hid K4
   clear K1 K2 K3 K4 Z
   go_wp2_with fail
   refine bodyPost_ret (v := .agg #[.string x, .string y]) (by simp [results, Tryz.results195, go_sem, y0, y1]) rfl ?_
   have hq := sets2_grown w5 (w.heap.size + 1) (.string x) (.string y)
   exact ⟨x, y, rfl, zx, zy, (HK.out.grown hq (fun e => by injection e with e; omega)).mono (by omega), grow_own HGR.out hq (fun k e => by injection e with e; omega)⟩
 ·skip
  have HM := HM3
  clear HM3
  obtain ⟨K1, K2, ⟨rx, ry, K3⟩, K4, K5, K6⟩ := HM.out
  have kc0 := K1.cell 0; have kc1 := K1.cell 1
  have kd0 := K3.cell 0; have kd1 := K3.cell 1
  have kf0 := K3.frozen 0; have kf1 := K3.frozen 1
  simp only [List.getElem?_cons_zero, List.getElem?_cons_succ] at kc0 kc1 kd0 kd1
  have Z := (K3.set_ 0 (.string x)).set_ 1 (.string y)
  have y0 := Z.cell 0; have y1 := Z.cell 1
  simp only [List.set_cons_zero, List.set_cons_succ, List.getElem?_cons_zero, List.getElem?_cons_succ] at y0 y1
  have HK := Lib.hid K2; have HGR := Lib.hid K4
  clear K1 K2 K3 K4 Z
  go_wp2_with fail
  refine bodyPost_ret (v := .agg #[.string x, .string y]) (by simp [results, Tryz.results195, go_sem, y0, y1]) rfl ?_
  have hq := sets2_grown w4 (w.heap.size + 1) (.string x) (.string y)
  exact ⟨x, y, rfl, zx, zy, (HK.out.grown hq (fun e => by injection e with e; omega)).mono (by omega), grow_own HGR.out hq (fun k e => by injection e with e; omega)⟩
 ·skip
  go_wp2_with fail
  refine (cur_one HS.out (G.out _ HM3.out.2.2.2.1) hp HM3.out.2.1 (by omega) (by decide) (by decide)).mono ?_; rintro e w5 ⟨b1, rfl, hc5, hg5⟩
  have HM5 := Lib.hid (HM3.out.draw hg5 hc5)
  clear hc5 hg5 HM3
  rcases b1
  ·skip
   have g0 := HM5.out.1.cell 0; have g1 := HM5.out.1.cell 1; have e0 := HM5.out.1.frozen 0; have e1 := HM5.out.1.frozen 1
   simp only [List.getElem?_cons_zero, List.getElem?_cons_succ] at g0 g1
   have HM := Lib.hid ((HM5.out.put0 (x := ⟨#[49, 52]⟩)).put1 (x := ⟨#[49, 50, 51, 52]⟩))
   clear HM5
   obtain ⟨K1, K2, ⟨rx, ry, K3⟩, K4, K5, K6⟩ := HM.out
   have kc0 := K1.cell 0; have kc1 := K1.cell 1
   have kd0 := K3.cell 0; have kd1 := K3.cell 1
   have kf0 := K3.frozen 0; have kf1 := K3.frozen 1
   simp only [List.getElem?_cons_zero, List.getElem?_cons_succ] at kc0 kc1 kd0 kd1
   have Z := (K3.set_ 0 (.string ⟨#[49, 52]⟩)).set_ 1 (.string ⟨#[49, 50, 51, 52]⟩)
   have y0 := Z.cell 0; have y1 := Z.cell 1
   simp only [List.set_cons_zero, List.set_cons_succ, List.getElem?_cons_zero, List.getElem?_cons_succ] at y0 y1
   have HK := Lib.hid K2; have HGR := Lib.hid K4
   clear K1 K2 K3 K4 Z
   go_wp2_with fail
   refine bodyPost_ret (v := .agg #[.string ⟨#[49, 52]⟩, .string ⟨#[49, 50, 51, 52]⟩]) (by simp [results, Tryz.results195, go_sem, y0, y1]) rfl ?_
   have hq := sets2_grown ((w5.setCell ⟨b, 0, none⟩ (.string ⟨#[49, 52]⟩)).setCell ⟨b, 1, none⟩ (.string ⟨#[49, 50, 51, 52]⟩)) (w.heap.size + 1) (.string ⟨#[49, 52]⟩) (.string ⟨#[49, 50, 51, 52]⟩)
   exact ⟨⟨#[49, 52]⟩, ⟨#[49, 50, 51, 52]⟩, rfl, by decide, by decide, (HK.out.grown hq (fun e => by injection e with e; omega)).mono (by omega), grow_own HGR.out hq (fun k e => by injection e with e; omega)⟩
  ·skip
   have HM := HM5
   clear HM5
   obtain ⟨K1, K2, ⟨rx, ry, K3⟩, K4, K5, K6⟩ := HM.out
   have kc0 := K1.cell 0; have kc1 := K1.cell 1
   have kd0 := K3.cell 0; have kd1 := K3.cell 1
   have kf0 := K3.frozen 0; have kf1 := K3.frozen 1
   simp only [List.getElem?_cons_zero, List.getElem?_cons_succ] at kc0 kc1 kd0 kd1
   have Z := (K3.set_ 0 (.string x)).set_ 1 (.string y)
   have y0 := Z.cell 0; have y1 := Z.cell 1
   simp only [List.set_cons_zero, List.set_cons_succ, List.getElem?_cons_zero, List.getElem?_cons_succ] at y0 y1
   have HK := Lib.hid K2; have HGR := Lib.hid K4
   clear K1 K2 K3 K4 Z
   go_wp2_with fail
   refine bodyPost_ret (v := .agg #[.string x, .string y]) (by simp [results, Tryz.results195, go_sem, y0, y1]) rfl ?_
   have hq := sets2_grown w5 (w.heap.size + 1) (.string x) (.string y)
   exact ⟨x, y, rfl, zx, zy, (HK.out.grown hq (fun e => by injection e with e; omega)).mono (by omega), grow_own HGR.out hq (fun k e => by injection e with e; omega)⟩
set_option maxHeartbeats 4000000 in
set_option maxRecDepth 100000 in
theorem cur_anyCalls {A B : Option Addr} {n c a p st m d : Nat} {nm : ByteArray} {L : List ByteArray} {w0 w : World} (hS : Src w0 A n) (hb : Below w0.heap.size w0 w) (hp : w0.heap.size ≤ p) (hc : Cur w p A n c a) (ha : a ≤ 900000) (hn : L.length = m) (h : Strs w B L) (hz : m ≤ 1048576) (hs : ∀ s ∈ L, s.size ≤ 16777216) (hnm : nm.size ≤ 16777216) (hst : I64 (st : Int)) :
  Calls Tryz.prog 116 #[.pointer (some ⟨p, 0, none⟩), .agg #[.string nm, .int .i64 st, .slice B m d]] w fun e w' => ∃ kb ks : ByteArray, e = .returned (.agg #[.string kb, .string ks]) ∧ kb.size ≤ 8 ∧ ks.size ≤ 8 ∧ Cur w' p A n c (a + 20) ∧ w.grownBy w' (some p) := by
 have hpw := hc.lt
 have N0 := (Blk.at_ w 25 [.string nm, .int .i64 (st : Int), .slice B m d] (b := w.heap.size) rfl).alloc (.cells #[.string ⟨#[]⟩, .string ⟨#[]⟩] 27)
 have R0 := Blk.at_ (w.alloc (.cells #[.string nm, .int .i64 (st : Int), .slice B m d] 25)) 27 [.string ⟨#[]⟩, .string ⟨#[]⟩] (b := w.heap.size + 1) (by simp)
 have b0 : Below w.heap.size w ((w.alloc (.cells #[.string nm, .int .i64 (st : Int), .slice B m d] 25)).alloc (.cells #[.string ⟨#[]⟩, .string ⟨#[]⟩] 27)) := by (repeat' (first | (with_reducible exact Below.refl _ _) | (with_reducible assumption) | (with_reducible refine below_drewN ?_ _) | (with_reducible refine Below.drew ?_) | (with_reducible refine below_alloc ?_ _) | (with_reducible refine Below.alloc ?_ ?_ _) | (with_reducible refine Below.setCell ?_ ?_ _) | (with_reducible refine below_go ?_ (by with_reducible assumption)) | (with_reducible refine below_then (by with_reducible assumption) ?_ ?_) | go_size))
 have G : Hid (∀ u : World, w.grownBy u (some p) → Below w0.heap.size w0 u) := Lib.hid (fun u hg => grown_below hb hp hg)
 have HS := Lib.hid hS
 have H0 := h.up b0
 clear hS hb
 go_in
 go_wp2_with fail
 obtain ⟨w1, hw1⟩ : ∃ u, u = ((w.alloc (.cells #[.string nm, .int .i64 (st : Int), .slice B m d] 25)).alloc (.cells #[.string ⟨#[]⟩, .string ⟨#[]⟩] 27)) := ⟨_, rfl⟩
 have z1 : w1.heap.size = w.heap.size + 2 := by rw [hw1]; simp
 rw [← hw1] at b0 R0 N0 H0 ⊢
 clear hw1
 refine (spec_l4Good hn H0 hz hs hnm hst).mono ?_; rintro e w2 ⟨rfl, hb2⟩
 have g2 : w.grownBy w2 (some p) := grownBy_trans (grown_any b0 _) (grown_any hb2 _)
 have R2 := R0.up hb2
 have N2 := N0.up hb2
 have C2 := (hc.up b0).up hb2
 have s2 := hb2.size
 clear R0 N0 hc H0 h b0 hb2
 rcases hg : goodM nm (st : Int) L
 ·have kd0 := R2.cell 0; have kd1 := R2.cell 1
  have kf0 := R2.frozen 0; have kf1 := R2.frozen 1
  simp only [List.getElem?_cons_zero, List.getElem?_cons_succ] at kd0 kd1
  have Z := (R2.set_ 0 (.string ⟨#[49, 52]⟩)).set_ 1 (.string ⟨#[49, 50, 51, 52]⟩)
  have y0 := Z.cell 0; have y1 := Z.cell 1
  simp only [List.set_cons_zero, List.set_cons_succ, List.getElem?_cons_zero, List.getElem?_cons_succ] at y0 y1
  go_wp2_with fail
  refine bodyPost_ret (v := .agg #[.string ⟨#[49, 52]⟩, .string ⟨#[49, 50, 51, 52]⟩]) (by simp [results, Tryz.results116, go_sem, y0, y1]) rfl ?_
  have hq := sets2_grown w2 (w.heap.size + 1) (.string ⟨#[49, 52]⟩) (.string ⟨#[49, 50, 51, 52]⟩)
  exact ⟨_, _, rfl, by decide, by decide, (C2.grown hq (fun e => by injection e with e; omega)).mono (by omega), grow_own g2 hq (fun k e => by injection e with e; omega)⟩
 ·have h38 : 3 ≤ st ∧ st ≤ 8 := by have := goodM_t hg; omega
  have n0 := N2.cell 0; have n1 := N2.cell 1; have n2 := N2.cell 2
  simp only [List.getElem?_cons_zero, List.getElem?_cons_succ] at n0 n1 n2
  go_wp2_with fail
  refine (cur_calls HS.out (G.out _ g2) hp C2 (by omega) h38.1 h38.2).mono ?_; rintro e w3 ⟨x, y, rfl, zx, zy, hc3, hg3⟩
  have g3 := grownBy_trans g2 hg3
  have R3 := R2.grown hg3 (fun e => by injection e with e; omega)
  have s3 := hg3.size
  have K3 := Blk.at_ w3 27 [.string x, .string y] (b := w3.heap.size) rfl
  have a3 : Below w3.heap.size w3 (w3.alloc (.cells #[.string x, .string y] 27)) := by (repeat' (first | (with_reducible exact Below.refl _ _) | (with_reducible assumption) | (with_reducible refine below_drewN ?_ _) | (with_reducible refine Below.drew ?_) | (with_reducible refine below_alloc ?_ _) | (with_reducible refine Below.alloc ?_ ?_ _) | (with_reducible refine Below.setCell ?_ ?_ _) | (with_reducible refine below_go ?_ (by with_reducible assumption)) | (with_reducible refine below_then (by with_reducible assumption) ?_ ?_) | go_size))
  have HM3 := Lib.hid (show CSt w (w3.alloc (.cells #[.string x, .string y] 27)) p A n c (a + 10) w3.heap.size x y from ⟨K3, hc3.up a3, ⟨_, _, R3.up a3⟩, grownBy_trans g3 (grown_any a3 _), hpw, by omega⟩)
  clear R2 R3 hc3 hg3 K3 a3 g2 g3 C2 N2 n0 n1 n2
  go_upto_region 4 with fail
  obtain ⟨w4, hw4⟩ : ∃ u, u = w3.alloc (.cells #[.string x, .string y] 27) := ⟨_, rfl⟩
  obtain ⟨b, hb⟩ : ∃ b, b = w3.heap.size := ⟨_, rfl⟩
  rw [← hw4] at HM3 ⊢
  rw [← hb] at HM3 ⊢
  clear hw4 hb
  go_wp2_with fail
  refine (cur_one HS.out (G.out _ HM3.out.2.2.2.1) hp HM3.out.2.1 (by omega) (by decide) (by decide)).mono ?_; rintro e w5 ⟨b1, rfl, hc5, hg5⟩
  have HM5 := Lib.hid (HM3.out.draw hg5 hc5)
  clear hc5 hg5 HM3
  rcases b1
  ·skip
   have HM := HM5
   clear HM5
   obtain ⟨K1, K2, ⟨rx, ry, K3⟩, K4, K5, K6⟩ := HM.out
   have kc0 := K1.cell 0; have kc1 := K1.cell 1
   have kd0 := K3.cell 0; have kd1 := K3.cell 1
   have kf0 := K3.frozen 0; have kf1 := K3.frozen 1
   simp only [List.getElem?_cons_zero, List.getElem?_cons_succ] at kc0 kc1 kd0 kd1
   have Z := (K3.set_ 0 (.string x)).set_ 1 (.string y)
   have y0 := Z.cell 0; have y1 := Z.cell 1
   simp only [List.set_cons_zero, List.set_cons_succ, List.getElem?_cons_zero, List.getElem?_cons_succ] at y0 y1
   have HK := Lib.hid K2; have HGR := Lib.hid K4
   clear K1 K2 K3 K4 Z
   go_wp2_with fail
   refine bodyPost_ret (v := .agg #[.string x, .string y]) (by simp [results, Tryz.results116, go_sem, y0, y1]) rfl ?_
   have hq := sets2_grown w5 (w.heap.size + 1) (.string x) (.string y)
   exact ⟨x, y, rfl, zx, zy, (HK.out.grown hq (fun e => by injection e with e; omega)).mono (by omega), grow_own HGR.out hq (fun k e => by injection e with e; omega)⟩
  ·go_wp2_with fail
   have hl := lit_strs2 w5 9 [⟨#[]⟩, ⟨#[120]⟩, ⟨#[49]⟩, ⟨#[49, 51]⟩, ⟨#[57, 57]⟩]
   have a5 : ∀ o : Obj, Below w5.heap.size w5 (w5.alloc o) := fun o => (Below.refl _ _).alloc (Nat.le_refl _) o
   have hs5 := HM5.out.1.lt
   have HM6 := Lib.hid (HM5.out.up (a5 (.cells #[.string ⟨#[]⟩, .string ⟨#[120]⟩, .string ⟨#[49]⟩, .string ⟨#[49, 51]⟩, .string ⟨#[57, 57]⟩] 9)))
   refine (cur_of HS.out (G.out _ HM6.out.2.2.2.1) hp HM6.out.2.1 (by omega) rfl hl (by decide) (by decide) (fun b o e => by injection e with e; injection e with e; have := HM6.out.2.2.2.2; omega)).mono ?_; rintro e w7 ⟨z, hz, rfl, hc7, hg7⟩
   have HM7 := Lib.hid (HM6.out.draw hg7 hc7)
   have zz : z.size ≤ 8 := by
    simp only [List.mem_cons, List.not_mem_nil, or_false] at hz
    rcases hz with rfl | rfl | rfl | rfl | rfl <;> decide
   clear hc7 hg7 hz hl a5 HM5 HM6
   have g0 := HM7.out.1.cell 0; have e0 := HM7.out.1.frozen 0
   simp only [List.getElem?_cons_zero, List.getElem?_cons_succ] at g0
   have HM := Lib.hid (HM7.out.put0 (x := z))
   clear HM7
   obtain ⟨K1, K2, ⟨rx, ry, K3⟩, K4, K5, K6⟩ := HM.out
   have kc0 := K1.cell 0; have kc1 := K1.cell 1
   have kd0 := K3.cell 0; have kd1 := K3.cell 1
   have kf0 := K3.frozen 0; have kf1 := K3.frozen 1
   simp only [List.getElem?_cons_zero, List.getElem?_cons_succ] at kc0 kc1 kd0 kd1
   have Z := (K3.set_ 0 (.string z)).set_ 1 (.string y)
   have y0 := Z.cell 0; have y1 := Z.cell 1
   simp only [List.set_cons_zero, List.set_cons_succ, List.getElem?_cons_zero, List.getElem?_cons_succ] at y0 y1
   have HK := Lib.hid K2; have HGR := Lib.hid K4
   clear K1 K2 K3 K4 Z
   go_wp2_with fail
   refine bodyPost_ret (v := .agg #[.string z, .string y]) (by simp [results, Tryz.results116, go_sem, y0, y1]) rfl ?_
   have hq := sets2_grown (w7.setCell ⟨b, 0, none⟩ (.string z)) (w.heap.size + 1) (.string z) (.string y)
   exact ⟨z, y, rfl, zz, zy, (HK.out.grown hq (fun e => by injection e with e; omega)).mono (by omega), grow_own HGR.out hq (fun k e => by injection e with e; omega)⟩
theorem five_cal : ∀ x ∈ [(⟨#[112]⟩ : ByteArray), ⟨#[112]⟩, ⟨#[98]⟩, ⟨#[115]⟩, ⟨#[98]⟩], calT x ∧ x.size = 1 := by
 intro x hx
 simp only [List.mem_cons, List.not_mem_nil, or_false] at hx
 rcases hx with rfl | rfl | rfl | rfl | rfl
 ·exact ⟨calT_p, rfl⟩
 ·exact ⟨calT_p, rfl⟩
 ·exact ⟨calT_b, rfl⟩
 ·exact ⟨calT_s, rfl⟩
 ·exact ⟨calT_b, rfl⟩
set_option maxHeartbeats 2000000 in
set_option maxRecDepth 100000 in
theorem cur_touch {A : Option Addr} {n c a p M : Nat} {w0 w : World} (hS : Src w0 A n) (hb : Below w0.heap.size w0 w) (hp : w0.heap.size ≤ p) (hc : Cur w p A n c a) (ha : a ≤ 1000000) (hM : M ≤ 20) (hM1 : 1 ≤ M) :
  Calls Tryz.prog 119 #[.pointer (some ⟨p, 0, none⟩), .int .i64 M] w fun e w' => ∃ t : ByteArray, e = .returned (.string t) ∧ calT t ∧ 1 ≤ t.size ∧ t.size ≤ 2 * M ∧ Cur w' p A n c (a + 30) ∧ w.grownBy w' (some p) := by
 have G : Hid (∀ u : World, w.grownBy u (some p) → Below w0.heap.size w0 u) := Lib.hid (fun u hg => grown_below hb hp hg)
 have HS := Lib.hid hS
 have HF := Lib.hid five_cal
 have hpw := hc.lt
 go_in
 go_wp2_with fail
 refine (cur_pick hS hb hp hc (by omega) (by omega) (by omega)).mono ?_; rintro e w1 ⟨x, rfl, ⟨x0, x1⟩, hc1, hg1⟩
 obtain ⟨X, rfl⟩ := Int.eq_ofNat_of_zero_le x0
 have hX : X + 1 ≤ M := by omega
 have HG1 := Lib.hid hg1
 have HC1 := Lib.hid hc1
 clear x0 x1 hb hc hS hc1 hg1
 go_wp2
 go_loopw [5, 6] (fun v i wr => ∃ (k : Nat) (t : ByteArray), k ≤ X + 1 ∧ i = .int .i64 k ∧ v = .string t ∧ t.size + k = X + 1 ∧ Hid (calT t) ∧ Hid (Cur wr p A n c (a + 1 + t.size)) ∧ Hid (w.grownBy wr (some p))) (fun _ i _ => (intOf i).toNat)
 case atStart => exact ⟨X + 1, ⟨#[]⟩, Nat.le_refl _, by go_num, rfl, by rw [show (⟨#[]⟩ : ByteArray).size = 0 from rfl]; omega, Lib.hid calT_nil, Lib.hid (HC1.out.mono (by omega)), HG1⟩
 case round =>
  obtain ⟨k, t, hk, rfl, rfl, htk, HT, HC, HG⟩ := hrel
  rename World => wr
  by_cases h0 : 0 < k
  ·have hI : (0 : Int) < (k : Int) := by omega
   have hl := lit_strs2 wr 9 [⟨#[112]⟩, ⟨#[112]⟩, ⟨#[98]⟩, ⟨#[115]⟩, ⟨#[98]⟩]
   have hpr := HC.out.lt
   go_wp2_with fail
   refine (cur_of HS.out (G.out _ (grownBy_trans HG.out (World.grownBy_alloc _ _ _))) hp (HC.out.up ((Below.refl _ _).alloc (Nat.le_refl _) _)) (by omega) rfl hl (by decide) (by decide) (fun b o e => by injection e with e; injection e with e; omega)).mono ?_; rintro e w2 ⟨y, hy, rfl, hc2, hg2⟩
   have hyc := HF.out y hy
   have HY := Lib.hid hyc.1
   have hy1 := hyc.2
   have HC2 := Lib.hid hc2
   have HG2 := Lib.hid (grownBy_trans (grownBy_trans HG.out (World.grownBy_alloc _ _ _)) hg2)
   have hty : (t ++ y).size = t.size + 1 := by rw [ByteArray.size_append, hy1]
   have HCA := Lib.hid (calT_app HT.out HY.out)
   clear hc2 hg2 hy hyc hl
   have hov : ¬ 9223372036854775807 < t.size + y.size := by omega
   go_wp2
   go_roundw
   case rel => exact ⟨k - 1, t ++ y, by omega, by go_num, rfl, by omega, HCA, Lib.hid (HC2.out.mono (by omega)), HG2⟩
   case measure => simp [intOf]; omega
  ·obtain rfl : k = 0 := by omega
   have hI : ¬ (0 : Int) < ((0 : Nat) : Int) := by omega
   go_wp2_with fail
   refine (cur_one HS.out (G.out _ HG.out) hp HC.out (by omega) (by decide) (by decide)).mono ?_; rintro e w3 ⟨b, rfl, hc3, hg3⟩
   have HC3 := Lib.hid hc3
   have HG3 := Lib.hid (grownBy_trans HG.out hg3)
   clear hc3 hg3
   have hov : ¬ 9223372036854775807 < t.size + t.size := by omega
   have hsz : (t ++ t).size = t.size + t.size := ByteArray.size_append
   rcases b
   ·go_wp2
    go_ret
    exact ⟨t, rfl, HT.out, by omega, by omega, HC3.out.mono (by omega), HG3.out⟩
   ·go_wp2
    go_ret
    exact ⟨t ++ t, rfl, calT_app HT.out HT.out, by omega, by omega, HC3.out.mono (by omega), HG3.out⟩
end Go.Proofs.YtidolgonmimicaaGreat
namespace Go.Proofs.YtidolgonmimicaaGreat
open Go.ChangeShapes Go.WideShapes Go.ChangeAt Go.RowKit Go.Deep
set_option maxHeartbeats 1000000 in
set_option maxRecDepth 100000 in
theorem cur_spoilt {A : Option Addr} {n c a p B : Nat} {t v : ByteArray} {w0 w : World} (hS : Src w0 A n) (hb : Below w0.heap.size w0 w) (hp : w0.heap.size ≤ p) (hc : Cur w p A n c a) (ha : a ≤ 1000000) (ht : t.size ≤ B) (hB : B ≤ 40000) (hv0 : 0 < v.size) (hv : v.size ≤ 200) :
  Calls Tryz.prog 73 #[.pointer (some ⟨p, 0, none⟩), .string t, .string v] w fun e w' => ∃ s : ByteArray, e = .returned (.string s) ∧ s.size ≤ B + 2 ∧ Cur w' p A n c (a + 20) ∧ w.grownBy w' (some p) := by
 have HS := Lib.hid hS
 have G : Hid (∀ u : World, w.grownBy u (some p) → Below w0.heap.size w0 u) := Lib.hid (fun u hg => grown_below hb hp hg)
 go_in
 go_wp2_with fail
 refine (cur_pick hS hb hp hc (by omega) (by decide) (by decide)).mono ?_; rintro e w1 ⟨x, rfl, ⟨x0, x1⟩, hc1, hg1⟩
 obtain ⟨k0, rfl⟩ := Int.eq_ofNat_of_zero_le x0
 have hk0 : k0 ≤ 1 := by omega
 have hk1 : (1 : Int) + (k0 : Int) = ((k0 + 1 : Nat) : Int) := by omega
 clear hS x0 x1
 go_wp2
 go_loopw [1, 7, 8, 9, 44, 55] (fun vt vn _ _ _ _ wr => ∃ (k : Nat) (s : ByteArray), vt = .string s ∧ vn = .int .i64 k ∧ k ≤ 2 ∧ s.size + k ≤ B + 2 ∧ Cur wr p A n c (a + 1 + 5 * (2 - k)) ∧ Hid (w.grownBy wr (some p))) (fun _ vn _ _ _ _ _ => (intOf vn).toNat)
 case atStart => exact ⟨k0 + 1, t, rfl, rfl, by omega, by omega, hc1.mono (by omega), Lib.hid hg1⟩
 case round =>
  obtain ⟨k, s, rfl, rfl, hk, hs, hc, HG⟩ := hrel
  rename World => wr
  by_cases h0 : 0 < k
  ·have hI : (k : Int) > 0 := by omega
   by_cases h1 : 0 < s.size
   ·have hJ : (s.size : Int) > 0 := by omega
    go_wp2_with fail
    refine (cur_pickL HS.out (G.out _ HG.out) hp hc (by omega) (by omega) (by omega)).mono ?_; rintro e w2 ⟨y, rfl, ⟨y0, y1⟩, hc2, hg2⟩
    obtain ⟨i, rfl⟩ := Int.eq_ofNat_of_zero_le y0
    have hi : i < s.size := by omega
    have HG2 := Lib.hid (grownBy_trans HG.out hg2)
    clear y0 y1 hg2 HG hc
    go_wp2_with fail
    refine (cur_pick HS.out (G.out _ HG2.out) hp hc2 (by omega) (by omega) (by omega)).mono ?_; rintro e w3 ⟨z, rfl, ⟨z0, z1⟩, hc3, hg3⟩
    obtain ⟨j, rfl⟩ := Int.eq_ofNat_of_zero_le z0
    have hj : j < v.size := by omega
    have HG3 := Lib.hid (grownBy_trans HG2.out hg3)
    clear z0 z1 hg3 HG2 hc2
    have cv : ∀ x : Int, (convert 22 9 (.slice (some ⟨w3.heap.size, 0, none⟩) 1 1)).run Tryz.prog (w3.alloc (.cells #[.int .u8 x] 5)) = .ok (.string (strOfNums [x])) (w3.alloc (.cells #[.int .u8 x] 5)) := fun x =>
     run_convert_bytes_arg _ 22 5 Tryz.underlying22 Tryz.underlying5 w3.heap.size 0 1 1 [x] rfl (fun i hi => by
      obtain rfl : i = 0 := by omega
      exact (Blk.at_ w3 5 [.int .u8 x] rfl).cell 0) 9 Tryz.underlying9
    have hbA : ∀ x : Int, Below w3.heap.size w3 (w3.alloc (.cells #[.int .u8 x] 5)) := fun x => below_alloc (Below.refl _ _) _
    go_wp2_with fail
    obtain ⟨x5, hx5⟩ : ∃ x : Int, x = ((v[j].toNat : Nat) : Int) := ⟨_, rfl⟩
    rw [← hx5]
    obtain ⟨W, hW⟩ : ∃ W, W = strOfNums [x5] := ⟨_, rfl⟩
    have hW1 : W.size = 1 := by rw [hW]; rfl
    rw [← hW]
    have hb4 := hbA x5
    obtain ⟨w4, hw4⟩ : ∃ u, u = w3.alloc (.cells #[.int .u8 x5] 5) := ⟨_, rfl⟩
    rw [← hw4] at hb4 ⊢
    have hc4 := hc3.up hb4
    have HG4 := Lib.hid (grownBy_trans HG3.out (grown_any hb4 _))
    clear cv hbA hx5 hW hw4 hc3 HG3 hb4
    refine (cur_pick HS.out (G.out _ HG4.out) hp hc4 (by omega) (by decide) (by decide)).mono ?_; rintro e w5 ⟨z, rfl, ⟨z0, z1⟩, hc5, hg5⟩
    have HG5 := Lib.hid (grownBy_trans HG4.out hg5)
    clear hg5 HG4 hc4
    have hsI : ¬ 9223372036854775807 < i + 1 := by omega
    have hsI2 : ¬ 9223372036854775807 < i + 1 + (s.size - i) := by omega
    have hsI3 : ¬ 9223372036854775807 < i + 1 + (s.size - (i + 1)) := by omega
    have hsI4 : ¬ 9223372036854775807 < i + (s.size - (i + 1)) := by omega
    have hz3 : z = 0 ∨ z = 1 ∨ z = 2 := by omega
    rcases hz3 with rfl | rfl | rfl
    ·have hsz : (s.extract 0 i ++ W ++ s.extract i s.size).size + (k - 1) ≤ B + 2 := by simp only [ByteArray.size_append, ByteArray.size_extract]; omega
     clear hsI hsI2 hsI3 hsI4 z0 z1
     have hq1 : ¬ 9223372036854775807 < (s.extract 0 i).size + W.size := by simp only [ByteArray.size_extract]; omega
     go_wp2
     go_quiet (fail)
     go_wp2
     go_roundw
     case rel => exact ⟨k - 1, s.extract 0 i ++ W ++ s.extract i s.size, rfl, by go_num, by omega, hsz, (hc5.up (below_drewN (Below.refl _ _) _)).mono (by omega), Lib.hid (grownBy_trans HG5.out (grown_any (below_drewN (Below.refl _ _) _) _))⟩
     case measure => simp [intOf]; omega
    ·have hsz : (s.extract 0 i ++ W ++ s.extract (i + 1) s.size).size + (k - 1) ≤ B + 2 := by simp only [ByteArray.size_append, ByteArray.size_extract]; omega
     clear hsI hsI2 hsI3 hsI4 z0 z1
     have hq1 : ¬ 9223372036854775807 < (s.extract 0 i).size + W.size := by simp only [ByteArray.size_extract]; omega
     go_wp2
     go_quiet (fail)
     go_wp2
     go_roundw
     case rel => exact ⟨k - 1, s.extract 0 i ++ W ++ s.extract (i + 1) s.size, rfl, by go_num, by omega, hsz, (hc5.up (below_drewN (Below.refl _ _) _)).mono (by omega), Lib.hid (grownBy_trans HG5.out (grown_any (below_drewN (Below.refl _ _) _) _))⟩
     case measure => simp [intOf]; omega
    ·have hsz : (s.extract 0 i ++ s.extract (i + 1) s.size).size + (k - 1) ≤ B + 2 := by simp only [ByteArray.size_append, ByteArray.size_extract]; omega
     clear hsI hsI2 hsI3 hsI4 z0 z1
     have hq1 : ¬ 9223372036854775807 < (s.extract 0 i).size + W.size := by simp only [ByteArray.size_extract]; omega
     go_wp2
     go_quiet (fail)
     go_wp2
     go_roundw
     case rel => exact ⟨k - 1, s.extract 0 i ++ s.extract (i + 1) s.size, rfl, by go_num, by omega, hsz, (hc5.up (below_drewN (Below.refl _ _) _)).mono (by omega), Lib.hid (grownBy_trans HG5.out (grown_any (below_drewN (Below.refl _ _) _) _))⟩
     case measure => simp [intOf]; omega
   ·have hJ : ¬ (s.size : Int) > 0 := by omega
    go_wp2
    go_ret
    exact ⟨s, rfl, by omega, hc.mono (by omega), HG.out⟩
  ·have hI : ¬ (k : Int) > 0 := by omega
   go_wp2
   go_ret
   exact ⟨s, rfl, by omega, hc.mono (by omega), HG.out⟩
end Go.Proofs.YtidolgonmimicaaGreat
namespace Go.Proofs.YtidolgonmimicaaGreat
open Go.ChangeShapes Go.WideShapes Go.ChangeAt Go.RowKit Go.Deep
theorem turnC {P : Program} {f : FuncId} {args : Array Value} {w : World} {v : Value} (h : Calls P f args w fun e w' => e = .returned v ∧ w = w') : Calls P f args w fun e w' => e = .returned v ∧ w' = w :=
 h.mono fun _ _ ⟨he, hw⟩ => ⟨he, hw.symm⟩
set_option maxRecDepth 100000 in
set_option maxHeartbeats 1000000 in
theorem impl_leadHead {A : Option Addr} {n c st : Nat} {nm : ByteArray} {l : List ByteArray} {w : World} (hn : l.length = n) (h : Strs w A l) (hz : n ≤ 1048576) (hs : ∀ s ∈ l, s.size ≤ 16777216) (h8 : st ≤ 8) (hg : ∀ s ∈ l, isDash s = true ∨ validD s = true) :
  Calls Tryz.prog 197 #[.agg #[.string nm, .int .i64 st, .slice A n c]] w fun e w' => e = .returned (.string (rAt (roundsS st) l n)) ∧ Below w.heap.size w w' := by
 have b0 : Below w.heap.size w (w.alloc (.cells ⟨[.string nm, .int .i64 st, .slice A n c]⟩ 25)) := by (repeat' (first | (with_reducible exact Below.refl _ _) | (with_reducible assumption) | (with_reducible refine below_drewN ?_ _) | (with_reducible refine Below.drew ?_) | (with_reducible refine below_alloc ?_ _) | (with_reducible refine Below.alloc ?_ ?_ _) | (with_reducible refine Below.setCell ?_ ?_ _) | (with_reducible refine below_go ?_ (by with_reducible assumption)) | (with_reducible refine below_then (by with_reducible assumption) ?_ ?_) | go_size))
 have hr8 : (roundsS st).size ≤ 8 := by rw [rounds_size st (by omega)]; exact h8
 have HG := Lib.hid hg
 have HS := Lib.hid hs
 clear hg hs
 have K0 := Blk.at_ w 25 [.string nm, .int .i64 st, .slice A n c] (b := w.heap.size) rfl
 go_in
 go_wp2
 obtain ⟨w0, hw0⟩ : ∃ u, u = (w.alloc (.cells #[.string nm, .int .i64 st, .slice A n c] 25)) := ⟨_, rfl⟩
 rw [← hw0] at b0 K0 ⊢
 clear hw0
 have k1 := K0.cell 1; have k2 := K0.cell 2
 simp only [List.getElem?_cons_zero, List.getElem?_cons_succ] at k1 k2
 refine wp_region_still_tail 5 (by kernel_rfl) (by kernel_rfl) ?_
 simp only [List.take_succ_cons, List.take_zero, List.drop_succ_cons, List.drop_zero]
 repeat still_step
 still_call (turnC (impl_rounds h8))
 repeat still_step
 refine wpStill_nil ?_
 change wpList _ _ _ _ _ w0.drew
 go_wp2_with fail
 refine (impl_rowsUnder hr8 hn (h.up b0).drew (by omega) HS.out HG.out).mono ?_; rintro e w1 ⟨A1, c1, rfl, ho, hbd⟩
 have hb1 := below_of_drew hbd
 obtain ⟨g, rfl, _, _, gc, _⟩ := ho.at_ (by omega)
 have hrow : (rowsL (roundsS st) l (n + 1))[n]? = some (rAt (roundsS st) l n) := by rw [rowsL, List.getElem?_map, List.getElem?_range (by omega)]; rfl
 have cg := gc n _ 0 _ hrow rfl
 simp only [Nat.mul_one, Nat.add_zero] at cg
 clear gc hrow
 go_wp2
 go_ret
 exact ⟨rfl, below_go b0 hb1⟩
theorem goodK_all {nm : ByteArray} {st : Nat} {l : List ByteArray} {kb ks : ByteArray} (h : goodK nm (st : Int) l kb ks = true) :
  (3 ≤ st ∧ st ≤ 8) ∧ (1 ≤ l.length ∧ l.length ≤ 40) ∧ (∀ c ∈ l, goodChange st c = true) ∧ goodChange st kb = true ∧ goodChange st ks = true := by
 obtain ⟨h1, h2, h3⟩ := goodK_t h
 obtain ⟨_, h5, h6, h7⟩ := goodM_t h1
 exact ⟨by omega, h6, allCh_mem h7, h2, h3⟩
theorem chOf_good {nm : ByteArray} {st : Nat} {l : List ByteArray} {kb ks : ByteArray} (h : goodK nm (st : Int) l kb ks = true) (s : ByteArray) : goodChange st (chOf l kb ks s) = true := by
 obtain ⟨_, h2, h3, h4, h5⟩ := goodK_all h
 rw [chOf]
 split
 ·exact h4
 ·split
  ·exact h5
  ·exact h3 _ (List.mem_of_getElem? (lastC_at (by omega)))
theorem set_good {nm : ByteArray} {st : Nat} {l : List ByteArray} {kb ks : ByteArray} (h : goodK nm (st : Int) l kb ks = true) (s : ByteArray) (k : Nat) : ∀ c ∈ l.set k (chOf l kb ks s), goodChange st c = true := by
 intro c hc
 rcases List.mem_or_eq_of_mem_set hc with hc | rfl
 ·exact (goodK_all h).2.2.1 c hc
 ·exact chOf_good h s
set_option maxHeartbeats 1000000 in
theorem impl_callHead {A : Option Addr} {n c st : Nat} {nm : ByteArray} {l : List ByteArray} {kb ks : ByteArray} {s : ByteArray} {w : World} (hn : l.length = n) (h : Strs w A l) (hk : goodK nm (st : Int) l kb ks = true) :
  Calls Tryz.prog 124 #[.agg #[.string nm, .int .i64 st, .slice A n c], .agg #[.string kb, .string ks], .string s] w fun e w' => e = .returned (.string (callHd st l kb ks s)) ∧ Below w.heap.size w w' := by
 obtain ⟨h8, h40, hgl, hgb, hgs⟩ := goodK_all hk
 have b0 : Below w.heap.size w ((w.alloc (.cells ⟨[.string nm, .int .i64 st, .slice A n c]⟩ 25)).alloc (.cells ⟨[.string kb, .string ks]⟩ 27)) := by (repeat' (first | (with_reducible exact Below.refl _ _) | (with_reducible assumption) | (with_reducible refine below_drewN ?_ _) | (with_reducible refine Below.drew ?_) | (with_reducible refine below_alloc ?_ _) | (with_reducible refine Below.alloc ?_ ?_ _) | (with_reducible refine Below.setCell ?_ ?_ _) | (with_reducible refine below_go ?_ (by with_reducible assumption)) | (with_reducible refine below_then (by with_reducible assumption) ?_ ?_) | go_size))
 have e1 := Lib.hid (show rAt (roundsS st) (l.set (n - 1) (chOf l kb ks s)) n = callHd st l kb ks s by
  subst hn
  exact headX_set (by omega))
 have SG := Lib.hid (set_good hk s (n - 1))
 have HS := Lib.hid (fun (s' : ByteArray) (hs' : s' ∈ l) => show s'.size ≤ 16777216 from by have := goodChange_small (hgl s' hs'); omega)
 have sk1 := goodChange_small hgb
 have sk2 := goodChange_small hgs
 have hn40 : n ≤ 40 := by omega
 have hn1 : 0 < n := by omega
 have hI : I64 (st : Int) := by unfold I64; omega
 have hnm : nm.size ≤ 16777216 := by
  have h1 := (goodM_t (goodK_t hk).1).1
  rw [nameOk, Bool.and_eq_true] at h1
  have := inB_t h1.2
  omega
 clear hgl hgb hgs h40
 go_in
 go_wp2_with fail
 refine (impl_calledLead hn (h.up b0) (by omega) HS.out hnm hI hn1).mono ?_; rintro e w1 ⟨A1, c1, rfl, ho, hb1⟩
 go_wp2_with fail
 refine (impl_leadHead ho.len ho.recs (by omega) (fun x hx => by have := goodChange_small (SG.out x hx); omega) h8.2 (fun x hx => good_valid (SG.out x hx))).mono ?_; rw [e1.out]; rintro e w2 ⟨rfl, hb2⟩
 go_wp2
 go_ret
 exact ⟨rfl, below_go (below_go b0 hb1) hb2⟩
theorem own_lit3 (w : World) (E : TypeId) (x y z : ByteArray) {base : Nat} (hb : base ≤ w.heap.size) : Owned strE 1 E (w.alloc (.cells #[.string x, .string y, .string z] E)) base (some ⟨w.heap.size, 0, none⟩) 3 3 [x, y, z] :=
 ⟨strE_len, rfl, by simpa [strE] using World.ownsRow_lit (e := E) (base := base) (size := 1) w #[.string x, .string y, .string z] 3 hb (by unfold maxLen; omega) (by simp)⟩
def hds3 (st : Nat) (l : List ByteArray) (kb ks : ByteArray) : List ByteArray := [callHd st l kb ks ⟨#[112]⟩, callHd st l kb ks ⟨#[98]⟩, callHd st l kb ks ⟨#[115]⟩]
theorem callHd_good {nm : ByteArray} {st : Nat} {l : List ByteArray} {kb ks : ByteArray} (h : goodK nm (st : Int) l kb ks = true) (s : ByteArray) : goodRow (callHd st l kb ks s) = true ∧ (callHd st l kb ks s).size = st := by
 obtain ⟨h8, _⟩ := goodK_all h
 exact ⟨headX_good h8.1 h8.2 _ _, headX_size (by omega) _ _⟩
def lsOk (nm : ByteArray) (st : Int) (l : List ByteArray) (kb ks : ByteArray) : Bool := goodK nm st l kb ks
def lsR (nm : ByteArray) (st : Int) (l : List ByteArray) (kb ks : ByteArray) : List Bool := if goodK nm st l kb ks = true then (hds3 st.toNat l kb ks).map evenRow else []
set_option maxHeartbeats 2000000 in
set_option maxRecDepth 100000 in
theorem impl_callHeads {A : Option Addr} {n c st : Nat} {nm : ByteArray} {l : List ByteArray} {kb ks : ByteArray} {w : World} (hn : l.length = n) (h : Strs w A l) (hk : goodK nm (st : Int) l kb ks = true) :
  Calls Tryz.prog 122 #[.agg #[.string nm, .int .i64 st, .slice A n c], .agg #[.string kb, .string ks]] w fun e w' => ∃ A' c', e = .returned (.slice A' 3 c') ∧ Owned strE 1 9 w' w.heap.size A' 3 c' (hds3 st l kb ks) ∧ Below w.heap.size w w' := by
 have b0 : Below w.heap.size w ((w.alloc (.cells ⟨[.string nm, .int .i64 st, .slice A n c]⟩ 25)).alloc (.cells ⟨[.string kb, .string ks]⟩ 27)) := by (repeat' (first | (with_reducible exact Below.refl _ _) | (with_reducible assumption) | (with_reducible refine below_drewN ?_ _) | (with_reducible refine Below.drew ?_) | (with_reducible refine below_alloc ?_ _) | (with_reducible refine Below.alloc ?_ ?_ _) | (with_reducible refine Below.setCell ?_ ?_ _) | (with_reducible refine below_go ?_ (by with_reducible assumption)) | (with_reducible refine below_then (by with_reducible assumption) ?_ ?_) | go_size))
 have K0 := (Blk.at_ w 25 [.string nm, .int .i64 st, .slice A n c] (b := w.heap.size) rfl).alloc (.cells ⟨[.string kb, .string ks]⟩ 27)
 have K1 := Blk.at_ (w.alloc (.cells ⟨[.string nm, .int .i64 st, .slice A n c]⟩ 25)) 27 [.string kb, .string ks] (b := w.heap.size + 1) (by simp)
 go_in
 go_wp2
 obtain ⟨w0, hw0⟩ : ∃ u, u = ((w.alloc (.cells #[.string nm, .int .i64 st, .slice A n c] 25)).alloc (.cells #[.string kb, .string ks] 27)) := ⟨_, rfl⟩
 rw [← hw0] at b0 K0 K1 ⊢
 clear hw0
 have H0 := Lib.hid (h.up b0)
 have carry : Hid (∀ u : World, Below w0.heap.size w0 u → (u.cell? ⟨w.heap.size, 0, none⟩ = some (.string nm) ∧ u.cell? ⟨w.heap.size, 1, none⟩ = some (.int .i64 st) ∧ u.cell? ⟨w.heap.size, 2, none⟩ = some (.slice A n c)) ∧ u.cell? ⟨w.heap.size + 1, 0, none⟩ = some (.string kb) ∧ u.cell? ⟨w.heap.size + 1, 1, none⟩ = some (.string ks)) := Lib.hid (fun u hu => by
  have L0 := K0.up hu; have L1 := K1.up hu
  exact ⟨⟨by simpa using L0.cell 0, by simpa using L0.cell 1, by simpa using L0.cell 2⟩, by simpa using L1.cell 0, by simpa using L1.cell 1⟩)
 clear h K0 K1
 have cf := Lib.hid (fun (u : World) (s : ByteArray) (hb : Below w0.heap.size w0 u) => impl_callHead (c := c) (s := s) hn (H0.out.up hb) hk)
 go_region_held3 (fun u => (u.cell? ⟨w.heap.size, 0, none⟩ = some (.string nm) ∧ u.cell? ⟨w.heap.size, 1, none⟩ = some (.int .i64 st) ∧ u.cell? ⟨w.heap.size, 2, none⟩ = some (.slice A n c)) ∧ u.cell? ⟨w.heap.size + 1, 0, none⟩ = some (.string kb) ∧ u.cell? ⟨w.heap.size + 1, 1, none⟩ = some (.string ks)) (first | exact carry.out _ C3 | exact carry.out _ (C3.alloc C3.size _) | exact carry.out _ C2 | exact carry.out _ C1 | exact carry.out _ (Below.refl _ _).drew) (first | (go_at_call 124; ((with_reducible refine (cf.out _ ⟨#[115]⟩ C2).mono ?_); rintro e w3 ⟨rfl, hb3⟩; have C3 := C2.trans (hb3.mono C2.size))) | (go_at_call 124; ((with_reducible refine (cf.out _ ⟨#[98]⟩ C1).mono ?_); rintro e w2 ⟨rfl, hb2⟩; have C2 := C1.trans (hb2.mono C1.size))) | (go_at_call 124; ((with_reducible refine (cf.out _ ⟨#[112]⟩ (Below.refl _ _).drew).mono ?_); rintro e w1 ⟨rfl, hbd1⟩; have hb1 := below_of_drew hbd1; have C1 := hb1)))
 go_wp2
 go_ret
 have C4 := C3.alloc C3.size (.cells #[.string (callHd st l kb ks ⟨#[112]⟩), .string (callHd st l kb ks ⟨#[98]⟩), .string (callHd st l kb ks ⟨#[115]⟩)] 9)
 have hB := b0.trans (C4.mono b0.size)
 exact ⟨_, _, rfl, own_lit3 w3 9 _ _ _ (by have := b0.size; have := C3.size; omega), hB⟩
end Go.Proofs.YtidolgonmimicaaGreat
namespace Go.Proofs.YtidolgonmimicaaGreat
open Go.ChangeShapes Go.WideShapes Go.ChangeAt Go.RowKit Go.Deep
set_option maxHeartbeats 1000000 in
theorem spec_l8Change {A : Option Addr} {n c : Nat} {st : Int} {nm : ByteArray} {l : List ByteArray} {kb ks s : ByteArray} {w : World} (hn : l.length = n) (h : Strs w A l) (h0 : 0 < n) (hz : n ≤ 1048576) :
  Calls Tryz.prog 231 #[.agg #[.string nm, .int .i64 st, .slice A n c], .agg #[.string kb, .string ks], .string s] w fun e w' => e = .returned (.string (chOf l kb ks s)) ∧ Below w.heap.size w w' := by
 obtain ⟨m, rfl⟩ : ∃ m, n = m + 1 := ⟨n - 1, by omega⟩
 have HN := Lib.hid hn
 clear hn
 have b0 : Below w.heap.size w ((w.alloc (.cells ⟨[.string nm, .int .i64 st, .slice A (m + 1) c]⟩ 25)).alloc (.cells ⟨[.string kb, .string ks]⟩ 27)) := by (repeat' (first | (with_reducible exact Below.refl _ _) | (with_reducible assumption) | (with_reducible refine below_drewN ?_ _) | (with_reducible refine Below.drew ?_) | (with_reducible refine below_alloc ?_ _) | (with_reducible refine Below.alloc ?_ ?_ _) | (with_reducible refine Below.setCell ?_ ?_ _) | (with_reducible refine below_go ?_ (by with_reducible assumption)) | (with_reducible refine below_then (by with_reducible assumption) ?_ ?_) | go_size))
 obtain ⟨b, o, y, rfl, hbb, hy, hc⟩ := h.at_str (k := m) (by rw [HN.out]; omega)
 have hc1 := (b0.cell (p := ⟨b, o + m, none⟩) hbb).trans hc
 have hne : ¬ b = w.heap.size := by omega
 have hne2 : ¬ b = w.heap.size + 1 := by omega
 have EY := Lib.hid (show lastC l = y by rw [lastC, HN.out, Nat.add_sub_cancel, List.getD, hy]; rfl)
 clear hy
 rcases hB : isB s
 ·rcases hS : isS s
  ·have g2 : (s.toList == [98]) = false := hB
   have g3 : (s.toList == [115]) = false := hS
   have e1 := Lib.hid (show chOf l kb ks s = y by rw [chOf, hB, hS, if_neg (by simp), if_neg (by simp), EY.out])
   clear hB hS hc1
   go_in
   go_wp2
   go_ret
   rw [e1.out]
   exact ⟨rfl, b0⟩
  ·have g2 : (s.toList == [98]) = false := hB
   have g3 : (s.toList == [115]) = true := hS
   have e1 := Lib.hid (show chOf l kb ks s = ks by rw [chOf, hB, hS, if_neg (by simp), if_pos rfl])
   clear hB hS hc1
   go_in
   go_wp2
   go_ret
   rw [e1.out]
   exact ⟨rfl, b0⟩
 ·have g2 : (s.toList == [98]) = true := hB
  have e1 := Lib.hid (show chOf l kb ks s = kb by rw [chOf, hB, if_pos rfl])
  clear hB hc1
  go_in
  go_wp2
  go_ret
  rw [e1.out]
  exact ⟨rfl, b0⟩
set_option maxRecDepth 100000 in
set_option maxHeartbeats 1000000 in
theorem spec_l8Head {A : Option Addr} {n c st : Nat} {nm : ByteArray} {l : List ByteArray} {kb ks : ByteArray} {s : ByteArray} {w : World} (hn : l.length = n) (h : Strs w A l) (hk : goodK nm (st : Int) l kb ks = true) (hcap : n ≤ c) :
  Calls Tryz.prog 201 #[.agg #[.string nm, .int .i64 st, .slice A n c], .agg #[.string kb, .string ks], .string s] w fun e w' => e = .returned (.string (callHd st l kb ks s)) ∧ Below w.heap.size w w' := by
 obtain ⟨h8, h40, hgl, hgb, hgs⟩ := goodK_all hk
 obtain ⟨m, rfl⟩ : ∃ m, n = m + 1 := ⟨n - 1, by omega⟩
 have HN := Lib.hid hn
 have b0 : Below w.heap.size w ((w.alloc (.cells ⟨[.string nm, .int .i64 st, .slice A (m + 1) c]⟩ 25)).alloc (.cells ⟨[.string kb, .string ks]⟩ 27)) := by (repeat' (first | (with_reducible exact Below.refl _ _) | (with_reducible assumption) | (with_reducible refine below_drewN ?_ _) | (with_reducible refine Below.drew ?_) | (with_reducible refine below_alloc ?_ _) | (with_reducible refine Below.alloc ?_ ?_ _) | (with_reducible refine Below.setCell ?_ ?_ _) | (with_reducible refine below_go ?_ (by with_reducible assumption)) | (with_reducible refine below_then (by with_reducible assumption) ?_ ?_) | go_size))
 have K0 := (Blk.at_ w 25 [.string nm, .int .i64 st, .slice A (m + 1) c] (b := w.heap.size) rfl).alloc (.cells ⟨[.string kb, .string ks]⟩ 27)
 have K1 := Blk.at_ (w.alloc (.cells ⟨[.string nm, .int .i64 st, .slice A (m + 1) c]⟩ 25)) 27 [.string kb, .string ks] (b := w.heap.size + 1) (by simp)
 have HS := Lib.hid (fun (s' : ByteArray) (hs' : s' ∈ l.take m) => show s'.size ≤ 16777216 from by have := goodChange_small (hgl s' (List.mem_of_mem_take hs')); omega)
 have e1 := Lib.hid (show applyR (rAt (roundsS st) (l.take m) m) (chOf l kb ks s) = callHd st l kb ks s by
  have := headX_take (st := st) (l := l) (x := chOf l kb ks s)
  rw [HN.out, Nat.add_sub_cancel] at this
  exact this)
 have hm40 : m ≤ 40 := by have := HN.out; omega
 have hr8 : (roundsS st).size ≤ 8 := by rw [rounds_size st (by omega)]; exact h8.2
 have hx8 : (rAt (roundsS st) (l.take m) m).size ≤ 8 := by rw [rAt_size]; exact hr8
 have hch := goodChange_small (chOf_good hk s)
 have HT := Lib.hid (show (l.take m).length = m by rw [List.length_take, HN.out]; omega)
 obtain ⟨b, o, y, rfl, hbb, _, _⟩ := h.at_str (k := m) (by rw [HN.out]; omega)
 have hst8 := h8.2
 clear hgl hgb hgs h40 hn h8
 go_in
 go_upto_region 2 with fail
 obtain ⟨w0, hw0⟩ : ∃ u, u = ((w.alloc (.cells #[.string nm, .int .i64 st, .slice (some ⟨b, o, none⟩) (m + 1) c] 25)).alloc (.cells #[.string kb, .string ks] 27)) := ⟨_, rfl⟩
 rw [← hw0] at b0 K0 K1 ⊢
 clear hw0
 have H0 := h.up b0
 have R0 : Hid (Strs w0 (some ⟨b, o, none⟩) (l.take m)) := Lib.hid (by
  have := H0.part 0 m (Nat.zero_le _) (by rw [HN.out]; omega)
  simpa using this)
 have k0 := K0.cell 0; have k1 := K0.cell 1; have k2 := K0.cell 2; have q0 := K1.cell 0; have q1 := K1.cell 1
 simp only [List.getElem?_cons_zero, List.getElem?_cons_succ] at k0 k1 k2 q0 q1
 have hle : (m : Int) ≤ (c : Int) := by omega
 have hle2 : (0 : Int) ≤ (m : Int) := by omega
 have hnc : ¬ c = 0 := by omega
 have hB0 := Lib.hid b0
 go_region_held3 (fun u => u.cell? ⟨w.heap.size, 1, none⟩ = some (.int .i64 st) ∧ u.cell? ⟨w.heap.size, 2, none⟩ = some (.slice (some ⟨b, o, none⟩) (m + 1) c)) (first | exact ⟨k1d, k2d⟩ | exact ⟨k1, k2⟩) (first | (go_at_call 90; refine (spec_l1Rounds hst8).mono ?_; rintro e w' ⟨rfl, rfl⟩) | (go_at_call 192; refine (spec_l4Lead hr8 HT.out R0.out.drew (by omega) HS.out).mono ?_; rintro e w1 ⟨A1, c1, rfl, ho, hbd⟩; have hb1 := below_of_drew hbd; have L0 := K0.up hb1; have L1 := K1.up hb1; have k1d := L0.cell 1; have k2d := L0.cell 2; simp only [List.getElem?_cons_zero, List.getElem?_cons_succ] at k1d k2d))
 have k0d := L0.cell 0; have q0d := L1.cell 0; have q1d := L1.cell 1
 simp only [List.getElem?_cons_zero, List.getElem?_cons_succ] at k0d q0d q1d
 have hB1 := below_go b0 hb1
 clear k0 k1 k2 q0 q1
 go_wp2_with fail
 refine (spec_l8Change HN.out (h.up hB1) (by omega) (by omega)).mono ?_; rintro e w2 ⟨rfl, hb2⟩
 go_wp2_with fail
 refine (spec_l2Apply hx8 (by omega)).mono ?_; rw [e1.out]; rintro e w3 ⟨rfl, hb3⟩
 go_wp2
 go_ret
 exact ⟨rfl, below_go (below_go hB1 hb2) hb3⟩
end Go.Proofs.YtidolgonmimicaaGreat
namespace Go.Proofs.YtidolgonmimicaaGreat
open Go.ChangeShapes Go.WideShapes Go.ChangeAt Go.RowKit Go.Deep
open Go.Maps (Keyed)
def MapTo {α : Type} (en : α → Value) (li : α → Lit) (z : α) (P : Program) (w : World) (k e : TypeId) (b n : Nat) (f : Value → α) : Prop :=
 ∃ D : DataW Unit, w.ownsMap P k (plainElem P e) b n D ∧ ∀ key kl, keyOf P k key = some kl → D.atKey kl (.lit (li z)) = .lit (li (f key))
section
variable {α : Type} {en : α → Value} {li : α → Lit} {z : α} {P : Program} {w w' : World} {k e : TypeId} {b n : Nat} {f : Value → α}
theorem MapTo.made (en : α → Value) (li : α → Lit) (z : α) (P : Program) (w : World) (k e : TypeId) : MapTo en li z P (w.alloc (.map #[] 0)) k e w.heap.size 0 (fun _ => z) :=
 ⟨.map [], World.ownsMap_made w P k _, fun key kl _ => rfl⟩
theorem MapTo.lt (h : MapTo en li z P w k e b n f) : b < w.heap.size := by
 obtain ⟨D, h1, _⟩ := h
 exact h1.lt
theorem MapTo.kept {row : Option Nat} (h : MapTo en li z P w k e b n f) (hg : w.grownBy w' row) (hne : some b ≠ row) : MapTo en li z P w' k e b n f := by
 obtain ⟨D, h1, h2⟩ := h
 exact ⟨D, h1.kept hg hne, h2⟩
theorem MapTo.up (h : MapTo en li z P w k e b n f) (hb : Below w.heap.size w w') : MapTo en li z P w' k e b n f := h.kept (grown_of_below hb) (by simp)
theorem MapTo.alloc (h : MapTo en li z P w k e b n f) (o : Obj) : MapTo en li z P (w.alloc o) k e b n f := h.up ((Below.refl _ _).alloc (Nat.le_refl _) o)
theorem MapTo.drew (h : MapTo en li z P w k e b n f) : MapTo en li z P w.drew k e b n f := h.up (Below.refl _ _).drew
theorem MapTo.look {t : TypeId} (h : MapTo en li z P w k e b n f) (K : Keyed P k) (ht : P.underlying t = some (.map k e)) (hz : (zeroValue e).run P w = .ok (en z) w) (hzd : plainElem (H := Unit) P e (en z) = some (.lit (li z), [])) (hin : ∀ v x ps, plainElem (H := Unit) P e v = some (.lit (li x), ps) → v = en x)
  {key : Value} {kl : Lit} (hkey : keyOf P k key = some kl) : (Instr.lookup t (.map (some b)) key false).run P w = .ok (en (f key)) w := by
 obtain ⟨D, h1, h2⟩ := h
 obtain ⟨v, ps, hrun, hv⟩ := h1.lookup K ht hz hzd hkey
 rw [h2 key kl hkey] at hv
 rw [hrun, hin _ _ _ hv]
end
theorem MapTo.put {α : Type} {en : α → Value} {li : α → Lit} {z : α} {P : Program} {W : World} {t k e : TypeId} (K : Keyed P k) (ht : P.underlying t = some (.map k e)) {b n : Nat} {f : Value → α} (h : MapTo en li z P W k e b n f) (hn : n ≤ 16777216) {key : Value} {x : α}
  {kl : Lit} (hkey : keyOf P k key = some kl) (hpe : plainElem (H := Unit) P e (en x) = some (.lit (li x), [])) : ∃ w', (Instr.mapUpdate t (.map (some b)) key (en x)).run P W = .ok () w' ∧ (∀ g : Value → α, g key = x → (∀ q, q ≠ key → g q = f q) → MapTo en li z P w' k e b (n + 1) g) ∧ W.grownBy w' (some b) := by
 obtain ⟨D, h1, h2⟩ := h
 obtain ⟨w', hrun, hown, hg⟩ := h1.update K ht (by unfold maxLen; omega) hkey hpe
 refine ⟨w', hrun, fun g g1 g2 => ⟨_, hown, fun key' kl' hk' => ?_⟩, hg⟩
 by_cases ek : kl' = kl
 ·subst ek
  have e1 : key' = key := K.inj hk' hkey
  subst e1
  rw [Maps.atKey_put_same h1.isMap (K.key hkey), g1]
 ·have e1 : key' ≠ key := fun e2 => ek (by rw [e2, hkey] at hk'; injection hk' with hk'; exact hk'.symm)
  rw [Maps.atKey_put_other ek, g2 _ e1]
  exact h2 key' kl' hk'
theorem ownsMap_tight {H : Type} {P : Program} {w : World} {k : TypeId} {R : Value → Option (DataW H × List MemPlace)} {b n m : Nat} {l : List (Lit × DataW H)} (h : w.ownsMap P k R b n (.map l)) (hm : l.length ≤ m) : w.ownsMap P k R b m (.map l) := by
 obtain ⟨es, clock, hb, F, hs, hD⟩ := h
 refine ⟨es, clock, hb, F, ?_, hD⟩
 injection hD with hD
 have e1 := congrArg List.length hD
 rw [length_sorted] at e1
 simp at e1
 omega
def putW (P : Program) (t : TypeId) (b : Nat) (key v : Value) (u : World) : World :=
 match (Instr.mapUpdate t (.map (some b)) key v).run P u with
 | .ok _ w' => w'
 | _ => u
theorem putW_eq {P : Program} {t : TypeId} {b : Nat} {key v : Value} {u w' : World} (h : (Instr.mapUpdate t (.map (some b)) key v).run P u = .ok () w') : putW P t b key v u = w' := by
 rw [putW, h]
def sLi (s : ByteArray) : Lit := .string s.data.toList
theorem ba_ext {s t : ByteArray} (h : s.data.toList = t.data.toList) : s = t := by
 cases s; cases t
 simp only [ByteArray.mk.injEq]
 exact Array.ext' h
theorem sLi_pe {P : Program} {e : TypeId} (he : P.underlying e = some .string) {s : ByteArray} (hs : s.size ≤ 16777216) : plainElem (H := Unit) P e (.string s) = some (.lit (sLi s), []) := plainElem_string he (by unfold maxLen; omega)
theorem sLi_in {P : Program} {e : TypeId} (he : P.underlying e = some .string) (v : Value) (x : ByteArray) (ps : List MemPlace) (h : plainElem (H := Unit) P e v = some (.lit (sLi x), ps)) : v = .string x := by
 obtain ⟨s, rfl, hz, _⟩ := plainElem_string_inv he h
 simp only [Prod.mk.injEq, DataW.lit.injEq, sLi, Lit.string.injEq] at hz
 rw [ba_ext hz.1]
def iLi (i : Int) : Lit := .int .i64 i
end Go.Proofs.YtidolgonmimicaaGreat
namespace Go.Proofs.YtidolgonmimicaaGreat
open Go.ChangeShapes Go.WideShapes Go.ChangeAt Go.RowKit Go.Deep
theorem letter_one {t : ByteArray} {k : Nat} (h : k < t.size) : letter t k = strOfNums [PlainAid.bt t k] := one_byte h
theorem letter_p {t : ByteArray} {k : Nat} (h : k < t.size) (e : PlainAid.bt t k = 112) : letter t k = ⟨#[112]⟩ := by rw [letter_one h, e]; rfl
theorem letter_b {t : ByteArray} {k : Nat} (h : k < t.size) (e : PlainAid.bt t k = 98) : letter t k = ⟨#[98]⟩ := by rw [letter_one h, e]; rfl
theorem letter_s {t : ByteArray} {k : Nat} (h : k < t.size) (e : PlainAid.bt t k = 115) : letter t k = ⟨#[115]⟩ := by rw [letter_one h, e]; rfl
theorem is_one {c : ByteArray} {x : UInt8} (h : (c.toList == [x]) = true) : c = ⟨#[x]⟩ := by
 have h1 : c.toList = [x] := by simpa using h
 have h2 : c.data.toList = [x] := by rw [← ByteArray.toList_eq]; exact h1
 exact ba_ext (t := ⟨#[x]⟩) h2
theorem isCl_letter {t : ByteArray} {k : Nat} (h : k < t.size) : isCl (letter t k) = callB t k := by
 have nn := PlainAid.bt_nonneg t k; have nl := PlainAid.bt_le t k
 by_cases e1 : PlainAid.bt t k = 112
 ·rw [letter_p h e1, show callB t k = true from by simp [callB, e1]]; decide +kernel
 by_cases e2 : PlainAid.bt t k = 98
 ·rw [letter_b h e2, show callB t k = true from by simp [callB, e2]]; decide +kernel
 by_cases e3 : PlainAid.bt t k = 115
 ·rw [letter_s h e3, show callB t k = true from by simp [callB, e3]]; decide +kernel
 have hb : callB t k = false := by simp [callB, e1, e2, e3]
 rw [hb]
 have key : ∀ x : UInt8, (PlainAid.bt t k ≠ x.toNat) → ((letter t k).toList == [x]) = false := by
  intro x hx
  rcases hq : ((letter t k).toList == [x])
  ·rfl
  ·exfalso
   have e4 := is_one hq
   rw [letter_one h] at e4
   have e5 := congrArg nums e4
   rw [nums_strOf (by intro y hy; simp at hy; subst hy; omega)] at e5
   apply hx
   have e6 : nums ⟨#[x]⟩ = [(x.toNat : Int)] := by rfl
   rw [e6] at e5
   injection e5
 rw [isCl, isP, isB, isS, key 112 e1, key 98 e2, key 115 e3]
 rfl
set_option maxRecDepth 100000 in
theorem impl_areCalls {t : ByteArray} {w : World} (hz : t.size ≤ 16777216) :
  Calls Tryz.prog 161 #[.string t] w fun e w' => e = .returned (.bool ((List.range t.size).all (callB t))) ∧ w = w' := by
 have gb := PlainAid.get_bt t
 go_in
 go_wp2
 go_loopw [6] (fun i wr => ∃ k : Nat, k ≤ t.size ∧ i = .int .i64 k ∧ Hid (∀ j, j < k → callB t j = true) ∧ w = wr) (fun i _ => t.size - (intOf i).toNat)
 case atStart => exact ⟨0, Nat.zero_le _, rfl, Lib.hid (fun j hj => absurd hj (by omega)), rfl⟩
 case round =>
  obtain ⟨k, hk, rfl, HK, rfl⟩ := hrel
  by_cases hlt : k < t.size
  ·go_wp2_with fail
   refine (impl_isCall (s := letter t k)).mono ?_; rintro e w' ⟨rfl, rfl⟩
   have E := Lib.hid (isCl_letter hlt)
   rcases hg : isCl (letter t k)
   ·have e1 := Lib.hid (show (List.range t.size).all (callB t) = false by rw [List.all_eq_false]; exact ⟨k, List.mem_range.2 hlt, by rw [← E.out, hg]; simp⟩)
    go_wp2
    go_ret
    rw [e1.out]
    exact ⟨rfl, rfl⟩
   ·have e1 := Lib.hid (show callB t k = true by rw [← E.out, hg])
    go_wp2
    go_roundw
    case rel => exact ⟨k + 1, by omega, by go_num, Lib.hid (upto_succ HK.out e1.out), trivial⟩
    case measure => simp [intOf]; omega
  ·obtain rfl : k = t.size := by omega
   have e1 := Lib.hid (show (List.range t.size).all (callB t) = true by rw [List.all_eq_true]; exact fun j hj => HK.out j (List.mem_range.1 hj))
   go_wp2
   go_ret
   rw [e1.out]
   exact ⟨rfl, rfl⟩
theorem impl_GoodTouch {t : ByteArray} {w : World} (hz : t.size ≤ 16777216) :
  Calls Tryz.prog 84 #[.string t] w fun e w' => e = .returned (.bool (goodT t)) ∧ w = w' := by
 have HQ : Hid (goodT t = ((List.range t.size).all (callB t) && inB t.size 1 60)) := Lib.hid rfl
 by_cases h1 : t.size < 1
 ·have hI : ¬ (1 : Int) ≤ (t.size : Int) := by omega
  have e1 := Lib.hid (show goodT t = false by rw [HQ.out, inB, decide_eq_false (by omega), Bool.and_false])
  go_in
  go_wp2
  go_ret
  rw [e1.out]
  exact ⟨rfl, rfl⟩
 ·by_cases h2 : 60 < t.size
  ·have hI : (1 : Int) ≤ (t.size : Int) := by omega
   have hJ : ¬ (t.size : Int) ≤ 60 := by omega
   have e1 := Lib.hid (show goodT t = false by rw [HQ.out, inB, decide_eq_false (by omega), Bool.and_false])
   go_in
   go_wp2
   go_ret
   rw [e1.out]
   exact ⟨rfl, rfl⟩
  ·have hI : (1 : Int) ≤ (t.size : Int) := by omega
   have hJ : (t.size : Int) ≤ 60 := by omega
   have e1 := Lib.hid (show goodT t = (List.range t.size).all (callB t) by rw [HQ.out, inB, decide_eq_true (by omega), Bool.and_true])
   go_in
   go_wp2_with fail
   refine (impl_areCalls hz).mono ?_; rintro e w' ⟨rfl, rfl⟩
   go_wp2
   go_ret
   rw [e1.out]
   exact ⟨rfl, rfl⟩
set_option maxRecDepth 100000 in
theorem spec_l9Good {t : ByteArray} {w : World} (hz : t.size ≤ 16777216) :
  Calls Tryz.prog 87 #[.string t] w fun e w' => e = .returned (.bool (goodT t)) ∧ w = w' := by
 have gb := PlainAid.get_bt t
 have HQ : Hid (goodT t = ((List.range t.size).all (callB t) && inB t.size 1 60)) := Lib.hid rfl
 go_in
 go_wp2
 go_loopw [3] (fun i wr => ∃ k : Nat, k ≤ t.size ∧ i = .int .i64 k ∧ Hid (∀ j, j < k → callB t j = true) ∧ w = wr) (fun i _ => t.size - (intOf i).toNat)
 case atStart => exact ⟨0, Nat.zero_le _, rfl, Lib.hid (fun j hj => absurd hj (by omega)), rfl⟩
 case round =>
  obtain ⟨k, hk, rfl, HK, rfl⟩ := hrel
  by_cases hlt : k < t.size
  ·go_wp2_with fail
   refine (spec_l8Call (s := letter t k)).mono ?_; rintro e w' ⟨rfl, rfl⟩
   have E := Lib.hid (isCl_letter hlt)
   rcases hg : isCl (letter t k)
   ·have e1 := Lib.hid (show goodT t = false by
     rw [HQ.out, show (List.range t.size).all (callB t) = false from by rw [List.all_eq_false]; exact ⟨k, List.mem_range.2 hlt, by rw [← E.out, hg]; simp⟩, Bool.false_and])
    go_wp2
    go_ret
    rw [e1.out]
    exact ⟨rfl, rfl⟩
   ·have e1 := Lib.hid (show callB t k = true by rw [← E.out, hg])
    go_wp2
    go_roundw
    case rel => exact ⟨k + 1, by omega, by go_num, Lib.hid (upto_succ HK.out e1.out), trivial⟩
    case measure => simp [intOf]; omega
  ·obtain rfl : k = t.size := by omega
   have e1 := Lib.hid (show goodT t = inB t.size 1 60 by rw [HQ.out, show (List.range t.size).all (callB t) = true from by rw [List.all_eq_true]; exact fun j hj => HK.out j (List.mem_range.1 hj), Bool.true_and])
   go_wp2_with fail
   refine (spec_l1In _ _ _ _).mono ?_; rintro e w' ⟨rfl, rfl⟩
   go_wp2
   go_ret
   rw [e1.out]
   exact ⟨rfl, rfl⟩
end Go.Proofs.YtidolgonmimicaaGreat
namespace Go.Proofs.YtidolgonmimicaaGreat
open Go.ChangeShapes Go.WideShapes Go.ChangeAt Go.RowKit Go.Deep
theorem spec_l9Asked {A : Option Addr} {n c : Nat} {nm : ByteArray} {st : Int} {l : List ByteArray} {kb ks : ByteArray} {t : ByteArray} {w : World} (hn : l.length = n) (h : Strs w A l) (hz : n ≤ 1048576) (hs : ∀ s ∈ l, s.size ≤ 16777216) (hnm : nm.size ≤ 16777216) (hst : I64 st) (hkb : kb.size ≤ 16777216) (hks : ks.size ≤ 16777216) (ht : t.size ≤ 16777216) :
  Calls Tryz.prog 88 #[.agg #[.string nm, .int .i64 st, .slice A n c], .agg #[.string kb, .string ks], .string t] w fun e w' => e = .returned (.bool (goodF nm st l kb ks t)) ∧ Below w.heap.size w w' := by
 have HQ : Hid (goodF nm st l kb ks t = (goodK nm st l kb ks && goodT t)) := Lib.hid rfl
 have b0 : Below w.heap.size w ((w.alloc (.cells ⟨[.string nm, .int .i64 st, .slice A n c]⟩ 25)).alloc (.cells ⟨[.string kb, .string ks]⟩ 27)) := by (repeat' (first | (with_reducible exact Below.refl _ _) | (with_reducible assumption) | (with_reducible refine below_drewN ?_ _) | (with_reducible refine Below.drew ?_) | (with_reducible refine below_alloc ?_ _) | (with_reducible refine Below.alloc ?_ ?_ _) | (with_reducible refine Below.setCell ?_ ?_ _) | (with_reducible refine below_go ?_ (by with_reducible assumption)) | (with_reducible refine below_then (by with_reducible assumption) ?_ ?_) | go_size))
 go_in
 go_wp2_with fail
 refine (spec_l8Good hn (h.up b0) hz hs hnm hst hkb hks).mono ?_; rintro e w1 ⟨rfl, hb1⟩
 rcases h1 : goodK nm st l kb ks
 ·have e1 := Lib.hid (show goodF nm st l kb ks t = false by rw [HQ.out, h1]; rfl)
  go_wp2
  go_ret
  rw [e1.out]
  exact ⟨rfl, below_go b0 hb1⟩
 ·have e1 := Lib.hid (show goodF nm st l kb ks t = goodT t by rw [HQ.out, h1]; rfl)
  go_wp2_with fail
  refine (spec_l9Good ht).mono ?_; rintro e w' ⟨rfl, rfl⟩
  go_wp2
  go_ret
  rw [e1.out]
  exact ⟨rfl, below_go b0 hb1⟩
set_option maxHeartbeats 2000000 in
set_option maxRecDepth 100000 in
theorem spec_l9Heads {A : Option Addr} {n c st : Nat} {nm : ByteArray} {l : List ByteArray} {kb ks : ByteArray} {t : ByteArray} {w : World} (hn : l.length = n) (h : Strs w A l) (hk : goodK nm (st : Int) l kb ks = true) (hg : goodT t = true) (hcap : n ≤ c) :
  Calls Tryz.prog 178 #[.agg #[.string nm, .int .i64 st, .slice A n c], .agg #[.string kb, .string ks], .string t] w fun e w' => ∃ A' c', e = .returned (.slice A' (t.size + 1) c') ∧ Owned strE 1 9 w' w.heap.size A' (t.size + 1) c' (hdsL st l kb ks t (t.size + 1)) ∧ Below w.heap.size w w' := by
 have b0 : Below w.heap.size w ((w.alloc (.cells ⟨[.string nm, .int .i64 st, .slice A n c]⟩ 25)).alloc (.cells ⟨[.string kb, .string ks]⟩ 27)) := by (repeat' (first | (with_reducible exact Below.refl _ _) | (with_reducible assumption) | (with_reducible refine below_drewN ?_ _) | (with_reducible refine Below.drew ?_) | (with_reducible refine below_alloc ?_ _) | (with_reducible refine Below.alloc ?_ ?_ _) | (with_reducible refine Below.setCell ?_ ?_ _) | (with_reducible refine below_go ?_ (by with_reducible assumption)) | (with_reducible refine below_then (by with_reducible assumption) ?_ ?_) | go_size))
 have K0 := (Blk.at_ w 25 [.string nm, .int .i64 st, .slice A n c] (b := w.heap.size) rfl).alloc (.cells ⟨[.string kb, .string ks]⟩ 27)
 have K1 := Blk.at_ (w.alloc (.cells ⟨[.string nm, .int .i64 st, .slice A n c]⟩ 25)) 27 [.string kb, .string ks] (b := w.heap.size + 1) (by simp)
 obtain ⟨h8, h40, _⟩ := goodK_all hk
 obtain ⟨ht1, ht60, _⟩ := goodT_t hg
 have gb := PlainAid.get_bt t
 go_in
 go_wp2_with fail
 obtain ⟨w1, hw1⟩ : ∃ u, u = ((w.alloc (.cells #[.string nm, .int .i64 st, .slice A n c] 25)).alloc (.cells #[.string kb, .string ks] 27)) := ⟨_, rfl⟩
 rw [← hw1] at b0 K0 K1 ⊢
 clear hw1
 have H0 := Lib.hid (h.up b0)
 have carry : Hid (∀ u : World, Below w1.heap.size w1 u → (u.cell? ⟨w.heap.size, 0, none⟩ = some (.string nm) ∧ u.cell? ⟨w.heap.size, 1, none⟩ = some (.int .i64 st) ∧ u.cell? ⟨w.heap.size, 2, none⟩ = some (.slice A n c)) ∧ u.cell? ⟨w.heap.size + 1, 0, none⟩ = some (.string kb) ∧ u.cell? ⟨w.heap.size + 1, 1, none⟩ = some (.string ks)) := Lib.hid (fun u hu => by
  have L0 := K0.up hu; have L1 := K1.up hu
  exact ⟨⟨by simpa using L0.cell 0, by simpa using L0.cell 1, by simpa using L0.cell 2⟩, by simpa using L1.cell 0, by simpa using L1.cell 1⟩)
 clear h K0 K1
 have PG := Lib.hid (callHd_good hk)
 have HD := Lib.hid (fun k => hdAt_good h8.1 h8.2 l kb ks t k)
 have H1 : Hid (Owned strE 1 9 (w1.alloc (.cells #[.string (roundsS st)] 9)) w1.heap.size (some ⟨w1.heap.size, 0, none⟩) 1 1 (hdsL st l kb ks t 1)) := Lib.hid ⟨strE_len, by simp [hdsL], by simpa [hdsL, hdAt, strE] using World.ownsRow_lit (e := 9) (base := w1.heap.size) (size := 1) w1 #[.string (roundsS st)] 1 (Nat.le_refl _) (by decide) (by simp)⟩
 refine (spec_l1Rounds h8.2).mono ?_; rintro e w' ⟨rfl, rfl⟩
 go_wp2
 go_loopw [7, 8, 9] (fun r v i wr => ∃ (k : Nat) (A' : Option Addr) (m c' : Nat), k ≤ t.size ∧ i = .int .i64 k ∧ r = .string (hdAt st l kb ks t k) ∧ v = .slice A' m c' ∧ m = k + 1 ∧ Owned strE 1 9 wr w1.heap.size A' m c' (hdsL st l kb ks t (k + 1)) ∧ Below w1.heap.size w1 wr) (fun _ _ i _ => t.size - (intOf i).toNat)
 case atStart => exact ⟨0, _, _, _, Nat.zero_le _, rfl, rfl, rfl, rfl, H1.out, by (repeat' (first | (with_reducible exact Below.refl _ _) | (with_reducible assumption) | (with_reducible refine below_drewN ?_ _) | (with_reducible refine Below.drew ?_) | (with_reducible refine below_alloc ?_ _) | (with_reducible refine Below.alloc ?_ ?_ _) | (with_reducible refine Below.setCell ?_ ?_ _) | (with_reducible refine below_go ?_ (by with_reducible assumption)) | (with_reducible refine below_then (by with_reducible assumption) ?_ ?_) | go_size))⟩
 case round =>
  obtain ⟨k, A', m, c', hk1, rfl, rfl, rfl, rfl, ho, hb⟩ := hrel
  have HO := Lib.hid ho
  have hsz := hb.size
  clear ho
  by_cases hlt : k < t.size
  ·have p1 := PG.out (letter t k)
   have p2 := HD.out k
   have z1 : (hdAt st l kb ks t k).size ≤ 16777216 := by rw [p2.2]; omega
   have z2 : (callHd st l kb ks (letter t k)).size ≤ 16777216 := by rw [p1.2]; omega
   have hf : fits (hdAt st l kb ks t k) (callHd st l kb ks (letter t k)) := fits_good p1.1 (by rw [p1.2, p2.2])
   have E := Lib.hid (show timesS (hdAt st l kb ks t k) (callHd st l kb ks (letter t k)) = hdAt st l kb ks t (k + 1) from rfl)
   have HT := Lib.hid (hdsL_succ st l kb ks t (k + 1))
   clear p1 p2
   have hwk : IntKind.i64.wrap ((k : Int) + 1) = (k : Int) + 1 := wrap_id (by omega)
   have hb0 := hb
   have hle1 : (k : Int) + 1 ≤ (t.size : Int) := by omega
   have hle2 : (k : Int) ≤ (k : Int) + 1 := by omega
   have hle3 : (0 : Int) ≤ (k : Int) := by omega
   have HB := Lib.hid hb
   go_wp2_with fail
   go_region_held3 (fun u => (u.cell? ⟨w.heap.size, 0, none⟩ = some (.string nm) ∧ u.cell? ⟨w.heap.size, 1, none⟩ = some (.int .i64 st) ∧ u.cell? ⟨w.heap.size, 2, none⟩ = some (.slice A n c)) ∧ u.cell? ⟨w.heap.size + 1, 0, none⟩ = some (.string kb) ∧ u.cell? ⟨w.heap.size + 1, 1, none⟩ = some (.string ks)) (first | exact carry.out _ C2 | exact carry.out _ HB.out | exact carry.out _ HB.out.drew) (first | (go_at_call 118; refine (spec_l1Times z1 z2 hf).mono ?_; rw [E.out]; rintro e w' ⟨rfl, rfl⟩) | (go_at_call 201; refine (spec_l8Head (s := letter t k) hn ((H0.out.below HB.out (Nat.le_refl _)).drew) hk hcap).mono ?_; rintro e w2 ⟨rfl, hbd2⟩; have hb2 := below_of_drew hbd2; have C2 := HB.out.trans (hb2.mono HB.out.size); have HO1 := Lib.hid (HO.out.up hb2); have hsz1 := hb2.size))
   go_wp2_with (first | (at_builtin; go_must ((refine wpList_append_rec Tryz.elStr rfl (.tmp 31) (.tmp 33) rfl rfl (HO1.out.alloc _) (hdAt st l kb ks t (k + 1)) rfl (Box.at_ _ [.string (hdAt st l kb ks t (k + 1))] _ ?_) (strE_one _) ?_ (by decide) ?_ ?_; (focus (first | omega | (simp only [World.size_alloc]; done) | (simp only [World.size_alloc]; omega) | (simp; done) | (simp; omega))); (focus (first | omega | (simp only [World.size_alloc]; done) | (simp only [World.size_alloc]; omega) | (simp; done) | (simp; omega))); (focus (first | omega | (simp only [World.size_alloc]; done) | (simp only [World.size_alloc]; omega) | (simp; done) | (simp; omega))); intro A2 c2 w3 ho3 hg3 hb3))))
   go_roundw
   case rel => exact ⟨k + 1, A2, k + 1 + 1, c2, by omega, by go_num, rfl, by go_num, rfl, by rw [HT.out]; exact ho3, ((HB.out.trans (hb2.mono hsz)).alloc (by omega) _).trans hb3⟩
   case measure => simp [intOf]; omega
  ·obtain rfl : k = t.size := by omega
   go_wp2
   go_ret
   exact ⟨_, _, rfl, HO.out.base_le b0.size, below_go b0 hb⟩
end Go.Proofs.YtidolgonmimicaaGreat
namespace Go.Proofs.YtidolgonmimicaaGreat
open Go.ChangeShapes Go.WideShapes Go.ChangeAt Go.RowKit Go.Deep
set_option maxHeartbeats 1000000 in
theorem spec_l9EndP {A : Option Addr} {n c st : Nat} {nm : ByteArray} {l : List ByteArray} {kb ks : ByteArray} {t : ByteArray} {w : World} (hn : l.length = n) (h : Strs w A l) (hk : goodK nm (st : Int) l kb ks = true) (hg : goodT t = true) (hcap : n ≤ c) :
  Calls Tryz.prog 89 #[.agg #[.string nm, .int .i64 st, .slice A n c], .agg #[.string kb, .string ks], .string t] w fun e w' => e = .returned (.string (hdAt st l kb ks t t.size)) ∧ Below w.heap.size w w' := by
 have b0 : Below w.heap.size w ((w.alloc (.cells ⟨[.string nm, .int .i64 st, .slice A n c]⟩ 25)).alloc (.cells ⟨[.string kb, .string ks]⟩ 27)) := by (repeat' (first | (with_reducible exact Below.refl _ _) | (with_reducible assumption) | (with_reducible refine below_drewN ?_ _) | (with_reducible refine Below.drew ?_) | (with_reducible refine below_alloc ?_ _) | (with_reducible refine Below.alloc ?_ ?_ _) | (with_reducible refine Below.setCell ?_ ?_ _) | (with_reducible refine below_go ?_ (by with_reducible assumption)) | (with_reducible refine below_then (by with_reducible assumption) ?_ ?_) | go_size))
 have hH := Lib.hid (hdsL_at (st := st) (l := l) (b := kb) (s := ks) (t := t) (k := t.size + 1) (j := t.size) (by omega))
 have hts : t.size ≤ 60 := (goodT_t hg).2.1
 go_in
 go_wp2_with fail
 refine (spec_l9Heads hn (h.up b0) hk hg hcap).mono ?_; rintro e w1 ⟨A1, c1, rfl, ho, hb1⟩
 obtain ⟨g, rfl, _, _, gc, _⟩ := ho.at_ (by omega)
 have cg := gc t.size _ 0 _ hH.out rfl
 simp only [Nat.mul_one, Nat.add_zero] at cg
 have hI : (t.size : Int) < ((t.size + 1 : Nat) : Int) := by omega
 clear gc
 go_wp2
 go_ret
 exact ⟨rfl, below_go b0 hb1⟩
end Go.Proofs.YtidolgonmimicaaGreat
namespace Go.Proofs.YtidolgonmimicaaGreat
open Go.ChangeShapes Go.WideShapes Go.ChangeAt Go.RowKit Go.Deep
end Go.Proofs.YtidolgonmimicaaGreat
namespace Go.Proofs.YtidolgonmimicaaGreat
open Go.ChangeShapes Go.WideShapes Go.ChangeAt Go.RowKit Go.Deep
def leadL (st : Nat) (l : List ByteArray) : List ByteArray := rowsL (roundsS st) l l.length
noncomputable def falL (L : List ByteArray) : List ByteArray := L.flatMap fun r => L.map fun s => timesS r (turnS s)
def meetL (L M : List ByteArray) : List ByteArray := L.filter fun r => inL M r
end Go.Proofs.YtidolgonmimicaaGreat
namespace Go.Proofs.YtidolgonmimicaaGreat
open Go.ChangeShapes Go.WideShapes Go.ChangeAt Go.RowKit Go.Deep
def uniqStep (out : List ByteArray) (f : ByteArray) : List ByteArray := if out.getLast? = some f then out else out ++ [f]
def uniqF (L : List ByteArray) : List ByteArray := L.foldl uniqStep []
theorem uniqF_snoc (L : List ByteArray) (f : ByteArray) : uniqF (L ++ [f]) = uniqStep (uniqF L) f := by rw [uniqF, List.foldl_append]; rfl
theorem uniqF_step {L : List ByteArray} {k : Nat} {f : ByteArray} (h : L[k]? = some f) : uniqF (L.take (k + 1)) = uniqStep (uniqF (L.take k)) f := by
 rw [List.take_add_one, h]; exact uniqF_snoc _ _
theorem uniqF_len (L : List ByteArray) : ∀ k, k ≤ L.length → (uniqF (L.take k)).length ≤ k
 | 0, _ => by simp [uniqF]
 | k + 1, h => by
  obtain ⟨f, hf⟩ : ∃ f, L[k]? = some f := ⟨L[k], List.getElem?_eq_getElem (by omega)⟩
  have := uniqF_len L k (by omega)
  rw [uniqF_step hf, uniqStep]
  split
  ·omega
  ·simp; omega
theorem uniqF_ok : ∀ (n : Nat) (L : List ByteArray), L.length = n → Srt L → Srt (uniqF L) ∧ (uniqF L).Nodup ∧ (∀ x, x ∈ uniqF L ↔ x ∈ L) ∧ (uniqF L).getLast? = L.getLast?
 | 0, L, h, _ => by
  obtain rfl := List.length_eq_zero_iff.1 h
  exact ⟨List.Pairwise.nil, List.nodup_nil, fun x => Iff.rfl, rfl⟩
 | n + 1, L, h, hs => by
  obtain ⟨M, f, rfl⟩ : ∃ M f, L = M ++ [f] := by
   rcases List.eq_nil_or_concat L with rfl | ⟨M, f, e⟩
   ·simp at h
   ·exact ⟨M, f, by simpa using e⟩
  have hM : M.length = n := by simpa using h
  have hsp := List.pairwise_append.1 hs
  obtain ⟨i1, i2, i3, i4⟩ := uniqF_ok n M hM hsp.1
  rw [uniqF_snoc, uniqStep]
  split
  ·rename_i hl
   refine ⟨i1, i2, fun x => ?_, by rw [hl]; simp⟩
   rw [i3, List.mem_append, List.mem_singleton]
   refine ⟨Or.inl, fun q => q.elim id fun e => ?_⟩
   rw [i4] at hl
   rw [e]; exact List.mem_of_getLast? hl
  ·rename_i hl
   have hfM : f ∉ M := by
    intro hf
    obtain ⟨x, hx⟩ : ∃ x, M.getLast? = some x := by
     cases hg : M.getLast? with
     | none => rw [List.getLast?_eq_none_iff] at hg; rw [hg] at hf; cases hf
     | some x => exact ⟨x, rfl⟩
    have hxM := List.mem_of_getLast? hx
    have h1 := hsp.2.2 x hxM f (by simp)
    have h2 : leS f x = true := by
     obtain ⟨Q, hQ⟩ : ∃ Q, M = Q ++ [x] := by
      rcases List.eq_nil_or_concat M with e | ⟨Q, y, e⟩
      ·rw [e] at hf; cases hf
      ·refine ⟨Q, ?_⟩
       rw [e] at hx
       simp at hx
       rw [e, hx]; simp
     rw [hQ] at hf
     rcases List.mem_append.1 hf with q | q
     ·have := (List.pairwise_append.1 (hQ ▸ hsp.1)).2.2 f q x (by simp)
      exact this
     ·rw [List.mem_singleton.1 q]
      have := leS_total x x
      simpa using this
    have := leS_anti h1 h2
    rw [i4, hx, this] at hl
    exact hl rfl
   refine ⟨?_, ?_, fun x => ?_, by simp⟩
   ·rw [Srt, List.pairwise_append]
    exact ⟨i1, List.pairwise_singleton _ _, fun a ha b hb => hsp.2.2 a ((i3 a).1 ha) b hb⟩
   ·rw [List.nodup_append]
    exact ⟨i2, List.nodup_cons.2 ⟨by simp, List.nodup_nil⟩, fun a ha b hb => by
     rw [List.mem_singleton.1 hb]; rintro rfl; exact hfM ((i3 _).1 ha)⟩
   ·rw [List.mem_append, List.mem_append, i3]
noncomputable def falS (L : List ByteArray) : List ByteArray := uniqF ((falL L).mergeSort leS)
end Go.Proofs.YtidolgonmimicaaGreat
namespace Go.Proofs.YtidolgonmimicaaGreat
open Go.ChangeShapes Go.WideShapes Go.ChangeAt Go.RowKit Go.Deep
def rowOk (st : Nat) (f : ByteArray) : Bool := goodRow f && (f.size == st)
def fhOk (nm : ByteArray) (st : Nat) (l : List ByteArray) (f : ByteArray) : Bool := goodM nm (st : Int) l && rowOk st f
noncomputable def fhV (nm : ByteArray) (st : Nat) (l : List ByteArray) (f : ByteArray) : Bool := fhOk nm st l f && inL (falL (leadL st l)) f
noncomputable def shV (nm : ByteArray) (st : Nat) (l : List ByteArray) (f : ByteArray) : List ByteArray := if fhOk nm st l f = true then meetL (leadL st l) ((leadL st l).map (timesS f)) else []
noncomputable def fhsOk (nm : ByteArray) (st : Nat) (l : List ByteArray) : Bool := goodM nm (st : Int) l && decide ((falS (leadL st l)).length ≤ 800)
noncomputable def fhsV (nm : ByteArray) (st : Nat) (l : List ByteArray) : List ByteArray := if fhsOk nm st l = true then falS (leadL st l) else []
noncomputable def sfOk (na : ByteArray) (sa : Nat) (la : List ByteArray) (nb : ByteArray) (sb : Nat) (lb : List ByteArray) : Bool := (fhsOk na sa la && fhsOk nb sb lb) && decide (sa = sb)
noncomputable def sfV (na : ByteArray) (sa : Nat) (la : List ByteArray) (nb : ByteArray) (sb : Nat) (lb : List ByteArray) : Bool := sfOk na sa la nb sb lb && decide (falS (leadL sa la) = falS (leadL sb lb))
def ltV (nm : ByteArray) (st : Nat) (l : List ByteArray) : Bool := goodM nm (st : Int) l && nodupB (leadL st l)
section
variable {nm : ByteArray} {st : Nat} {l : List ByteArray} {f : ByteArray}
end
end Go.Proofs.YtidolgonmimicaaGreat
namespace Go.Proofs.YtidolgonmimicaaGreat
open Go.ChangeShapes Go.WideShapes Go.ChangeAt Go.RowKit Go.Deep
theorem bytes_ne {y s : ByteArray} (h : ¬ y = s) : (y.toList == s.toList) = false := by
 rw [beq_eq_false_iff_ne]; exact fun e => h (toList_inj e)
set_option maxRecDepth 100000 in
theorem spec_l1HasS {A : Option Addr} {N c : Nat} {l : List ByteArray} {s : ByteArray} {w : World} (hN : l.length = N) (h : Strs w A l) (hz : N ≤ 16777216) :
  Calls Tryz.prog 148 #[.slice A N c, .string s] w fun e w' => e = .returned (.bool (inL l s)) ∧ w = w' := by
 subst hN
 go_in
 go_wp2
 go_loopw [9] (fun i wr => ∃ k : Nat, k ≤ l.length ∧ i = .int .i64 k ∧ Hid (∀ j, j < k → l[j]? ≠ some s) ∧ w = wr) (fun i _ => l.length - (intOf i).toNat)
 case atStart => exact ⟨0, Nat.zero_le _, rfl, Lib.hid (fun j hj => absurd hj (by omega)), rfl⟩
 case round =>
  obtain ⟨k, hk, rfl, HK, rfl⟩ := hrel
  by_cases hlt : k < l.length
  ·obtain ⟨b1, o1, y, rfl, hbb, hy, hcy⟩ := h.at_str hlt
   by_cases hys : y = s
   ·have e0 := Lib.hid (show inL l s = true from inL_iff.2 (by rw [← hys]; exact List.mem_of_getElem? hy))
    clear hy h
    go_wp2
    go_ret
    exact ⟨ret_bool e0.out.symm, rfl⟩
   ·have HK2 := Lib.hid (show ∀ j, j < k + 1 → l[j]? ≠ some s from fun j hj => by
     rcases Nat.lt_or_ge j k with h1 | h1
     ·exact HK.out j h1
     ·obtain rfl : j = k := by omega
      rw [hy]; intro e; injection e with e; exact hys e)
    have hne := bytes_ne hys
    clear hy h
    go_wp2
    go_roundw
    case rel => exact ⟨k + 1, by omega, by go_num, HK2, trivial⟩
    case measure => simp [intOf]; omega
  ·obtain rfl : k = l.length := by omega
   have e0 := Lib.hid (show inL l s = false by
    rcases hc : inL l s with _ | _
    ·rfl
    ·obtain ⟨j, hj⟩ := List.getElem?_of_mem (inL_iff.1 hc)
     exact absurd hj (HK.out j (List.getElem?_eq_some_iff.1 hj).1))
   go_wp2
   go_ret
   exact ⟨ret_bool e0.out.symm, rfl⟩
end Go.Proofs.YtidolgonmimicaaGreat
namespace Go.Proofs.YtidolgonmimicaaGreat
open Go.ChangeShapes Go.WideShapes Go.ChangeAt Go.RowKit Go.Deep
theorem bytes_same {a b : ByteArray} (h : (a.toList == b.toList) = true) : a = b := by
 have h1 : a.toList = b.toList := by simpa using h
 rw [ByteArray.toList_eq, ByteArray.toList_eq] at h1
 cases a; cases b
 congr 1
 exact Array.ext' h1
def szS (l : List ByteArray) : Int := (l.map fun s => (s.size : Int)).sum + l.length
def dgt (n : Nat) : ByteArray := strOfNums [48 + (n : Int) % 10]
def mkD (k : Nat) (out : ByteArray) : ByteArray := if k = 0 then out else mkD (k / 10) (dgt k ++ out)
termination_by k
decreasing_by omega
def markT (k : Nat) : ByteArray := ⟨#[109]⟩ ++ mkD k ByteArray.empty
def markS (k0 : Int) (j : Nat) : ByteArray := markT (k0 + (j : Int)).toNat
end Go.Proofs.YtidolgonmimicaaGreat
namespace Go.Proofs.YtidolgonmimicaaGreat
open Go.ChangeShapes Go.WideShapes Go.ChangeAt Go.RowKit Go.Deep
set_option maxRecDepth 100000 in
theorem spec_sameS (A C : Option Addr) (n n' c d : Nat) (l m : List ByteArray) (w : World) (hn : l.length = n) (hn' : m.length = n') (h : Recs strE 1 w A l) (g : Recs strE 1 w C m) (hz : n ≤ 16777216) (hz' : n' ≤ 16777216) :
  Calls Tryz.prog 112 #[.slice A n c, .slice C n' d] w fun e w' => e = .returned (.bool (decide (l = m))) ∧ Below w.heap.size w w' := by
 subst hn hn'
 by_cases hl : l.length = m.length
 ·have HL := Lib.hid hl
  rw [← hl]
  clear hl
  go_in
  go_wp2
  go_loopw [13] (fun i wr => ∃ k : Nat, k ≤ l.length ∧ i = .int .i64 k ∧ Hid (∀ j, j < k → l[j]? = m[j]?) ∧ Below w.heap.size w wr) (fun i _ => l.length - (intOf i).toNat)
  case atStart => exact ⟨0, Nat.zero_le _, rfl, Lib.hid (fun j hj => absurd hj (by omega)), Below.refl _ _⟩
  case round =>
   obtain ⟨k, hk, rfl, HT, hb⟩ := hrel
   by_cases hlt : k < l.length
   ·obtain ⟨b1, o1, x, rfl, _, hx, hcx⟩ := (h.below hb (Nat.le_refl _)).at_str hlt
    obtain ⟨b2, o2, y, rfl, _, hy, hcy⟩ := (g.below hb (Nat.le_refl _)).at_str (by rw [← HL.out]; exact hlt)
    have HX := Lib.hid hx
    have HY := Lib.hid hy
    clear hx hy h g
    rcases hne : (x.toList == y.toList)
    ·have he := Lib.hid hne
     go_wp2
     go_quiet (fail)
     go_wp2
     go_ret
     refine ⟨ret_bool ?_, by (repeat' (first | (with_reducible exact Below.refl _ _) | (with_reducible assumption) | (with_reducible refine below_drewN ?_ _) | (with_reducible refine Below.drew ?_) | (with_reducible refine below_alloc ?_ _) | (with_reducible refine Below.alloc ?_ ?_ _) | (with_reducible refine Below.setCell ?_ ?_ _) | (with_reducible refine below_go ?_ (by with_reducible assumption)) | (with_reducible refine below_then (by with_reducible assumption) ?_ ?_) | go_size))⟩
     have hd : l ≠ m := fun e => by
      have h1 := HX.out
      rw [e, HY.out] at h1
      injection h1 with h1
      have h2 := he.out
      rw [h1] at h2
      simp at h2
     simp [hd]
    ·have he := Lib.hid hne
     go_wp2
     go_quiet (fail)
     go_wp2
     go_roundw
     case rel => exact ⟨k + 1, by omega, by go_num, Lib.hid (upto_succ HT.out (by rw [HX.out, HY.out, bytes_same he.out])), by (repeat' (first | (with_reducible exact Below.refl _ _) | (with_reducible assumption) | (with_reducible refine below_drewN ?_ _) | (with_reducible refine Below.drew ?_) | (with_reducible refine below_alloc ?_ _) | (with_reducible refine Below.alloc ?_ ?_ _) | (with_reducible refine Below.setCell ?_ ?_ _) | (with_reducible refine below_go ?_ (by with_reducible assumption)) | (with_reducible refine below_then (by with_reducible assumption) ?_ ?_) | go_size))⟩
     case measure => simp [intOf]; omega
   ·go_wp2
    go_ret
    refine ⟨ret_bool ?_, hb⟩
    have hd : l = m := eq_of_upto (fun j hj => HT.out j hj) (by omega) (by have := HL.out; omega)
    simp [hd]
 ·have hne : ((l.length : Int) != (m.length : Int)) = true := by simp; omega
  have hd : l ≠ m := fun e => hl (by rw [e])
  have HD := Lib.hid hd
  clear hd hl
  go_in
  go_wp2
  go_ret
  refine ⟨ret_bool ?_, by (repeat' (first | (with_reducible exact Below.refl _ _) | (with_reducible assumption) | (with_reducible refine below_drewN ?_ _) | (with_reducible refine Below.drew ?_) | (with_reducible refine below_alloc ?_ _) | (with_reducible refine Below.alloc ?_ ?_ _) | (with_reducible refine Below.setCell ?_ ?_ _) | (with_reducible refine below_go ?_ (by with_reducible assumption)) | (with_reducible refine below_then (by with_reducible assumption) ?_ ?_) | go_size))⟩
  simp [HD.out]
set_option maxRecDepth 100000 in
theorem laws_qSameS {A B : Option Addr} {n c d : Nat} {l : List ByteArray} {w : World} (hn : l.length = n) (h : Strs w A l) (g : Strs w B l) (hz : n ≤ 16777216) :
  Calls Tryz.prog 17 #[.slice A n c, .slice B n d] w fun e w' => e = .returned (.bool true) ∧ Below w.heap.size w w' := by
 subst hn
 go_in
 go_wp2
 go_loopw [13] (fun i wr => ∃ k : Nat, k ≤ l.length ∧ i = .int .i64 k ∧ Below w.heap.size w wr) (fun i _ => l.length - (intOf i).toNat)
 case atStart => exact ⟨0, Nat.zero_le _, rfl, Below.refl _ _⟩
 case round =>
  obtain ⟨k, hk, rfl, hb⟩ := hrel
  by_cases hlt : k < l.length
  ·obtain ⟨b1, o1, x, rfl, _, hx, hcx⟩ := (h.below hb (Nat.le_refl _)).at_str hlt
   obtain ⟨b2, o2, y, rfl, _, hy, hcy⟩ := (g.below hb (Nat.le_refl _)).at_str hlt
   rw [hx] at hy
   injection hy with hy
   subst hy
   clear hx h g
   go_wp2
   go_quiet (fail)
   go_wp2
   go_roundw
   case rel => exact ⟨k + 1, by omega, by go_num, below_drewN hb _⟩
   case measure => simp [intOf]; omega
  ·go_wp2
   go_ret
   exact ⟨rfl, hb⟩
end Go.Proofs.YtidolgonmimicaaGreat
namespace Go.Proofs.YtidolgonmimicaaGreat
open Go.ChangeShapes Go.WideShapes Go.ChangeAt Go.RowKit Go.Deep
theorem goodM_st {nm : ByteArray} {st : Nat} {l : List ByteArray} (h : goodM nm (st : Int) l = true) : (3 ≤ st ∧ st ≤ 8) ∧ 1 ≤ l.length ∧ l.length ≤ 40 := by
 have := goodM_t h
 omega
noncomputable def prodL (r : ByteArray) (L : List ByteArray) (k : Nat) : List ByteArray := (L.take k).map fun s => timesS r (turnS s)
noncomputable def falTo (L : List ByteArray) (k : Nat) : List ByteArray := (L.take k).flatMap fun r => L.map fun s => timesS r (turnS s)
end Go.Proofs.YtidolgonmimicaaGreat
namespace Go.Proofs.YtidolgonmimicaaGreat
open Go.ChangeShapes Go.WideShapes Go.ChangeAt Go.RowKit Go.Deep
theorem cur_anyRow {A : Option Addr} {n c a p : Nat} {w0 w : World} (hS : Src w0 A n) (hb : Below w0.heap.size w0 w) (hp : w0.heap.size ≤ p) (hc : Cur w p A n c a) (ha : a ≤ 900000) :
  Calls Tryz.prog 97 #[.pointer (some ⟨p, 0, none⟩)] w fun e w' => ∃ r : ByteArray, e = .returned (.string r) ∧ r.size ≤ 10 ∧ Cur w' p A n c (a + 30) ∧ w.grownBy w' (some p) := by
 have HS := Lib.hid hS
 have G : Hid (∀ u : World, w.grownBy u (some p) → Below w0.heap.size w0 u) := Lib.hid (fun u hg => grown_below hb hp hg)
 go_in
 go_wp2_with fail
 refine (cur_stage hS hb hp hc (by omega)).mono ?_; rintro e w1 ⟨x, rfl, x3, x8, hc1, hg1⟩
 go_wp2_with fail
 refine (cur_row HS.out (G.out _ hg1) hp hc1 (by omega) x3 x8).mono ?_; rintro e w2 ⟨r, rfl, hr, hc2, hg2⟩
 have hg2 := grownBy_trans hg1 hg2
 have hrz : r.size ≤ 8 := by rw [hr.2]; exact x8
 go_wp2_with fail
 refine (cur_one HS.out (G.out _ hg2) hp hc2 (by omega) (by decide) (by decide)).mono ?_; rintro e w3 ⟨b, rfl, hc3, hg3⟩
 have hg3 := grownBy_trans hg2 hg3
 rcases b
 ·go_wp2
  go_ret
  exact ⟨r, rfl, by omega, hc3.mono (by omega), hg3⟩
 ·go_wp2_with fail
  refine (cur_spoilt HS.out (G.out _ hg3) hp hc3 (by omega) hrz (by decide) (by decide) (by decide)).mono ?_; rintro e w4 ⟨s, rfl, hs, hc4, hg4⟩
  go_wp2
  go_ret
  exact ⟨s, rfl, by omega, hc4.mono (by omega), grownBy_trans hg3 hg4⟩
end Go.Proofs.YtidolgonmimicaaGreat
namespace Go.Proofs.YtidolgonmimicaaGreat
open Go.ChangeShapes Go.WideShapes Go.ChangeAt Go.RowKit Go.Deep
def IsOrd (n : Nat) (e : ByteArray) (m : Nat) : Prop := 1 ≤ m ∧ pwS n e m = roundsS n ∧ ∀ k, 1 ≤ k → k < m → pwS n e k ≠ roundsS n
theorem IsOrd.uniq {n m k : Nat} {e : ByteArray} (h : IsOrd n e m) (g : IsOrd n e k) : m = k := by
 rcases Nat.lt_trichotomy m k with q | q | q
 ·exact absurd h.2.1 (g.2.2 m h.1 q)
 ·exact q
 ·exact absurd g.2.1 (h.2.2 k g.1 q)
section
variable {n m : Nat} {e : ByteArray}
def cosL (n : Nat) (e : ByteArray) (m : Nat) (x : ByteArray) : List ByteArray := (pwL n e m).map fun p => timesS p x
def leastS (n : Nat) (e : ByteArray) (m : Nat) (x : ByteArray) : ByteArray := ((cosL n e m x).mergeSort leS).headD ByteArray.empty
def wholeL (n : Nat) (e : ByteArray) (m : Nat) (R : List ByteArray) : List ByteArray := (List.range m).flatMap fun j => R.map (timesS (pwS n e j))
end
section
variable {st : Nat} {l : List ByteArray} {b s u v : ByteArray}
def Again (u v : ByteArray) (m : Nat) : Prop := v.size = m * u.size ∧ ∀ j i, j < m → i < u.size → letter v (j * u.size + i) = letter u i
theorem hd_row (h3 : 3 ≤ st) (h8 : st ≤ 8) (k : Nat) : RowN st (hdAt st l b s u k) := hdAt_good h3 h8 l b s u k
end
end Go.Proofs.YtidolgonmimicaaGreat
