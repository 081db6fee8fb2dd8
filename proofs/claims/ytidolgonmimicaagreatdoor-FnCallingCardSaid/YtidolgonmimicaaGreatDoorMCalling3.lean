/- Texts 3 of 6 that the claim leans on: plain laws and the walks' contracts, in order. -/
import Derived.Test.YtidolgonmimicaaGreatDoorMCalling2
import Derived.BigRegion
import Derived.Maps.OwnSet
import Derived.Maps.Views
import Derived.WideKeyPair
import Derived.DeepKeys4
import Derived.Deep.DeepCutAuto
import Derived.Maps.StringElems
/- The swaps of a change, the program's side; ChangeSign on both sides. -/
namespace Go.Proofs.YtidolgonmimicaaGreatDoor
set_option linter.unusedVariables false
set_option linter.unusedSimpArgs false
open Go.ChangeShapes Go.WideShapes Go.ChangeAt Go.RowKit Go.Deep
theorem impl_placesOf {c : ByteArray} {w : World} (hz : c.size ≤ 16777216) (hg : isDash c = true ∨ validD c = true) :
    Calls Tryz.prog 130 #[.string c] w fun e w' => ∃ A' c', e = .returned (.slice A' (plsOf c).length c') ∧
      Owned intE 1 3 w' w.heap.size A' (plsOf c).length c' (plsOf c) ∧ Below w.heap.size w w' := by
  rcases h6 : isDash c
  · have h7 : (c.toList == [45]) = false := h6
    have hv : validD c = true := by rcases hg with h | h; rw [h6] at h; cases h; exact h
    have e0 := Lib.hid (plsOf_digs h6)
    have e1 := Lib.hid (plR_t hv)
    go_in
    go_wp2_with (first | (go_at_call 74; refine (impl_places hz).mono ?_; rintro e w1 ⟨A1, c1, rfl, ho1, hb1⟩))
    go_ret
    rw [e0.out, ← e1.out]
    exact ⟨_, _, rfl, ho1, hb1⟩
  · have h7 : (c.toList == [45]) = true := h6
    have e0 := Lib.hid (plsOf_dash h6)
    go_in
    go_wp2
    go_ret
    rw [e0.out]
    exact ⟨_, _, rfl, Owned.empty intE_len _ _ (by simp), by (repeat' (first | (with_reducible exact Below.refl _ _) | (with_reducible assumption) | (with_reducible refine below_drewN ?_ _) | (with_reducible refine Below.drew ?_) | (with_reducible refine below_alloc ?_ _) | (with_reducible refine Below.alloc ?_ ?_ _) | (with_reducible refine Below.setCell ?_ ?_ _) | (with_reducible refine below_go ?_ (by with_reducible assumption)) | (with_reducible refine below_then (by with_reducible assumption) ?_ ?_) | go_size))⟩
def hasI (l : List Int) (p : Int) : Bool := l.contains p
theorem slices_IndexInt {A : Option Addr} {N c : Nat} {l : List Int} {p : Int} {w : World} (hN : l.length = N) (h : Ints w A l) (hz : N ≤ 16777216) :
    Calls Tryz.prog 134 #[.slice A N c, .int .i64 p] w fun e w' => ∃ r : Int, e = .returned (.int .i64 r) ∧ decide (0 ≤ r) = hasI l p ∧ w = w' := by
  subst hN
  go_in
  go_wp2
  go_loopw [8] (fun i wr => ∃ k : Nat, k ≤ l.length ∧ i = .int .i64 k ∧ Hid (hasI l p = (l.drop k).contains p) ∧ w = wr) (fun i _ => l.length - (intOf i).toNat)
  case atStart => exact ⟨0, Nat.zero_le _, rfl, Lib.hid rfl, rfl⟩
  case round =>
    obtain ⟨k, hk, rfl, HK, rfl⟩ := hrel
    by_cases hlt : k < l.length
    · obtain ⟨b3, o3, y3, rfl, hbb3, hy3, hc3⟩ := h.at_int hlt
      have HD := Lib.hid (show l.drop k = y3 :: l.drop (k + 1) by rw [List.drop_eq_getElem_cons hlt]; congr 1; rw [List.getElem?_eq_getElem hlt] at hy3; injection hy3)
      clear hy3
      rcases he : (p == y3)
      · have e1 := Lib.hid (show hasI l p = (l.drop (k + 1)).contains p by rw [HK.out, HD.out, List.contains_cons, he]; rfl)
        go_wp2
        go_roundw
        case rel => exact ⟨k + 1, by omega, by go_num, e1, trivial⟩
        case measure => simp [intOf]; omega
      · have e1 := Lib.hid (show hasI l p = true by rw [HK.out, HD.out, List.contains_cons, he]; rfl)
        go_wp2
        go_ret
        exact ⟨(k : Int), rfl, by rw [e1.out]; simp, rfl⟩
    · have e1 := Lib.hid (show hasI l p = false by rw [HK.out, List.drop_eq_nil_of_le (by omega)]; rfl)
      go_wp2
      go_ret
      exact ⟨-1, rfl, by rw [e1.out]; rfl, rfl⟩
theorem slices_ContainsInt {A : Option Addr} {N c : Nat} {l : List Int} {p : Int} {w : World} (hN : l.length = N) (h : Ints w A l) (hz : N ≤ 16777216) :
    Calls Tryz.prog 131 #[.slice A N c, .int .i64 p] w fun e w' => e = .returned (.bool (hasI l p)) ∧ w = w' := by
  go_in
  go_wp2_with (first | (go_at_call 134; refine (slices_IndexInt hN h hz).mono ?_; rintro e w' ⟨r, rfl, hr, rfl⟩))
  go_ret
  exact ⟨ret_bool rfl, rfl⟩
set_option maxRecDepth 100000 in
theorem impl_swapsOf {c : ByteArray} {n : Nat} {w : World} (hz : c.size ≤ 16777216) (hn : n ≤ 8) (hg : isDash c = true ∨ validD c = true) :
    Calls Tryz.prog 122 #[.int .i64 n, .string c] w fun e w' => ∃ A' c', e = .returned (.slice A' (swaps n c).length c') ∧
      Owned intE 1 3 w' w.heap.size A' (swaps n c).length c' (swaps n c) ∧ Below w.heap.size w w' := by
  have hpz : (plsOf c).length ≤ 16777216 := by
    rcases h6 : isDash c
    · rw [plsOf_digs h6, digs_len]; exact hz
    · rw [plsOf_dash h6]; decide
  go_in
  go_wp2_with (first | (go_at_call 130; refine (impl_placesOf hz hg).mono ?_; rintro e w1 ⟨A1, c1, rfl, ho1, hb1⟩; have hst := ho1.recs; have hsz1 := hb1.size; clear ho1))
  go_loopw [6, 7] (fun v i wr => ∃ (k : Nat) (A' : Option Addr) (m c' : Nat) (l : List Int), k ≤ n + 1 ∧ i = .int .i64 (k + 1 : Nat) ∧ v = .slice A' m c' ∧ Hid (swaps n c = l ++ sws (stays c) n (k + 1)) ∧ m ≤ k ∧ Owned intE 1 3 wr w1.heap.size A' m c' l ∧ Below w1.heap.size w1 wr) (fun _ i _ => n + 2 - (intOf i).toNat)
  case atStart => exact ⟨0, _, _, _, [], by omega, rfl, rfl, Lib.hid rfl, by omega, Owned.empty intE_len _ _ (by simp), by (repeat' (first | (with_reducible exact Below.refl _ _) | (with_reducible assumption) | (with_reducible refine below_drewN ?_ _) | (with_reducible refine Below.drew ?_) | (with_reducible refine below_alloc ?_ _) | (with_reducible refine Below.alloc ?_ ?_ _) | (with_reducible refine Below.setCell ?_ ?_ _) | (with_reducible refine below_go ?_ (by with_reducible assumption)) | (with_reducible refine below_then (by with_reducible assumption) ?_ ?_) | go_size))⟩
  case round =>
    obtain ⟨k, A', m, c', l, hk, rfl, rfl, HK, hmk, ho, hb⟩ := hrel
    have HO := Lib.hid ho
    have hsz := hb.size
    have hS := Lib.hid (hst.below hb (Nat.le_refl _))
    clear ho hst
    by_cases hlt : k + 1 < n
    · have hpc : Hid (hasI (plsOf c) ((k : Int) + 1) = stays c ((k : Int) + 1)) := Lib.hid (pls_has (c := c) (p := (k : Int) + 1) (by omega))
      rcases hs : stays c ((k : Int) + 1)
      · have e1 := Lib.hid (sws_swap hlt hs)
        have hs2 : hasI (plsOf c) ((k : Int) + 1) = false := hpc.out.trans hs
        go_wp2_with (first | (go_at_call 131; refine (slices_ContainsInt rfl hS.out hpz).mono ?_; rintro e w' ⟨rfl, rfl⟩) | (at_builtin; go_must ((refine wpList_append_rec Tryz.elInt rfl (.tmp 20) (.tmp 22) rfl rfl (HO.out.alloc _) ((k : Int) + 1) rfl (Box.at_ _ [.int .i64 ((k : Int) + 1)] _ ?_) (intE_one _) ?_ (by decide) ?_ ?_; (focus (first | omega | (simp only [World.size_alloc]; done) | (simp only [World.size_alloc]; omega) | (simp; done) | (simp; omega))); (focus (first | omega | (simp only [World.size_alloc]; done) | (simp only [World.size_alloc]; omega) | (simp; done) | (simp; omega))); (focus (first | omega | (simp only [World.size_alloc]; done) | (simp only [World.size_alloc]; omega) | (simp; done) | (simp; omega))); intro A2 c2 w2 ho2 hg2 hb2))))
        go_roundw
        case rel => exact ⟨k + 2, A2, m + 1, c2, l ++ [((k + 1 : Nat) : Int)], by omega, by go_num, by go_num, Lib.hid (by rw [HK.out, e1.out, List.append_assoc]; rfl), by omega, ho2, (hb.alloc hsz _).trans hb2⟩
        case measure => simp [intOf]; omega
      · have e1 := Lib.hid (sws_stay hlt hs)
        have hs2 : hasI (plsOf c) ((k : Int) + 1) = true := hpc.out.trans hs
        go_wp2_with (first | (go_at_call 131; refine (slices_ContainsInt rfl hS.out hpz).mono ?_; rintro e w' ⟨rfl, rfl⟩))
        go_roundw
        case rel => exact ⟨k + 1, A', m, c', l, by omega, by go_num, rfl, Lib.hid (by rw [HK.out, e1.out]), by omega, HO.out, by (repeat' (first | (with_reducible exact Below.refl _ _) | (with_reducible assumption) | (with_reducible refine below_drewN ?_ _) | (with_reducible refine Below.drew ?_) | (with_reducible refine below_alloc ?_ _) | (with_reducible refine Below.alloc ?_ ?_ _) | (with_reducible refine Below.setCell ?_ ?_ _) | (with_reducible refine below_go ?_ (by with_reducible assumption)) | (with_reducible refine below_then (by with_reducible assumption) ?_ ?_) | go_size))⟩
        case measure => simp [intOf]; omega
    · have e1 := Lib.hid (show swaps n c = l by rw [HK.out, sws_end hlt, List.append_nil])
      have hl := HO.out.len
      go_wp2
      go_ret
      rw [e1.out, hl]
      exact ⟨_, _, rfl, HO.out.base_le hsz1, below_go hb1 hb⟩
def signR (n : Int) (c : ByteArray) : Bool := goodChange n c && evenSwaps n.toNat c
end Go.Proofs.YtidolgonmimicaaGreatDoor
/- The walks through the row of a change, the reference's side. -/
namespace Go.Proofs.YtidolgonmimicaaGreatDoor
set_option linter.unusedVariables false
set_option linter.unusedSimpArgs false
open Go.ChangeShapes Go.WideShapes Go.ChangeAt Go.RowKit Go.Deep
theorem spec_l1Rounds {n : Nat} {w : World} (hn : n ≤ 8) :
    Calls Tryz.prog 28 #[.int .i64 n] w fun e w' => e = .returned (.string (roundsS n)) ∧ w = w' := by
  go_in
  go_wp2
  go_ret
  exact ⟨rfl, rfl⟩
theorem impl_rounds {n : Nat} {w : World} (hn : n ≤ 8) :
    Calls Tryz.prog 55 #[.int .i64 n] w fun e w' => e = .returned (.string (roundsS n)) ∧ w = w' := by
  go_in
  go_wp2
  go_ret
  exact ⟨rfl, rfl⟩
set_option maxRecDepth 100000 in
theorem spec_l2Row {c : ByteArray} {n : Nat} {w : World} (hz : c.size ≤ 16777216) (hn : n ≤ 8) :
    Calls Tryz.prog 102 #[.int .i64 n, .string c] w fun e w' => e = .returned (.string (chRow n c)) ∧ Below w.heap.size w w' := by
  have hcv := run_bytes (P := Tryz.prog) (src := 9) (dst := 22) (e := 5) (roundsS n) Tryz.underlying9 Tryz.underlying22 Tryz.underlying5
  have hrs := rounds_size n (by omega)
  rw [hrs] at hcv
  have hE : Hid (chRow n c = strOfNums (rowV n (swaps n c))) := Lib.hid rfl
  go_in
  go_wp2_with (first | (go_at_call 28; refine (spec_l1Rounds hn).mono ?_; rintro e w' ⟨rfl, rfl⟩))
  have hr0 := bytesW_row w 5 (roundsS n)
  have hb0 := bytesW_below w 5 (roundsS n)
  rw [rowV_nil n (by omega)] at hr0
  clear hcv
  generalize grownCap w n 0 5 = cc
  go_loopw [6] (fun i wr => ∃ (k : Nat) (l : List Int), k ≤ n + 1 ∧ i = .int .i64 (k + 1 : Nat) ∧ Hid (swaps n c = l ++ sws (stays c) n (k + 1)) ∧ Hid (∀ x ∈ l, x + 2 ≤ ((k + 1 : Nat) : Int)) ∧ Hid (BRow wr w.heap.size (rowV n l)) ∧ Below w.heap.size w wr) (fun i _ => n + 2 - (intOf i).toNat)
  case atStart => exact ⟨0, [], by omega, rfl, Lib.hid rfl, Lib.hid (fun x hx => by cases hx), Lib.hid hr0, hb0⟩
  case round =>
    obtain ⟨k, l, hk, rfl, HK, HL, HR, hb⟩ := hrel
    by_cases hlt : k + 1 < n
    · have hI : I64 ((k : Int) + 1) := by unfold I64; omega
      rcases hs : stays c ((k : Int) + 1)
      · have e1 := Lib.hid (sws_swap hlt hs)
        have hrow := Lib.hid (rowV_step (p := k + 1) (by omega) hlt HL.out)
        have hlen := rowV_len n l
        have c1 := HR.out.2.1 k _ (List.getElem?_eq_getElem (by omega))
        have c2 := HR.out.2.1 (k + 1) _ (List.getElem?_eq_getElem (by omega))
        have f1 := HR.out.2.2 k (by omega)
        have f2 := HR.out.2.2 (k + 1) (by omega)
        have hR2 := Lib.hid ((HR.out.set (k := k) (by omega) (49 + ((k + 1 : Nat) : Int))).set (k := k + 1) (by rw [List.length_set]; omega) (48 + ((k + 1 : Nat) : Int)))
        go_wp2_with (first | (go_at_call 111; refine (spec_l2Stays hz hI).mono ?_; rintro e w' ⟨rfl, rfl⟩))
        go_roundw
        case rel => exact ⟨k + 2, l ++ [((k + 1 : Nat) : Int)], by omega, by go_num, Lib.hid (by rw [HK.out, e1.out, List.append_assoc]; rfl), Lib.hid (fun x hx => by
            rcases List.mem_append.1 hx with hx | hx
            · have := HL.out x hx; omega
            · rw [List.mem_singleton.1 hx]; omega), Lib.hid (by rw [hrow.out]; exact hR2.out), by (repeat' (first | (with_reducible exact Below.refl _ _) | (with_reducible assumption) | (with_reducible refine below_drewN ?_ _) | (with_reducible refine Below.drew ?_) | (with_reducible refine below_alloc ?_ _) | (with_reducible refine Below.alloc ?_ ?_ _) | (with_reducible refine Below.setCell ?_ ?_ _) | (with_reducible refine below_go ?_ (by with_reducible assumption)) | (with_reducible refine below_then (by with_reducible assumption) ?_ ?_) | go_size))⟩
        case measure => simp [intOf]; omega
      · have e1 := Lib.hid (sws_stay hlt hs)
        go_wp2_with (first | (go_at_call 111; refine (spec_l2Stays hz hI).mono ?_; rintro e w' ⟨rfl, rfl⟩))
        go_roundw
        case rel => exact ⟨k + 1, l, by omega, by go_num, Lib.hid (by rw [HK.out, e1.out]), Lib.hid (fun x hx => by have := HL.out x hx; omega), HR, hb⟩
        case measure => simp [intOf]; omega
    · have e1 := Lib.hid (show swaps n c = l by rw [HK.out, sws_end hlt, List.append_nil])
      have ht := HR.out.text (P := Tryz.prog) (src := 22) (e := 5) (dst := 9) n cc (rowV_len n l) Tryz.underlying22 Tryz.underlying5 Tryz.underlying9
      go_wp2
      go_ret
      rw [hE.out, e1.out]
      exact ⟨rfl, hb⟩
end Go.Proofs.YtidolgonmimicaaGreatDoor
/- The walk through the row of a change, the program's side. -/
namespace Go.Proofs.YtidolgonmimicaaGreatDoor
set_option linter.unusedVariables false
set_option linter.unusedSimpArgs false
open Go.ChangeShapes Go.WideShapes Go.ChangeAt Go.RowKit Go.Deep
set_option maxRecDepth 100000 in
theorem impl_changeRow {c : ByteArray} {n : Nat} {w : World} (hz : c.size ≤ 16777216) (hn : n ≤ 8) (hg : isDash c = true ∨ validD c = true) :
    Calls Tryz.prog 112 #[.int .i64 n, .string c] w fun e w' => e = .returned (.string (chRow n c)) ∧ Below w.heap.size w w' := by
  have hcv := run_bytes (P := Tryz.prog) (src := 9) (dst := 22) (e := 5) (roundsS n) Tryz.underlying9 Tryz.underlying22 Tryz.underlying5
  have hrs := rounds_size n (by omega)
  rw [hrs] at hcv
  have hE : Hid (chRow n c = strOfNums (rowV n (swaps n c))) := Lib.hid rfl
  have hlen8 : (swaps n c).length ≤ 8 := by
    have := sws_len (stays c) n 1
    rw [swaps]; omega
  have hin : Hid (∀ x ∈ swaps n c, ((1 : Nat) : Int) ≤ x ∧ x < n) := Lib.hid (sws_in (stays c) n 1)
  have hfar : Hid ((swaps n c).Pairwise fun x y => x + 2 ≤ y) := Lib.hid (sws_far (stays c) n 1)
  have hr0 := Lib.hid (bytesW_row w 5 (roundsS n))
  have hb0 := bytesW_below w 5 (roundsS n)
  rw [rowV_nil n (by omega)] at hr0
  have hs0 := bytesW_size w 5 (roundsS n)
  go_in
  go_wp2_with (first | (go_at_call 55; refine (impl_rounds hn).mono ?_; rintro e w' ⟨rfl, rfl⟩) | (go_at_call 122; refine (impl_swapsOf hz hn hg).mono ?_; rintro e w1 ⟨A1, c1, rfl, ho1, hb1⟩))
  clear hcv
  generalize grownCap w n 0 5 = cc
  have hr1 := Lib.hid (hr0.out.up hb1)
  have hb01 := below_go hb0 hb1
  have hs1 := hb1.size
  rw [hs0] at ho1
  have HO1 := Lib.hid ho1
  clear ho1 hr0
  generalize hsw : swaps n c = sw at *
  clear hsw
  go_loopw [15] (fun i wr => ∃ k : Nat, k ≤ sw.length ∧ i = .int .i64 k ∧ Hid (BRow wr w.heap.size (rowV n (sw.take k))) ∧ Hid (Owned intE 1 3 wr (w.heap.size + 1) A1 sw.length c1 sw) ∧ Below w.heap.size w wr) (fun i _ => sw.length - (intOf i).toNat)
  case atStart => exact ⟨0, Nat.zero_le _, rfl, hr1, HO1, hb01⟩
  case round =>
    obtain ⟨k, hk, rfl, HR, HO, hb⟩ := hrel
    by_cases hlt : k < sw.length
    · obtain ⟨b3, o3, y, rfl, hbb, hy, hcy⟩ := HO.out.recs.at_int hlt
      have hyin := hin.out y (List.mem_of_getElem? hy)
      obtain ⟨q, rfl⟩ : ∃ q : Nat, y = (q : Int) + 1 := ⟨(y - 1).toNat, by omega⟩
      have hq : q + 1 < n := by omega
      have hfr : ∀ x ∈ sw.take k, x + 2 ≤ ((q + 1 : Nat) : Int) := take_far hfar.out hy
      have hpl := rowV_plain hq hfr
      have d1 := HR.out.2.1 q _ hpl.1
      have d2 := HR.out.2.1 (q + 1) _ hpl.2
      have hlen := rowV_len n (sw.take k)
      have f1 := HR.out.2.2 q (by omega)
      have f2 := HR.out.2.2 (q + 1) (by omega)
      have htk := Lib.hid (show sw.take (k + 1) = sw.take k ++ [((q + 1 : Nat) : Int)] from take_succ_some hy)
      have hrow := Lib.hid (rowV_step (p := q + 1) (by omega) hq hfr)
      have hR2 := Lib.hid ((HR.out.set (k := q) (by omega) (49 + ((q : Int) + 1))).set (k := q + 1) (by rw [List.length_set]; omega) (49 + (q : Int)))
      have hO2 : Hid (Owned intE 1 3 ((wr.setCell ⟨w.heap.size, q, none⟩ (.int .u8 (49 + ((q : Int) + 1)))).setCell ⟨w.heap.size, q + 1, none⟩ (.int .u8 (49 + (q : Int)))) (w.heap.size + 1) (some ⟨b3, o3, none⟩) sw.length c1 sw) :=
        Lib.hid ((HO.out.past (only_set _ _) (Nat.lt_succ_self _)).past (only_set _ _) (Nat.lt_succ_self _))
      clear hpl hfr hy hyin
      go_wp2
      go_region
      all_goals go_wp2
      all_goals go_roundw
      case rel => exact ⟨k + 1, by omega, by go_num, Lib.hid (by rw [htk.out, hrow.out, show (48 + ((q + 1 : Nat) : Int)) = 49 + (q : Int) by omega]; exact hR2.out), hO2, by (repeat' (first | (with_reducible exact Below.refl _ _) | (with_reducible assumption) | (with_reducible refine below_drewN ?_ _) | (with_reducible refine Below.drew ?_) | (with_reducible refine below_alloc ?_ _) | (with_reducible refine Below.alloc ?_ ?_ _) | (with_reducible refine Below.setCell ?_ ?_ _) | (with_reducible refine below_go ?_ (by with_reducible assumption)) | (with_reducible refine below_then (by with_reducible assumption) ?_ ?_) | go_size))⟩
      case measure => simp [intOf]; omega
    · obtain rfl : k = sw.length := by omega
      have e1 := Lib.hid (show sw.take sw.length = sw from List.take_of_length_le (Nat.le_refl _))
      have ht := HR.out.text (P := Tryz.prog) (src := 22) (e := 5) (dst := 9) n cc (rowV_len n _) Tryz.underlying22 Tryz.underlying5 Tryz.underlying9
      rw [e1.out, ← hE.out] at ht
      go_wp2
      go_ret
      exact ⟨rfl, hb⟩
end Go.Proofs.YtidolgonmimicaaGreatDoor
/- The walks through a row taken through another, both sides. -/
namespace Go.Proofs.YtidolgonmimicaaGreatDoor
set_option linter.unusedVariables false
set_option linter.unusedSimpArgs false
open Go.ChangeShapes Go.WideShapes Go.ChangeAt Go.RowKit Go.Deep
set_option maxRecDepth 100000 in
theorem impl_times {a b : ByteArray} {w : World} (ha : a.size ≤ 16777216) (hz : b.size ≤ 16777216) (hf : fits a b) :
    Calls Tryz.prog 41 #[.string a, .string b] w fun e w' => e = .returned (.string (timesS a b)) ∧ Below w.heap.size w w' := by
  have hba := PlainAid.get_bt a
  have hbb := PlainAid.get_bt b
  have hmk := run_make_rec (e := byteE) Tryz.elU8 0 rfl b.size (by omega) (by decide)
  have hE : Hid (timesS a b = strOfNums (timesL a b)) := Lib.hid rfl
  have HF : Hid (fits a b) := hf
  have hr0 : Hid (BRow (w.alloc (.cells (madeCells (byteE 0).toArray (b.size * 1)) 5)) w.heap.size (List.replicate b.size 0)) := Lib.hid (BRow.of_owned (Owned.made (e := byteE) (s := 1) byteE_len w 5 0 b.size (by omega) (Nat.le_refl _)))
  have hb0 : Below w.heap.size w (w.alloc (.cells (madeCells (byteE 0).toArray (b.size * 1)) 5)) := by (repeat' (first | (with_reducible exact Below.refl _ _) | (with_reducible assumption) | (with_reducible refine below_drewN ?_ _) | (with_reducible refine Below.drew ?_) | (with_reducible refine below_alloc ?_ _) | (with_reducible refine Below.alloc ?_ ?_ _) | (with_reducible refine Below.setCell ?_ ?_ _) | (with_reducible refine below_go ?_ (by with_reducible assumption)) | (with_reducible refine below_then (by with_reducible assumption) ?_ ?_) | go_size))
  clear hf
  rw [Nat.mul_one] at hr0 hb0 hmk
  go_in
  go_wp2
  clear hmk
  go_loopw [12] (fun i wr => ∃ (k : Nat) (m : List Int), k ≤ b.size ∧ i = .int .i64 k ∧ Hid (∀ j, j < k → m[j]? = (timesL a b)[j]?) ∧ m.length = b.size ∧ Hid (BRow wr w.heap.size m) ∧ Below w.heap.size w wr) (fun i _ => b.size - (intOf i).toNat)
  case atStart => exact ⟨0, _, Nat.zero_le _, rfl, Lib.hid (fun j hj => absurd hj (by omega)), by simp, hr0, hb0⟩
  case round =>
    obtain ⟨k, m, hk, rfl, HM, hml, HR, hb⟩ := hrel
    by_cases hlt : k < b.size
    · have hr := HF.out k hlt
      obtain ⟨q, hq⟩ : ∃ q : Nat, PlainAid.bt b k = (q : Int) + 49 := ⟨(PlainAid.bt b k - 49).toNat, by omega⟩
      have hqa : q < a.size := by omega
      have hb255 := PlainAid.bt_le b k
      have hq6 : q % 256 = q := by omega
      have hq1 : PlainAid.bt b k - 49 = (q : Int) := by omega
      have hq2 : (PlainAid.bt b k - 49).toNat = q := by omega
      have E := Lib.hid (show (timesL a b)[k]? = some (PlainAid.bt a q) by rw [timesL_at hlt, hq2])
      have d1 := HR.out.2.1 k _ (List.getElem?_eq_getElem (by omega))
      have f1 := HR.out.2.2 k (by omega)
      have hR2 := Lib.hid (HR.out.set (k := k) (by omega) (PlainAid.bt a q))
      go_wp2
      go_roundw
      case rel => exact ⟨k + 1, m.set k (PlainAid.bt a q), by omega, by go_num, Lib.hid (upto_set HM.out E.out (by omega)), by rw [List.length_set]; exact hml, hR2, by (repeat' (first | (with_reducible exact Below.refl _ _) | (with_reducible assumption) | (with_reducible refine below_drewN ?_ _) | (with_reducible refine Below.drew ?_) | (with_reducible refine below_alloc ?_ _) | (with_reducible refine Below.alloc ?_ ?_ _) | (with_reducible refine Below.setCell ?_ ?_ _) | (with_reducible refine below_go ?_ (by with_reducible assumption)) | (with_reducible refine below_then (by with_reducible assumption) ?_ ?_) | go_size))⟩
      case measure => simp [intOf]; omega
    · obtain rfl : k = b.size := by omega
      have e1 : m = timesL a b := eq_of_upto (fun j hj => HM.out j hj) hml (timesL_len a b)
      have ht := HR.out.text (P := Tryz.prog) (src := 22) (e := 5) (dst := 9) b.size b.size hml Tryz.underlying22 Tryz.underlying5 Tryz.underlying9
      rw [e1, ← hE.out] at ht
      go_wp2
      go_ret
      exact ⟨rfl, hb⟩
theorem spec_l1At {b : ByteArray} {k : Nat} {w : World} (hk : k < b.size) (hz : b.size ≤ 16777216) (hlo : 48 ≤ PlainAid.bt b k) :
    Calls Tryz.prog 63 #[.string b, .int .i64 ((k : Int) + 1)] w fun e w' => e = .returned (.int .i64 (PlainAid.bt b k - 48)) ∧ w = w' := by
  have hbb := PlainAid.get_bt b
  have hn1 := PlainAid.bt_le b k
  go_in
  go_wp2
  go_ret
  exact ⟨rfl, rfl⟩
set_option maxRecDepth 100000 in
theorem spec_l1Times {a b : ByteArray} {w : World} (ha : a.size ≤ 16777216) (hz : b.size ≤ 16777216) (hf : fits a b) :
    Calls Tryz.prog 31 #[.string a, .string b] w fun e w' => e = .returned (.string (timesS a b)) ∧ w = w' := by
  have hE : Hid (timesS a b = strOfNums (timesL a b)) := Lib.hid rfl
  have HF : Hid (fits a b) := hf
  clear hf
  go_in
  go_wp2
  go_loopw [5, 6] (fun v i wr => ∃ (k : Nat) (s : ByteArray), k ≤ b.size ∧ i = .int .i64 (k + 1 : Nat) ∧ v = .string s ∧ s.size = k ∧ Hid (s = strOfNums ((timesL a b).take k)) ∧ w = wr) (fun _ i _ => b.size + 1 - (intOf i).toNat)
  case atStart => exact ⟨0, _, Nat.zero_le _, rfl, rfl, rfl, Lib.hid rfl, rfl⟩
  case round =>
    obtain ⟨k, s, hk, rfl, rfl, hsk, HS, rfl⟩ := hrel
    by_cases hlt : k < b.size
    · have hr := HF.out k hlt
      obtain ⟨q, hq⟩ : ∃ q : Nat, PlainAid.bt b k = (q : Int) + 49 := ⟨(PlainAid.bt b k - 49).toNat, by omega⟩
      have hqa : q < a.size := by omega
      have hq2 : (PlainAid.bt b k - 49).toNat = q := by omega
      have hq3 : PlainAid.bt b k - 48 = (q : Int) + 1 := by omega
      have E := Lib.hid (show (timesL a b)[k]? = some (PlainAid.bt a q) by rw [timesL_at hlt, hq2])
      have hx := one_byte hqa
      have hxs : (a.extract q (q + 1)).size = 1 := by rw [hx]; rfl
      have hsz : (s ++ a.extract q (q + 1)).size = k + 1 := by rw [ByteArray.size_append, hxs, hsk]
      have HS2 := Lib.hid (show s ++ a.extract q (q + 1) = strOfNums ((timesL a b).take (k + 1)) by rw [HS.out, hx, take_succ_some E.out, strOf_append])
      have h48 : 48 ≤ PlainAid.bt b k := by omega
      clear hx
      go_wp2_with (first | (go_at_call 63; refine (spec_l1At hlt hz h48).mono ?_; rw [hq3]; rintro e w' ⟨rfl, rfl⟩))
      go_roundw
      case rel => exact ⟨k + 1, s ++ a.extract q (q + 1), by omega, by go_num, rfl, hsz, HS2, trivial⟩
      case measure => simp [intOf]; omega
    · obtain rfl : k = b.size := by omega
      have e1 := Lib.hid (show s = timesS a b by rw [HS.out, hE.out, List.take_of_length_le (by rw [timesL_len]; exact Nat.le_refl _)])
      go_wp2
      go_ret
      rw [e1.out]
      exact ⟨rfl, rfl⟩
end Go.Proofs.YtidolgonmimicaaGreatDoor
/- The walks through rows under changes, both sides. -/
namespace Go.Proofs.YtidolgonmimicaaGreatDoor
set_option linter.unusedVariables false
set_option linter.unusedSimpArgs false
open Go.ChangeShapes Go.WideShapes Go.ChangeAt Go.RowKit Go.Deep
theorem impl_apply {a c : ByteArray} {w : World} (ha : a.size ≤ 8) (hz : c.size ≤ 16777216) (hg : isDash c = true ∨ validD c = true) :
    Calls Tryz.prog 103 #[.string a, .string c] w fun e w' => e = .returned (.string (applyR a c)) ∧ Below w.heap.size w w' := by
  have ha2 : a.size ≤ 16777216 := by omega
  have hcs : (chRow a.size c).size ≤ 16777216 := by rw [chRow_size]; omega
  have hft := chRow_fits ha c
  go_in
  go_wp2_with (first | (go_at_call 112; refine (impl_changeRow hz ha hg).mono ?_; rintro e w1 ⟨rfl, hb1⟩) | (go_at_call 41; refine (impl_times ha2 hcs hft).mono ?_; rintro e w2 ⟨rfl, hb2⟩))
  go_ret
  exact ⟨rfl, below_go hb1 hb2⟩
theorem spec_l2Apply {a c : ByteArray} {w : World} (ha : a.size ≤ 8) (hz : c.size ≤ 16777216) :
    Calls Tryz.prog 86 #[.string a, .string c] w fun e w' => e = .returned (.string (applyR a c)) ∧ Below w.heap.size w w' := by
  have ha2 : a.size ≤ 16777216 := by omega
  have hcs : (chRow a.size c).size ≤ 16777216 := by rw [chRow_size]; omega
  have hft := chRow_fits ha c
  go_in
  go_wp2_with (first | (go_at_call 102; refine (spec_l2Row hz ha).mono ?_; rintro e w1 ⟨rfl, hb1⟩) | (go_at_call 31; refine (spec_l1Times ha2 hcs hft).mono ?_; rintro e w2 ⟨rfl, rfl⟩))
  go_ret
  exact ⟨rfl, hb1⟩
set_option maxRecDepth 100000 in
theorem impl_rowsUnder {A : Option Addr} {N c : Nat} {a : ByteArray} {l : List ByteArray} {w : World} (ha : a.size ≤ 8) (hN : l.length = N) (h : Strs w A l) (hz : N ≤ 16000000) (hs : ∀ s ∈ l, s.size ≤ 16777216) (hg : ∀ s ∈ l, isDash s = true ∨ validD s = true) :
    Calls Tryz.prog 90 #[.string a, .slice A N c] w fun e w' => ∃ A' c', e = .returned (.slice A' (N + 1) c') ∧
      Owned strE 1 9 w' w.heap.size A' (N + 1) c' (rowsL a l (N + 1)) ∧ Below w.heap.size w w' := by
  subst hN
  have HS := Lib.hid hs
  have HGd := Lib.hid hg
  have h1 : Hid (Owned strE 1 9 (w.alloc (.cells #[.string a] 9)) w.heap.size (some ⟨w.heap.size, 0, none⟩) 1 1 (rowsL a l 1)) := Lib.hid ⟨strE_len, by simp [rowsL], by simpa [rowsL, rAt, strE] using World.ownsRow_lit (e := 9) (base := w.heap.size) (size := 1) w #[.string a] 1 (Nat.le_refl _) (by decide) (by simp)⟩
  clear hs hg
  go_in
  go_wp2
  go_loopw [0, 5, 12] (fun r v i wr => ∃ (k : Nat) (A' : Option Addr) (m c' : Nat), k ≤ l.length ∧ i = .int .i64 k ∧ r = .string (rAt a l k) ∧ v = .slice A' m c' ∧ m = k + 1 ∧ Owned strE 1 9 wr w.heap.size A' m c' (rowsL a l (k + 1)) ∧ Below w.heap.size w wr) (fun _ _ i _ => l.length - (intOf i).toNat)
  case atStart => exact ⟨0, _, _, _, Nat.zero_le _, rfl, rfl, rfl, rfl, h1.out, by (repeat' (first | (with_reducible exact Below.refl _ _) | (with_reducible assumption) | (with_reducible refine below_drewN ?_ _) | (with_reducible refine Below.drew ?_) | (with_reducible refine below_alloc ?_ _) | (with_reducible refine Below.alloc ?_ ?_ _) | (with_reducible refine Below.setCell ?_ ?_ _) | (with_reducible refine below_go ?_ (by with_reducible assumption)) | (with_reducible refine below_then (by with_reducible assumption) ?_ ?_) | go_size))⟩
  case round =>
    obtain ⟨k, A', m, c', hk, rfl, rfl, rfl, rfl, ho, hb⟩ := hrel
    have HO := Lib.hid ho
    have hsz := hb.size
    clear ho
    by_cases hlt : k < l.length
    · obtain ⟨b1, o1, y, rfl, hbb, hy, hcy⟩ := (h.below hb (Nat.le_refl _)).at_str hlt
      have hys := HS.out y (List.mem_of_getElem? hy)
      have hgy := HGd.out y (List.mem_of_getElem? hy)
      have hra : (rAt a l k).size ≤ 8 := by rw [rAt_size]; exact ha
      have E := Lib.hid (rAt_succ (a := a) hy)
      have HT := Lib.hid (rowsL_succ a l (k + 1))
      clear hy
      go_wp2_with (first | (go_at_call 103; refine (impl_apply hra hys hgy).mono ?_; rw [← E.out]; rintro e w1 ⟨rfl, hb1⟩; have HO1 := Lib.hid (HO.out.up hb1); have hsz1 := hb1.size) | (at_builtin; go_must ((refine wpList_append_rec Tryz.elStr rfl (.tmp 19) (.tmp 21) rfl rfl (HO1.out.alloc _) (rAt a l (k + 1)) rfl (Box.at_ _ [.string (rAt a l (k + 1))] _ ?_) (strE_one _) ?_ (by decide) ?_ ?_; (focus (first | omega | (simp only [World.size_alloc]; done) | (simp only [World.size_alloc]; omega) | (simp; done) | (simp; omega))); (focus (first | omega | (simp only [World.size_alloc]; done) | (simp only [World.size_alloc]; omega) | (simp; done) | (simp; omega))); (focus (first | omega | (simp only [World.size_alloc]; done) | (simp only [World.size_alloc]; omega) | (simp; done) | (simp; omega))); intro A2 c2 w2 ho2 hg2 hb2))))
      go_roundw
      case rel => exact ⟨k + 1, A2, k + 1 + 1, c2, by omega, by go_num, rfl, by go_num, rfl, by rw [HT.out]; exact ho2, ((hb.trans (hb1.mono hsz)).alloc (by omega) _).trans hb2⟩
      case measure => simp [intOf]; omega
    · obtain rfl : k = l.length := by omega
      go_wp2
      go_ret
      exact ⟨_, _, rfl, HO.out, hb⟩
set_option maxRecDepth 100000 in
theorem spec_l4Lead {A : Option Addr} {N c : Nat} {a : ByteArray} {l : List ByteArray} {w : World} (ha : a.size ≤ 8) (hN : l.length = N) (h : Strs w A l) (hz : N ≤ 16000000) (hs : ∀ s ∈ l, s.size ≤ 16777216) :
    Calls Tryz.prog 85 #[.slice A N c, .string a] w fun e w' => ∃ A' c', e = .returned (.tuple #[.slice A' N c', .string (rAt a l N)]) ∧
      Owned strE 1 9 w' w.heap.size A' N c' (rowsL a l N) ∧ Below w.heap.size w w' := by
  subst hN
  have HS := Lib.hid hs
  clear hs
  go_in
  go_wp2
  go_loopw [6, 7, 13] (fun v r i wr => ∃ (k : Nat) (A' : Option Addr) (m c' : Nat), k ≤ l.length ∧ i = .int .i64 k ∧ r = .string (rAt a l k) ∧ v = .slice A' m c' ∧ m = k ∧ Owned strE 1 9 wr w.heap.size A' m c' (rowsL a l k) ∧ Below w.heap.size w wr) (fun _ _ i _ => l.length - (intOf i).toNat)
  case atStart => exact ⟨0, none, 0, 0, Nat.zero_le _, rfl, rfl, rfl, rfl, Owned.nil strE_len _ _ _, Below.refl _ _⟩
  case round =>
    obtain ⟨k, A', m, c', hk, rfl, rfl, rfl, rfl, ho, hb⟩ := hrel
    have HO := Lib.hid ho
    have hsz := hb.size
    clear ho
    by_cases hlt : m < l.length
    · obtain ⟨b1, o1, y, rfl, hbb, hy, hcy⟩ := (h.below hb (Nat.le_refl _)).at_str hlt
      have hys := HS.out y (List.mem_of_getElem? hy)
      have hra : (rAt a l m).size ≤ 8 := by rw [rAt_size]; exact ha
      have E := Lib.hid (rAt_succ (a := a) hy)
      have HT := Lib.hid (rowsL_succ a l m)
      clear hy
      go_wp2_with (first | (go_at_call 86; refine (spec_l2Apply hra hys).mono ?_; rw [← E.out]; rintro e w3 ⟨rfl, hb3⟩) | (at_builtin; go_must ((refine wpList_append_rec Tryz.elStr rfl (.tmp 17) (.tmp 19) rfl rfl (HO.out.alloc _) (rAt a l m) rfl (Box.at_ _ [.string (rAt a l m)] _ ?_) (strE_one _) ?_ (by decide) ?_ ?_; (focus (first | omega | (simp only [World.size_alloc]; done) | (simp only [World.size_alloc]; omega) | (simp; done) | (simp; omega))); (focus (first | omega | (simp only [World.size_alloc]; done) | (simp only [World.size_alloc]; omega) | (simp; done) | (simp; omega))); (focus (first | omega | (simp only [World.size_alloc]; done) | (simp only [World.size_alloc]; omega) | (simp; done) | (simp; omega))); intro A2 c2 w2 ho2 hg2 hb2; have hsz2 := hb2.size))))
      go_roundw
      case rel => exact ⟨m + 1, A2, m + 1, c2, by omega, by go_num, rfl, by go_num, rfl, by rw [HT.out]; exact ho2.up hb3, below_go ((hb.alloc hsz _).trans hb2) hb3⟩
      case measure => simp [intOf]; omega
    · obtain rfl : m = l.length := by omega
      go_wp2
      go_ret2
      exact ⟨_, _, rfl, HO.out, hb⟩
end Go.Proofs.YtidolgonmimicaaGreatDoor
/- A map to bools that the call has made, used as a set of keys. -/
namespace Go.Proofs.YtidolgonmimicaaGreatDoor
set_option linter.unusedVariables false
set_option linter.unusedSimpArgs false
open Go.ChangeShapes Go.WideShapes Go.ChangeAt Go.RowKit Go.Deep
open Go.Maps (Keyed)

/-- Block b is a map of at most n entries that holds true at the keys of S and at no other. -/
def SetOf (P : Program) (w : World) (k e : TypeId) (b n : Nat) (S : List Value) : Prop :=
  ∃ D : DataW Unit, w.ownsMap P k (plainElem P e) b n D ∧ ∀ key kl, keyOf P k key = some kl → (key ∈ S → D.atKey kl (.lit (.bool false)) = .lit (.bool true)) ∧ (key ∉ S → D.atKey kl (.lit (.bool false)) = .lit (.bool false))
section
variable {P : Program} {w w' : World} {k e : TypeId} {b n : Nat} {S : List Value}
theorem SetOf.made (P : Program) (w : World) (k e : TypeId) : SetOf P (w.alloc (.map #[] 0)) k e w.heap.size 0 [] :=
  ⟨.map [], World.ownsMap_made w P k _, fun key kl _ => ⟨fun h => (by cases h), fun _ => rfl⟩⟩
theorem SetOf.lt (h : SetOf P w k e b n S) : b < w.heap.size := by
  obtain ⟨D, h1, _⟩ := h
  exact h1.lt
theorem SetOf.kept {row : Option Nat} (h : SetOf P w k e b n S) (hg : w.grownBy w' row) (hne : some b ≠ row) : SetOf P w' k e b n S := by
  obtain ⟨D, h1, h2⟩ := h
  exact ⟨D, h1.kept hg hne, h2⟩
theorem SetOf.up (h : SetOf P w k e b n S) (hb : Below w.heap.size w w') : SetOf P w' k e b n S := h.kept (grown_of_below hb) (by simp)
theorem SetOf.alloc (h : SetOf P w k e b n S) (o : Obj) : SetOf P (w.alloc o) k e b n S := h.up ((Below.refl _ _).alloc (Nat.le_refl _) o)
theorem plainElem_bool_inv (he : P.underlying e = some .bool) {v : Value} {x : Bool} {ps : List MemPlace} (h : plainElem (H := Unit) P e v = some (.lit (.bool x), ps)) : v = .bool x := by
  unfold plainElem at h
  rw [he] at h
  cases v <;> simp at h
  rw [h.1]
theorem SetOf.look {t : TypeId} (h : SetOf P w k e b n S) (K : Keyed P k) (ht : P.underlying t = some (.map k e)) (he : P.underlying e = some .bool) (hz : (zeroValue e).run P w = .ok (.bool false) w) {key : Value} {kl : Lit} (hkey : keyOf P k key = some kl) :
    (key ∈ S → (Instr.lookup t (.map (some b)) key false).run P w = .ok (.bool true) w) ∧ (key ∉ S → (Instr.lookup t (.map (some b)) key false).run P w = .ok (.bool false) w) := by
  obtain ⟨D, h1, h2⟩ := h
  obtain ⟨v, ps, hrun, hv⟩ := h1.lookup K ht hz (plainElem_bool he false) hkey
  obtain ⟨a1, a2⟩ := h2 key kl hkey
  refine ⟨fun hi => ?_, fun hi => ?_⟩
  · rw [a1 hi] at hv
    rw [hrun, plainElem_bool_inv he hv]
  · rw [a2 hi] at hv
    rw [hrun, plainElem_bool_inv he hv]
end
theorem wpList_set_add {P : Program} {ops : Array Oper} {rest : List Oper} {o : Oper} {a : Act} {Q : Exit → Act → World → Prop} {W : World} (hgd : o.guard = none) (M X V : Operand) (t : TypeId) (hop : o.op = Op.mapUpdate t M X V)
    {k e : TypeId} (K : Keyed P k) (ht : P.underlying t = some (.map k e)) (he : P.underlying e = some .bool) {b n : Nat} {S : List Value} (hm : a.eval M = .map (some b)) (h : SetOf P W k e b n S) (hn : n ≤ 16777216) {key : Value} (hx : a.eval X = key) (hv : a.eval V = .bool true)
    {kl : Lit} (hkey : keyOf P k key = some kl) (hK : ∀ w', SetOf P w' k e b (n + 1) (key :: S) → W.grownBy w' (some b) → wpList P ops Q rest (a.put o.dst undef) w') : wpList P ops Q (o :: rest) a W := by
  obtain ⟨D, h1, h2⟩ := h
  refine wpList_mapUpdate_own W hgd M X V t hop k e K ht _ b n D hm h1 (by unfold maxLen; omega) key (.bool true) kl hx hv hkey (.lit (.bool true)) [] (plainElem_bool he true) fun w' hown hg => hK w' ⟨_, hown, fun key' kl' hk' => ?_⟩ hg
  by_cases ek : kl' = kl
  · subst ek
    have e1 : key' = key := K.inj hk' hkey
    subst e1
    rw [Maps.atKey_put_same h1.isMap (K.key hkey)]
    exact ⟨fun _ => rfl, fun hne => absurd (List.mem_cons_self ..) hne⟩
  · have e1 : key' ≠ key := fun e2 => ek (by rw [e2, hkey] at hk'; injection hk' with hk'; exact hk'.symm)
    rw [Maps.atKey_put_other ek]
    obtain ⟨a1, a2⟩ := h2 key' kl' hk'
    refine ⟨fun hi => a1 ?_, fun hi => a2 (fun hc => hi (List.mem_cons_of_mem _ hc))⟩
    rcases List.mem_cons.1 hi with hi | hi
    · exact absurd hi e1
    · exact hi
end Go.Proofs.YtidolgonmimicaaGreatDoor
/- The walks through truth: no row twice, both sides' ways. -/
namespace Go.Proofs.YtidolgonmimicaaGreatDoor
set_option linter.unusedVariables false
set_option linter.unusedSimpArgs false
open Go.ChangeShapes Go.WideShapes Go.ChangeAt Go.RowKit Go.Deep
open Go.Maps (Keyed string_keyed)
open Go.WideMaps (keyOf_string_mk)
def strV (s : ByteArray) : Value := .string s
theorem strV_mem {s : ByteArray} {l : List ByteArray} : strV s ∈ l.map strV ↔ s ∈ l := by
  rw [List.mem_map]
  constructor
  · rintro ⟨x, hx, e⟩
    injection e with e
    subst e; exact hx
  · intro h; exact ⟨s, h, rfl⟩
end Go.Proofs.YtidolgonmimicaaGreatDoor
/- The walks through the reference's sort of texts, and its search for repeats. -/
namespace Go.Proofs.YtidolgonmimicaaGreatDoor
set_option linter.unusedVariables false
set_option linter.unusedSimpArgs false
open Go.ChangeShapes Go.WideShapes Go.ChangeAt Go.RowKit Go.Deep
/-- A part of a row. -/
theorem Recs.part {α : Type} {e : α → List Value} {s : Nat} {w : World} {b o : Nat} {l : List α} (h : Recs e s w (some ⟨b, o, none⟩) l) (i j : Nat) (hij : i ≤ j) (hj : j ≤ l.length) : Recs e s w (some ⟨b, o + i * s, none⟩) ((l.drop i).take (j - i)) := by
  refine ⟨h.1, by rw [flatMap_len h.1], fun hn => ?_⟩
  have hlen : ((l.drop i).take (j - i)).length = j - i := by rw [List.length_take, List.length_drop]; omega
  obtain ⟨b', o', e1, hb, hc⟩ := h.cells (by omega)
  injection e1 with e1
  injection e1 with e1 e2
  subst e1 e2
  refine ⟨b, o + i * s, rfl, hb, fun q u hu => ?_⟩
  have hq := (List.getElem?_eq_some_iff.1 hu).1
  rw [flatMap_len h.1, hlen] at hq
  have hs : 0 < s := by
    rcases Nat.eq_zero_or_pos s with h0 | h0
    · subst h0; omega
    · exact h0
  have hdm : q / s * s + q % s = q := Nat.div_add_mod' q s
  have hqs : q / s < j - i := Nat.div_lt_of_lt_mul (by rw [Nat.mul_comm]; exact hq)
  obtain ⟨x, hx⟩ := some_of_lt (l := (l.drop i).take (j - i)) (k := q / s) (by omega)
  have a1 := flatMap_at h.1 _ (q / s) x (q % s) hx (Nat.mod_lt q hs)
  rw [hdm, hu] at a1
  have hx2 : l[i + q / s]? = some x := by
    rw [List.getElem?_take, if_pos hqs, List.getElem?_drop] at hx; exact hx
  have := hc (i + q / s) x (q % s) u hx2 a1.symm
  rw [show o + i * s + q = o + (i + q / s) * s + q % s by rw [Nat.add_mul]; omega]
  exact this
theorem Owned.cap {α : Type} {e : α → List Value} {s : Nat} {E : TypeId} {w : World} {base : Nat} {A : Option Addr} {n c : Nat} {l : List α} (h : Owned e s E w base A n c l) : n ≤ c ∧ c ≤ 9223372036854775807 := by
  rcases h.2.2.2 with ⟨hv, h0⟩ | ⟨g, cap, cur, hv, _, _, hnc, hcap, _, _⟩
  · injection hv with _ _ e3
    subst e3 h0
    exact ⟨Nat.le_refl _, by omega⟩
  · injection hv with _ _ e3
    subst e3
    exact ⟨hnc, by unfold maxLen at hcap; omega⟩
theorem spec_l1OwnS {A : Option Addr} {N c : Nat} {l : List ByteArray} {w : World} (hN : l.length = N) (h : Strs w A l) (hz : N ≤ 16000000) :
    Calls Tryz.prog 51 #[.slice A N c] w fun e w' => ∃ A' c', e = .returned (.slice A' N c') ∧ Owned strE 1 9 w' w.heap.size A' N c' l ∧ Below w.heap.size w w' := by
  go_in
  go_wp2_with (first | (at_builtin; go_must ((refine wpList_append_recs Tryz.elStr strE_one rfl (.tmp 3) (.tmp 4) rfl rfl (Owned.empty (E := 9) strE_len w (Nat.le_refl _)) rfl (h.up (by (repeat' (first | (with_reducible exact Below.refl _ _) | (with_reducible assumption) | (with_reducible refine below_drewN ?_ _) | (with_reducible refine Below.drew ?_) | (with_reducible refine below_alloc ?_ _) | (with_reducible refine Below.alloc ?_ ?_ _) | (with_reducible refine Below.setCell ?_ ?_ _) | (with_reducible refine below_go ?_ (by with_reducible assumption)) | (with_reducible refine below_then (by with_reducible assumption) ?_ ?_) | go_size)))) hN ?_ (by decide) ?_ ?_; (focus (first | omega | (simp only [World.size_alloc]; done) | (simp only [World.size_alloc]; omega) | (simp; done) | (simp; omega))); (focus (first | omega | (simp only [World.size_alloc]; done) | (simp only [World.size_alloc]; omega) | (simp; done) | (simp; omega))); intro A2 c2 w2 ho2 hg2 hl2))))
  go_ret
  have hb := lit_app hg2
  rw [Nat.zero_add, List.nil_append] at ho2
  exact ⟨_, _, rfl, ho2, hb⟩
/-- Where x[1:] begins. -/
def tailOff (o s c : Nat) : Nat := if c = 1 then o else o + s
theorem Tryz.tailStrs (b o n c : Nat) (h1 : 1 ≤ n) (u : World) : (Instr.slice 23 (.slice (some ⟨b, o, none⟩) n c) (some (.int .i64 1)) none none).run Tryz.prog u = .ok (.slice (some ⟨b, tailOff o 1 c, none⟩) (n - 1) (c - 1)) u := by
  have e1 : Tryz.prog.underlying 23 = some (.slice (Tryz.prog.elem 23)) := by kernel_rfl
  have e2 : (sizeOf (Tryz.prog.elem 23)).run Tryz.prog u = .ok 1 u := by kernel_rfl
  rw [run_slice_l (P := Tryz.prog) (w := u) 23 (some ⟨b, o, none⟩) n c e1 .i64 1 (by omega) (by omega), e2]
  simp only [Result.andThen_ok, sliced, tailOff]
  by_cases hc : c = 1
  · rw [if_pos hc, if_pos (by omega)]; rfl
  · rw [if_neg hc, if_neg (by omega)]; rfl
theorem Recs.tail {α : Type} {e : α → List Value} {s : Nat} {w : World} {b o n c : Nat} {x : α} {l : List α} (h : Recs e s w (some ⟨b, o, none⟩) (x :: l)) (hn : l.length + 1 = n) (hc : n ≤ c) : Recs e s w (some ⟨b, tailOff o s c, none⟩) l := by
  by_cases h1 : c = 1
  · have : l = [] := List.eq_nil_of_length_eq_zero (by omega)
    subst this
    exact ⟨h.1, Rd.none_ _ _ _⟩
  · rw [tailOff, if_neg h1]
    have := h.part 1 (l.length + 1) (by omega) (by simp)
    rw [Nat.one_mul, List.drop_succ_cons, List.drop_zero, Nat.add_sub_cancel, List.take_of_length_le (Nat.le_refl _)] at this
    exact this
def slLen : Value → Nat
  | .slice _ n _ => n
  | _ => 0
theorem merge_left {x y : ByteArray} {a b : List ByteArray} (h : less y x = false) : List.merge (x :: a) (y :: b) leS = x :: List.merge a (y :: b) leS := by
  rw [List.cons_merge_cons_pos leS a b (by simp [leS, h])]
theorem merge_right {x y : ByteArray} {a b : List ByteArray} (h : less y x = true) : List.merge (x :: a) (y :: b) leS = y :: List.merge (x :: a) b leS := by
  rw [List.cons_merge_cons_neg leS a b (by simp [leS, h])]
end Go.Proofs.YtidolgonmimicaaGreatDoor
/- The walks through called leads and their heads, both sides. -/
namespace Go.Proofs.YtidolgonmimicaaGreatDoor
set_option linter.unusedVariables false
set_option linter.unusedSimpArgs false
open Go.ChangeShapes Go.WideShapes Go.ChangeAt Go.RowKit Go.Deep
theorem lit_app_drew {w w' : World} {o : Obj} {n c : Nat} (hg : (w.alloc o).drew.grownBy w' (Value.slice (some ⟨w.heap.size, 0, none⟩) n c).ownBlock) : Below w.heap.size w w' :=
  (((Below.refl _ _).alloc (Nat.le_refl _) _).drew).trans (grown_base hg (by simp) (fun k hk => by injection hk with hk; dsimp only at hk; omega))
theorem lit_app_drew2 {w w' : World} {o o' : Obj} {n c : Nat} (hg : ((w.alloc o).alloc o').drew.grownBy w' (Value.slice (some ⟨w.heap.size, 0, none⟩) n c).ownBlock) : Below w.heap.size w w' :=
  ((((Below.refl _ _).alloc (Nat.le_refl _) _).alloc (by simp) _).drew).trans (grown_base hg (by simp; omega) (fun k hk => by injection hk with hk; dsimp only at hk; omega))
theorem lit_app_drew3 {w w' : World} {o o' : Obj} {n c : Nat} (hg : ((w.alloc o).alloc o').drew.grownBy w' (Value.slice (some ⟨w.heap.size + 1, 0, none⟩) n c).ownBlock) : Below w.heap.size w w' :=
  ((((Below.refl _ _).alloc (Nat.le_refl _) _).alloc (by simp) _).drew).trans (grown_base hg (by simp; omega) (fun k hk => by injection hk with hk; dsimp only at hk; omega))
theorem impl_withChanges {A : Option Addr} {n c : Nat} {nm : ByteArray} {st : Int} {w : World} {B : Option Addr} {m d : Nat} :
    Calls Tryz.prog 91 #[.agg #[.string nm, .int .i64 st, .slice A n c], .slice B m d] w fun e w' => e = .returned (.agg #[.string nm, .int .i64 st, .slice B m d]) ∧ Below w.heap.size w w' := by
  go_in
  go_wp2
  refine bodyPost_ret (v := .agg #[.string nm, .int .i64 st, .slice B m d]) (by simp [results, Tryz.results91, go_sem]) rfl ?_
  exact ⟨rfl, by (repeat' (first | (with_reducible exact Below.refl _ _) | (with_reducible assumption) | (with_reducible refine below_drewN ?_ _) | (with_reducible refine Below.drew ?_) | (with_reducible refine below_alloc ?_ _) | (with_reducible refine Below.alloc ?_ ?_ _) | (with_reducible refine Below.setCell ?_ ?_ _) | (with_reducible refine below_go ?_ (by with_reducible assumption)) | (with_reducible refine below_then (by with_reducible assumption) ?_ ?_) | go_size))⟩
theorem Owned.ne_blk {α : Type} {e : α → List Value} {s : Nat} {E : TypeId} {w : World} {base : Nat} {A : Option Addr} {n c : Nat} {l : List α} {p : Nat} {t : TypeId} {cs : List Value} (h : Owned e s E w base A n c l) (k : Blk w p t cs) (hE : E ≠ t) : ∀ q, (Value.slice A n c).ownBlock = some q → q ≠ p := by
  intro q hq e2
  rcases h.2.2.2 with ⟨hv, _⟩ | ⟨g, cap, cur, hv, _, hh, _⟩
  · rw [hv] at hq; cases hq
  · rw [hv] at hq
    injection hq with hq
    dsimp only at hq
    subst hq; subst e2
    unfold Blk at k
    rw [hh] at k
    injection k with k
    injection k with _ e3 _
    exact hE e3
theorem lead_fin {w0 w3 : World} {p base : Nat} {A2 : Option Addr} {n c2 : Nat} {l : List ByteArray} {nm : ByteArray} {st : Int} (KZ : Blk w3 p 25 [.string { data := #[] }, .int .i64 0, .slice none 0 0]) (ho : Owned strE 1 9 w3 base A2 n c2 l) (C3 : Below w0.heap.size w0 w3) (hp : w0.heap.size ≤ p) :
    Blk (((w3.setCell ⟨p, 0, none⟩ (.string nm)).setCell ⟨p, 1, none⟩ (.int .i64 st)).setCell ⟨p, 2, none⟩ (.slice A2 n c2)) p 25 [.string nm, .int .i64 st, .slice A2 n c2] ∧
      Owned strE 1 9 (((w3.setCell ⟨p, 0, none⟩ (.string nm)).setCell ⟨p, 1, none⟩ (.int .i64 st)).setCell ⟨p, 2, none⟩ (.slice A2 n c2)) base A2 n c2 l ∧
      Below w0.heap.size w0 (((w3.setCell ⟨p, 0, none⟩ (.string nm)).setCell ⟨p, 1, none⟩ (.int .i64 st)).setCell ⟨p, 2, none⟩ (.slice A2 n c2)) := by
  have hne := ho.ne_blk KZ (by decide)
  have g : w3.grownBy (((w3.setCell ⟨p, 0, none⟩ (.string nm)).setCell ⟨p, 1, none⟩ (.int .i64 st)).setCell ⟨p, 2, none⟩ (.slice A2 n c2)) (some p) :=
    grownBy_trans (grownBy_trans (only_set w3 (p := ⟨p, 0, none⟩) _) (only_set _ (p := ⟨p, 1, none⟩) _)) (only_set _ (p := ⟨p, 2, none⟩) _)
  exact ⟨((KZ.set_ 0 _).set_ 1 _).set_ 2 _, ho.kept g (fun k hk e => hne k hk (by injection e with e; exact e.symm)), ((C3.setCell (p := ⟨p, 0, none⟩) hp _).setCell (p := ⟨p, 1, none⟩) hp _).setCell (p := ⟨p, 2, none⟩) hp _⟩
set_option maxHeartbeats 1000000 in
set_option maxRecDepth 100000 in
theorem impl_calledLead {A : Option Addr} {n c : Nat} {nm : ByteArray} {st : Int} {l : List ByteArray} {kb ks : ByteArray} {s : ByteArray} {w : World} (hn : l.length = n) (h : Strs w A l) (hz : n ≤ 1048576) (hs : ∀ s ∈ l, s.size ≤ 16777216) (hnm : nm.size ≤ 16777216) (hst : I64 st) (h0 : 0 < n) :
    Calls Tryz.prog 67 #[.agg #[.string nm, .int .i64 st, .slice A n c], .agg #[.string kb, .string ks], .string s] w fun e w' => ∃ A' c', e = .returned (.agg #[.string nm, .int .i64 st, .slice A' n c']) ∧ Owned strE 1 9 w' w.heap.size A' n c' (l.set (n - 1) (chOf l kb ks s)) ∧ Below w.heap.size w w' := by
  obtain ⟨m, rfl⟩ : ∃ m, n = m + 1 := ⟨n - 1, by omega⟩
  have HN := Lib.hid hn
  clear hn
  have b0 : Below w.heap.size w (((w.alloc (.cells ⟨[.string nm, .int .i64 st, .slice A (m + 1) c]⟩ 25)).alloc (.cells ⟨[.string kb, .string ks]⟩ 27)).alloc (.cells ⟨[.string { data := #[] }, .int .i64 0, .slice none 0 0]⟩ 25)) := by (repeat' (first | (with_reducible exact Below.refl _ _) | (with_reducible assumption) | (with_reducible refine below_drewN ?_ _) | (with_reducible refine Below.drew ?_) | (with_reducible refine below_alloc ?_ _) | (with_reducible refine Below.alloc ?_ ?_ _) | (with_reducible refine Below.setCell ?_ ?_ _) | (with_reducible refine below_go ?_ (by with_reducible assumption)) | (with_reducible refine below_then (by with_reducible assumption) ?_ ?_) | go_size))
  have K0 := ((Blk.at_ w 25 [.string nm, .int .i64 st, .slice A (m + 1) c] (b := w.heap.size) rfl).alloc (.cells ⟨[.string kb, .string ks]⟩ 27)).alloc (.cells ⟨[.string { data := #[] }, .int .i64 0, .slice none 0 0]⟩ 25)
  have K1 := (Blk.at_ (w.alloc (.cells ⟨[.string nm, .int .i64 st, .slice A (m + 1) c]⟩ 25)) 27 [.string kb, .string ks] (b := w.heap.size + 1) (by simp)).alloc (.cells ⟨[.string { data := #[] }, .int .i64 0, .slice none 0 0]⟩ 25)
  have K2 := Blk.at_ ((w.alloc (.cells ⟨[.string nm, .int .i64 st, .slice A (m + 1) c]⟩ 25)).alloc (.cells ⟨[.string kb, .string ks]⟩ 27)) 25 [.string { data := #[] }, .int .i64 0, .slice none 0 0] (b := w.heap.size + 1 + 1) (by simp)
  go_in
  go_upto_region 1 with fail
  obtain ⟨w0, hw0⟩ : ∃ u, u = (((w.alloc (.cells #[.string nm, .int .i64 st, .slice A (m + 1) c] 25)).alloc (.cells #[.string kb, .string ks] 27)).alloc (.cells #[.string { data := #[] }, .int .i64 0, .slice none 0 0] 25)) := ⟨_, rfl⟩
  have sz0 : w0.heap.size = w.heap.size + 1 + 1 + 1 := by rw [hw0]; simp
  have sz0' : w0.heap.size ≤ w.heap.size + 3 := by omega
  have sz0'' : w.heap.size + 3 ≤ w0.heap.size := by omega
  rw [← hw0] at b0 K0 K1 K2 ⊢
  clear hw0 sz0
  have carry : Hid (∀ u : World, Below w0.heap.size w0 u → u.cell? ⟨w.heap.size, 0, none⟩ = some (.string nm) ∧ u.cell? ⟨w.heap.size, 1, none⟩ = some (.int .i64 st) ∧ u.cell? ⟨w.heap.size, 2, none⟩ = some (.slice A (m + 1) c)) := Lib.hid (fun u hu => by
    have L0 := K0.up hu
    exact ⟨by simpa using L0.cell 0, by simpa using L0.cell 1, by simpa using L0.cell 2⟩)
  have hr := Lib.hid (h.up b0)
  have HOV : Hid (Owned strE 1 9 ((w0.alloc (.cells #[.string { data := #[] }, .int .i64 0, .slice none 0 0] 25)).alloc (.cells #[] 9)) w0.heap.size (some ⟨w0.heap.size + 1, 0, none⟩) 0 0 ([] : List ByteArray)) := Lib.hid (by have q := Owned.empty (E := 9) strE_len (w0.alloc (.cells #[.string { data := #[] }, .int .i64 0, .slice none 0 0] 25)) (base := w0.heap.size) (by simp); simpa using q)
  go_cut [7] (fun s7 wx => ∃ (p : Nat) (A2 : Option Addr) (c2 : Nat), s7 = .pointer (some ⟨p, 0, none⟩) ∧ w0.heap.size ≤ p ∧ Blk wx p 25 [.string nm, .int .i64 st, .slice A2 (m + 1) c2] ∧ Owned strE 1 9 wx w0.heap.size A2 (m + 1) c2 l ∧ Below w0.heap.size w0 wx)
  case first =>
    go_region_held3 (fun u => u.cell? ⟨w.heap.size, 0, none⟩ = some (.string nm) ∧ u.cell? ⟨w.heap.size, 1, none⟩ = some (.int .i64 st) ∧ u.cell? ⟨w.heap.size, 2, none⟩ = some (.slice A (m + 1) c)) (first | exact carry.out _ C3 | exact carry.out _ (C3.alloc C3.size _) | exact carry.out _ (((C3.setCell (p := ⟨w2.heap.size, 0, none⟩) C2.size _).setCell (p := ⟨w2.heap.size, 1, none⟩) C2.size _).setCell (p := ⟨w2.heap.size, 2, none⟩) C2.size _) | exact carry.out _ (((C3.setCell (p := ⟨w0.heap.size + 1, 0, none⟩) (Nat.le_succ _) _).setCell (p := ⟨w0.heap.size + 1, 1, none⟩) (Nat.le_succ _) _).setCell (p := ⟨w0.heap.size + 1, 2, none⟩) (Nat.le_succ _) _) | exact carry.out _ (((C3.setCell (p := ⟨w0.heap.size, 0, none⟩) (Nat.le_refl _) _).setCell (p := ⟨w0.heap.size, 1, none⟩) (Nat.le_refl _) _).setCell (p := ⟨w0.heap.size, 2, none⟩) (Nat.le_refl _) _) | exact carry.out _ ((((Below.refl _ _).alloc (Nat.le_refl _) _).alloc (by simp) _).drew) | exact carry.out _ C2 | exact carry.out _ (C2.alloc C2.size _) | exact carry.out _ (((Below.refl _ _).alloc (Nat.le_refl _) _).drew) | exact carry.out _ (Below.refl _ _).drew) (first | (go_at_call 91; refine impl_withChanges.mono ?_; rintro e w3 ⟨rfl, hb3⟩; have KZ := KZ2.up hb3; have C3 := C2.trans (hb3.mono C2.size); have z0 := KZ.cell 0; have z1 := KZ.cell 1; have z2 := KZ.cell 2; simp only [List.getElem?_cons_zero, List.getElem?_cons_succ] at z0 z1 z2; have f0 := KZ.frozen 0; have f1 := KZ.frozen 1; have f2 := KZ.frozen 2) | (go_at_call 91; refine impl_withChanges.mono ?_; rintro e w3 ⟨rfl, hb3⟩; have C3 := C2.trans (hb3.mono C2.size)) | (go_at_call 91; refine impl_withChanges.mono ?_; rintro e w3 ⟨rfl, hb3⟩; have C3 := (C2.alloc C2.size _).trans (hb3.mono (by simp; have := C2.size; omega)); have KZ := (Blk.at_ w2 25 [.string { data := #[] }, .int .i64 0, .slice none 0 0] (b := w2.heap.size) rfl).up hb3; have z0 := KZ.cell 0; have z1 := KZ.cell 1; have z2 := KZ.cell 2; simp only [List.getElem?_cons_zero, List.getElem?_cons_succ] at z0 z1 z2; have f0 := KZ.frozen 0; have f1 := KZ.frozen 1; have f2 := KZ.frozen 2) | (refine step_append_recs Tryz.elStr strE_one rfl (.tmp 10) (.tmp 12) rfl (by rfl) (Owned.empty (E := 9) strE_len w0 (Nat.le_refl _)).drew (by rfl) ((hr.out.alloc _).drew) HN.out ?_ (by decide) ?_ ?_; (focus (first | omega | (simp only [World.size_alloc]; done) | (simp only [World.size_alloc]; omega) | (simp; done) | (simp; omega))); (focus (first | omega | (simp only [World.size_alloc]; done) | (simp only [World.size_alloc]; omega) | (simp; done) | (simp; omega))); intro A2 c2 w2 ho2 hg2 hl2; have ho2' : Owned strE 1 9 w2 w0.heap.size A2 (m + 1) c2 l := (by simpa using ho2); have C2 := lit_app_drew hg2) | (refine step_append_recs Tryz.elStr strE_one rfl (.tmp 10) (.tmp 12) rfl (by rfl) ((Owned.empty (E := 9) strE_len w0 (Nat.le_refl _)).alloc (.cells #[.string { data := #[] }, .int .i64 0, .slice none 0 0] 25)).drew (by rfl) (((hr.out.alloc _).alloc _).drew) HN.out ?_ (by decide) ?_ ?_; (focus (first | omega | (simp only [World.size_alloc]; done) | (simp only [World.size_alloc]; omega) | (simp; done) | (simp; omega))); (focus (first | omega | (simp only [World.size_alloc]; done) | (simp only [World.size_alloc]; omega) | (simp; done) | (simp; omega))); intro A2 c2 w2 ho2 hg2 hl2; have ho2' : Owned strE 1 9 w2 w0.heap.size A2 (m + 1) c2 l := (by simpa using ho2); have C2 := lit_app_drew2 hg2; have KZ2 := ((Blk.at_ (w0.alloc (.cells #[] 9)) 25 [.string { data := #[] }, .int .i64 0, .slice none 0 0] (b := w0.heap.size + 1) (by simp)).drewN 1).grown hg2 (fun e => by injection e with e; dsimp only at e; omega)) | (refine step_append_recs Tryz.elStr strE_one rfl (.tmp 10) (.tmp 12) rfl (by rfl) (HOV.out).drew (by rfl) (((hr.out.alloc _).alloc _).drew) HN.out ?_ (by decide) ?_ ?_; (focus (first | omega | (simp only [World.size_alloc]; done) | (simp only [World.size_alloc]; omega) | (simp; done) | (simp; omega))); (focus (first | omega | (simp only [World.size_alloc]; done) | (simp only [World.size_alloc]; omega) | (simp; done) | (simp; omega))); intro A2 c2 w2 ho2 hg2 hl2; have ho2' : Owned strE 1 9 w2 w0.heap.size A2 (m + 1) c2 l := (by simpa using ho2); have C2 := lit_app_drew3 hg2; have KZ2 := (((Blk.at_ w0 25 [.string { data := #[] }, .int .i64 0, .slice none 0 0] (b := w0.heap.size) rfl).alloc (.cells #[] 9)).drewN 1).grown hg2 (fun e => by injection e with e; dsimp only at e; omega)))
    all_goals
      go_wp2_with fail
      go_meet
      refine ⟨_, A2, c2, rfl, ?_⟩
      first
        | with_reducible exact ⟨C2.size, lead_fin KZ ((ho2'.alloc _).up hb3) C3 C2.size⟩
        | with_reducible exact ⟨Nat.le_refl _, lead_fin KZ (ho2'.up hb3) C3 (Nat.le_refl _)⟩
        | with_reducible exact ⟨Nat.le_succ _, lead_fin KZ (ho2'.up hb3) C3 (Nat.le_succ _)⟩
        | with_reducible exact ⟨C3.size, Blk.at_ w3 25 [.string nm, .int .i64 st, .slice A2 (m + 1) c2] rfl, (ho2'.up hb3).alloc _, C3.alloc C3.size _⟩
  case rest =>
    obtain ⟨p, A2, c2, rfl, hp, K4, ho4, B4⟩ := hcut
    rename World => w4
    have L1 := K1.up B4; have L2 := K2.up B4
    have k0 := K4.cell 0; have k1 := K4.cell 1; have k2 := K4.cell 2
    have q0 := L1.cell 0; have q1 := L1.cell 1
    have r0 := L2.cell 0; have r1 := L2.cell 1; have r2 := L2.cell 2
    have t0 := L2.frozen 0; have t1 := L2.frozen 1; have t2 := L2.frozen 2
    simp only [List.getElem?_cons_zero, List.getElem?_cons_succ] at k0 k1 k2 q0 q1 r0 r1 r2
    obtain ⟨g, rfl, g0, g1, gc, gf⟩ := ho4.at_ h0
    obtain ⟨y, hy⟩ := some_of_lt (l := l) (k := m) (by rw [HN.out]; omega)
    have cy := gc m y 0 _ hy rfl
    have fy := gf m
    simp only [Nat.mul_one, Nat.add_zero] at cy
    have HY := Lib.hid hy
    clear gc gf hy
    have FO : Hid (∀ (u : World) (l' : List ByteArray) (a b d : Value), w4.heap.size ≤ u.heap.size → Owned strE 1 9 u w0.heap.size (some ⟨g, 0, none⟩) (m + 1) c2 l' → Below w.heap.size w u → Owned strE 1 9 (((u.setCell ⟨w.heap.size + 1 + 1, 0, none⟩ a).setCell ⟨w.heap.size + 1 + 1, 1, none⟩ b).setCell ⟨w.heap.size + 1 + 1, 2, none⟩ d) w.heap.size (some ⟨g, 0, none⟩) (m + 1) c2 l' ∧ Below w.heap.size w (((u.setCell ⟨w.heap.size + 1 + 1, 0, none⟩ a).setCell ⟨w.heap.size + 1 + 1, 1, none⟩ b).setCell ⟨w.heap.size + 1 + 1, 2, none⟩ d)) := Lib.hid (by
      intro u l' a b d hu ho hb
      have gg : u.grownBy (((u.setCell ⟨w.heap.size + 1 + 1, 0, none⟩ a).setCell ⟨w.heap.size + 1 + 1, 1, none⟩ b).setCell ⟨w.heap.size + 1 + 1, 2, none⟩ d) (some (w.heap.size + 1 + 1)) :=
        grownBy_trans (grownBy_trans (only_set u (p := ⟨w.heap.size + 1 + 1, 0, none⟩) _) (only_set _ (p := ⟨w.heap.size + 1 + 1, 1, none⟩) _)) (only_set _ (p := ⟨w.heap.size + 1 + 1, 2, none⟩) _)
      exact ⟨(ho.past gg (by omega)).base_le (by omega), hb.grown gg hb.size (fun k hk => by injection hk with hk; omega)⟩)
    have hBB := b0.trans (B4.mono b0.size)
    have hpg : ¬ p = g := fun e => ho4.ne_blk K4 (by decide) g rfl e.symm
    have hgp : ¬ g = p := fun e => hpg e.symm
    have PT := Lib.hid (fun (x : ByteArray) => ho4.put (j := 0) (x := x) (u := .string x) HY.out (by decide) rfl)
    rcases hB : isB s
    · rcases hS : isS s
      · have g2 : (s.toList == [98]) = false := hB
        have g3 : (s.toList == [115]) = false := hS
        have e1 := Lib.hid (show l.set m (chOf l kb ks s) = l by
          rw [chOf, hB, hS, if_neg (by simp), if_neg (by simp)]
          have h1 : lastC l = y := by rw [lastC, HN.out, Nat.add_sub_cancel, List.getD, HY.out]; rfl
          apply List.ext_getElem?
          intro q
          by_cases hq : q = m
          · subst hq; rw [List.getElem?_set_self (by rw [HN.out]; omega), h1, HY.out]
          · rw [List.getElem?_set_ne (fun e => hq e.symm)])
        clear hB hS
        go_wp2
        refine bodyPost_ret (v := .agg #[.string nm, .int .i64 st, .slice (some ⟨g, 0, none⟩) (m + 1) c2]) (by simp [results, Tryz.results67, go_sem, World.cell?_setCell_same, r0, r1, r2]) rfl ?_
        rw [Nat.add_sub_cancel, e1.out]
        exact ⟨_, _, rfl, FO.out _ _ _ _ _ (Nat.le_refl _) ho4 hBB⟩
      · have g2 : (s.toList == [98]) = false := hB
        have g3 : (s.toList == [115]) = true := hS
        have e1 := Lib.hid (show l.set m (chOf l kb ks s) = l.set m ks by rw [chOf, hB, hS, if_neg (by simp), if_pos rfl])
        have pt := PT.out ks
        simp only [Nat.mul_one, Nat.add_zero] at pt
        have PO := Lib.hid pt.1
        have PG := Lib.hid pt.2
        clear hB hS pt
        go_wp2
        refine bodyPost_ret (v := .agg #[.string nm, .int .i64 st, .slice (some ⟨g, 0, none⟩) (m + 1) c2]) (by simp [results, Tryz.results67, go_sem, World.cell?_setCell_same, r0, r1, r2]) rfl ?_
        rw [Nat.add_sub_cancel, e1.out]
        exact ⟨_, _, rfl, FO.out _ _ _ _ _ PG.out.size PO.out (hBB.grown PG.out hBB.size (fun k hk => by injection hk with hk; omega))⟩
    · have g2 : (s.toList == [98]) = true := hB
      have e1 := Lib.hid (show l.set m (chOf l kb ks s) = l.set m kb by rw [chOf, hB, if_pos rfl])
      have pt := PT.out kb
      simp only [Nat.mul_one, Nat.add_zero] at pt
      have PO := Lib.hid pt.1
      have PG := Lib.hid pt.2
      clear hB pt
      go_wp2
      refine bodyPost_ret (v := .agg #[.string nm, .int .i64 st, .slice (some ⟨g, 0, none⟩) (m + 1) c2]) (by simp [results, Tryz.results67, go_sem, World.cell?_setCell_same, r0, r1, r2]) rfl ?_
      rw [Nat.add_sub_cancel, e1.out]
      exact ⟨_, _, rfl, FO.out _ _ _ _ _ PG.out.size PO.out (hBB.grown PG.out hBB.size (fun k hk => by injection hk with hk; omega))⟩
end Go.Proofs.YtidolgonmimicaaGreatDoor
/- The walks through lead heads of calls, both sides. -/
namespace Go.Proofs.YtidolgonmimicaaGreatDoor
set_option linter.unusedVariables false
set_option linter.unusedSimpArgs false
open Go.ChangeShapes Go.WideShapes Go.ChangeAt Go.RowKit Go.Deep
theorem turnC {P : Program} {f : FuncId} {args : Array Value} {w : World} {v : Value} (h : Calls P f args w fun e w' => e = .returned v ∧ w = w') : Calls P f args w fun e w' => e = .returned v ∧ w' = w :=
  h.mono fun _ _ ⟨he, hw⟩ => ⟨he, hw.symm⟩
set_option maxRecDepth 100000 in
set_option maxHeartbeats 1000000 in
theorem impl_leadHead {A : Option Addr} {n c st : Nat} {nm : ByteArray} {l : List ByteArray} {w : World} (hn : l.length = n) (h : Strs w A l) (hz : n ≤ 1048576) (hs : ∀ s ∈ l, s.size ≤ 16777216) (h8 : st ≤ 8) (hg : ∀ s ∈ l, isDash s = true ∨ validD s = true) :
    Calls Tryz.prog 66 #[.agg #[.string nm, .int .i64 st, .slice A n c]] w fun e w' => e = .returned (.string (rAt (roundsS st) l n)) ∧ Below w.heap.size w w' := by
  have b0 : Below w.heap.size w (w.alloc (.cells ⟨[.string nm, .int .i64 st, .slice A n c]⟩ 25)) := by (repeat' (first | (with_reducible exact Below.refl _ _) | (with_reducible assumption) | (with_reducible refine below_drewN ?_ _) | (with_reducible refine Below.drew ?_) | (with_reducible refine below_alloc ?_ _) | (with_reducible refine Below.alloc ?_ ?_ _) | (with_reducible refine Below.setCell ?_ ?_ _) | (with_reducible refine below_go ?_ (by with_reducible assumption)) | (with_reducible refine below_then (by with_reducible assumption) ?_ ?_) | go_size))
  have hr8 : (roundsS st).size ≤ 8 := by rw [rounds_size st (by omega)]; exact h8
  have HG := Lib.hid hg
  have HS := Lib.hid hs
  clear hg hs
  have K0 := Blk.at_ w 25 [.string nm, .int .i64 st, .slice A n c] (b := w.heap.size) rfl
  go_in
  go_wp2
  obtain ⟨w0, hw0⟩ : ∃ u, u = (w.alloc (.cells #[.string nm, .int .i64 st, .slice A n c] 25)) := ⟨_, rfl⟩
  rw [← hw0] at b0 K0 ⊢
  clear hw0
  have k1 := K0.cell 1; have k2 := K0.cell 2
  simp only [List.getElem?_cons_zero, List.getElem?_cons_succ] at k1 k2
  refine wp_region_still_tail 5 (by kernel_rfl) (by kernel_rfl) ?_
  simp only [List.take_succ_cons, List.take_zero, List.drop_succ_cons, List.drop_zero]
  repeat still_step
  still_call (turnC (impl_rounds h8))
  repeat still_step
  refine wpStill_nil ?_
  change wpList _ _ _ _ _ w0.drew
  go_wp2_with fail
  refine (impl_rowsUnder hr8 hn (h.up b0).drew (by omega) HS.out HG.out).mono ?_; rintro e w1 ⟨A1, c1, rfl, ho, hbd⟩
  have hb1 := below_of_drew hbd
  obtain ⟨g, rfl, _, _, gc, _⟩ := ho.at_ (by omega)
  have hrow : (rowsL (roundsS st) l (n + 1))[n]? = some (rAt (roundsS st) l n) := by rw [rowsL, List.getElem?_map, List.getElem?_range (by omega)]; rfl
  have cg := gc n _ 0 _ hrow rfl
  simp only [Nat.mul_one, Nat.add_zero] at cg
  clear gc hrow
  go_wp2
  go_ret
  exact ⟨rfl, below_go b0 hb1⟩
theorem goodK_all {nm : ByteArray} {st : Nat} {l : List ByteArray} {kb ks : ByteArray} (h : goodK nm (st : Int) l kb ks = true) :
    (3 ≤ st ∧ st ≤ 8) ∧ (1 ≤ l.length ∧ l.length ≤ 40) ∧ (∀ c ∈ l, goodChange st c = true) ∧ goodChange st kb = true ∧ goodChange st ks = true := by
  obtain ⟨h1, h2, h3⟩ := goodK_t h
  obtain ⟨_, h5, h6, h7⟩ := goodM_t h1
  exact ⟨by omega, h6, allCh_mem h7, h2, h3⟩
theorem chOf_good {nm : ByteArray} {st : Nat} {l : List ByteArray} {kb ks : ByteArray} (h : goodK nm (st : Int) l kb ks = true) (s : ByteArray) : goodChange st (chOf l kb ks s) = true := by
  obtain ⟨_, h2, h3, h4, h5⟩ := goodK_all h
  rw [chOf]
  split
  · exact h4
  · split
    · exact h5
    · exact h3 _ (List.mem_of_getElem? (lastC_at (by omega)))
theorem set_good {nm : ByteArray} {st : Nat} {l : List ByteArray} {kb ks : ByteArray} (h : goodK nm (st : Int) l kb ks = true) (s : ByteArray) (k : Nat) : ∀ c ∈ l.set k (chOf l kb ks s), goodChange st c = true := by
  intro c hc
  rcases List.mem_or_eq_of_mem_set hc with hc | rfl
  · exact (goodK_all h).2.2.1 c hc
  · exact chOf_good h s
set_option maxHeartbeats 1000000 in
theorem impl_callHead {A : Option Addr} {n c st : Nat} {nm : ByteArray} {l : List ByteArray} {kb ks : ByteArray} {s : ByteArray} {w : World} (hn : l.length = n) (h : Strs w A l) (hk : goodK nm (st : Int) l kb ks = true) :
    Calls Tryz.prog 42 #[.agg #[.string nm, .int .i64 st, .slice A n c], .agg #[.string kb, .string ks], .string s] w fun e w' => e = .returned (.string (callHd st l kb ks s)) ∧ Below w.heap.size w w' := by
  obtain ⟨h8, h40, hgl, hgb, hgs⟩ := goodK_all hk
  have b0 : Below w.heap.size w ((w.alloc (.cells ⟨[.string nm, .int .i64 st, .slice A n c]⟩ 25)).alloc (.cells ⟨[.string kb, .string ks]⟩ 27)) := by (repeat' (first | (with_reducible exact Below.refl _ _) | (with_reducible assumption) | (with_reducible refine below_drewN ?_ _) | (with_reducible refine Below.drew ?_) | (with_reducible refine below_alloc ?_ _) | (with_reducible refine Below.alloc ?_ ?_ _) | (with_reducible refine Below.setCell ?_ ?_ _) | (with_reducible refine below_go ?_ (by with_reducible assumption)) | (with_reducible refine below_then (by with_reducible assumption) ?_ ?_) | go_size))
  have e1 := Lib.hid (show rAt (roundsS st) (l.set (n - 1) (chOf l kb ks s)) n = callHd st l kb ks s by
    subst hn
    exact headX_set (by omega))
  have SG := Lib.hid (set_good hk s (n - 1))
  have HS := Lib.hid (fun (s' : ByteArray) (hs' : s' ∈ l) => show s'.size ≤ 16777216 from by have := goodChange_small (hgl s' hs'); omega)
  have sk1 := goodChange_small hgb
  have sk2 := goodChange_small hgs
  have hn40 : n ≤ 40 := by omega
  have hn1 : 0 < n := by omega
  have hI : I64 (st : Int) := by unfold I64; omega
  have hnm : nm.size ≤ 16777216 := by
    have h1 := (goodM_t (goodK_t hk).1).1
    rw [nameOk, Bool.and_eq_true] at h1
    have := inB_t h1.2
    omega
  clear hgl hgb hgs h40
  go_in
  go_wp2_with fail
  refine (impl_calledLead hn (h.up b0) (by omega) HS.out hnm hI hn1).mono ?_; rintro e w1 ⟨A1, c1, rfl, ho, hb1⟩
  go_wp2_with fail
  refine (impl_leadHead ho.len ho.recs (by omega) (fun x hx => by have := goodChange_small (SG.out x hx); omega) h8.2 (fun x hx => good_valid (SG.out x hx))).mono ?_; rw [e1.out]; rintro e w2 ⟨rfl, hb2⟩
  go_wp2
  go_ret
  exact ⟨rfl, below_go (below_go b0 hb1) hb2⟩
theorem own_lit3 (w : World) (E : TypeId) (x y z : ByteArray) {base : Nat} (hb : base ≤ w.heap.size) : Owned strE 1 E (w.alloc (.cells #[.string x, .string y, .string z] E)) base (some ⟨w.heap.size, 0, none⟩) 3 3 [x, y, z] :=
  ⟨strE_len, rfl, by simpa [strE] using World.ownsRow_lit (e := E) (base := base) (size := 1) w #[.string x, .string y, .string z] 3 hb (by unfold maxLen; omega) (by simp)⟩
/-- The three heads. -/
def hds3 (st : Nat) (l : List ByteArray) (kb ks : ByteArray) : List ByteArray := [callHd st l kb ks ⟨#[112]⟩, callHd st l kb ks ⟨#[98]⟩, callHd st l kb ks ⟨#[115]⟩]
theorem callHd_good {nm : ByteArray} {st : Nat} {l : List ByteArray} {kb ks : ByteArray} (h : goodK nm (st : Int) l kb ks = true) (s : ByteArray) : goodRow (callHd st l kb ks s) = true ∧ (callHd st l kb ks s).size = st := by
  obtain ⟨h8, _⟩ := goodK_all h
  exact ⟨headX_good h8.1 h8.2 _ _, headX_size (by omega) _ _⟩
theorem hds3_good {nm : ByteArray} {st : Nat} {l : List ByteArray} {kb ks : ByteArray} (h : goodK nm (st : Int) l kb ks = true) : goodRows (hds3 st l kb ks) = true := by
  have a := callHd_good h ⟨#[112]⟩; have b := callHd_good h ⟨#[98]⟩; have c := callHd_good h ⟨#[115]⟩
  rw [goodRows, Bool.and_eq_true, List.all_eq_true]
  refine ⟨fun k hk => ?_, by simp [hds3]⟩
  have hk := List.mem_range.1 hk
  have h0 : (hds3 st l kb ks)[0]? = some (callHd st l kb ks ⟨#[112]⟩) := rfl
  match k, hk with
  | 0, _ => rw [okRow_at h0 h0, a.1]; simp
  | 1, _ => rw [okRow_at h0 (show (hds3 st l kb ks)[1]? = some (callHd st l kb ks ⟨#[98]⟩) from rfl), b.1, a.2, b.2]; simp
  | 2, _ => rw [okRow_at h0 (show (hds3 st l kb ks)[2]? = some (callHd st l kb ks ⟨#[115]⟩) from rfl), c.1, a.2, c.2]; simp
  | k + 3, hk => simp [hds3] at hk; omega
/-- The signs of the lead heads. -/
def lsOk (nm : ByteArray) (st : Int) (l : List ByteArray) (kb ks : ByteArray) : Bool := goodK nm st l kb ks
def lsR (nm : ByteArray) (st : Int) (l : List ByteArray) (kb ks : ByteArray) : List Bool := if goodK nm st l kb ks = true then (hds3 st.toNat l kb ks).map evenRow else []
theorem lsR_f {nm : ByteArray} {st : Int} {l : List ByteArray} {kb ks : ByteArray} (h : goodK nm st l kb ks = false) : lsR nm st l kb ks = [] := by rw [lsR, if_neg (by rw [h]; simp)]
theorem lsR_t {nm : ByteArray} {st : Nat} {l : List ByteArray} {kb ks : ByteArray} (h : goodK nm (st : Int) l kb ks = true) : lsR nm st l kb ks = (hds3 st l kb ks).map evenRow := by rw [lsR, if_pos h]; rfl
theorem lsR_len (nm : ByteArray) (st : Int) (l : List ByteArray) (kb ks : ByteArray) : (lsR nm st l kb ks).length ≤ 3 := by
  rw [lsR]; split <;> simp [hds3]
end Go.Proofs.YtidolgonmimicaaGreatDoor
/- The walks through lead heads of calls and their signs, the reference's side. -/
namespace Go.Proofs.YtidolgonmimicaaGreatDoor
set_option linter.unusedVariables false
set_option linter.unusedSimpArgs false
open Go.ChangeShapes Go.WideShapes Go.ChangeAt Go.RowKit Go.Deep
set_option maxHeartbeats 1000000 in
theorem spec_l8Change {A : Option Addr} {n c : Nat} {st : Int} {nm : ByteArray} {l : List ByteArray} {kb ks s : ByteArray} {w : World} (hn : l.length = n) (h : Strs w A l) (h0 : 0 < n) (hz : n ≤ 1048576) :
    Calls Tryz.prog 87 #[.agg #[.string nm, .int .i64 st, .slice A n c], .agg #[.string kb, .string ks], .string s] w fun e w' => e = .returned (.string (chOf l kb ks s)) ∧ Below w.heap.size w w' := by
  obtain ⟨m, rfl⟩ : ∃ m, n = m + 1 := ⟨n - 1, by omega⟩
  have HN := Lib.hid hn
  clear hn
  have b0 : Below w.heap.size w ((w.alloc (.cells ⟨[.string nm, .int .i64 st, .slice A (m + 1) c]⟩ 25)).alloc (.cells ⟨[.string kb, .string ks]⟩ 27)) := by (repeat' (first | (with_reducible exact Below.refl _ _) | (with_reducible assumption) | (with_reducible refine below_drewN ?_ _) | (with_reducible refine Below.drew ?_) | (with_reducible refine below_alloc ?_ _) | (with_reducible refine Below.alloc ?_ ?_ _) | (with_reducible refine Below.setCell ?_ ?_ _) | (with_reducible refine below_go ?_ (by with_reducible assumption)) | (with_reducible refine below_then (by with_reducible assumption) ?_ ?_) | go_size))
  obtain ⟨b, o, y, rfl, hbb, hy, hc⟩ := h.at_str (k := m) (by rw [HN.out]; omega)
  have hc1 := (b0.cell (p := ⟨b, o + m, none⟩) hbb).trans hc
  have hne : ¬ b = w.heap.size := by omega
  have hne2 : ¬ b = w.heap.size + 1 := by omega
  have EY := Lib.hid (show lastC l = y by rw [lastC, HN.out, Nat.add_sub_cancel, List.getD, hy]; rfl)
  clear hy
  rcases hB : isB s
  · rcases hS : isS s
    · have g2 : (s.toList == [98]) = false := hB
      have g3 : (s.toList == [115]) = false := hS
      have e1 := Lib.hid (show chOf l kb ks s = y by rw [chOf, hB, hS, if_neg (by simp), if_neg (by simp), EY.out])
      clear hB hS hc1
      go_in
      go_wp2
      go_ret
      rw [e1.out]
      exact ⟨rfl, b0⟩
    · have g2 : (s.toList == [98]) = false := hB
      have g3 : (s.toList == [115]) = true := hS
      have e1 := Lib.hid (show chOf l kb ks s = ks by rw [chOf, hB, hS, if_neg (by simp), if_pos rfl])
      clear hB hS hc1
      go_in
      go_wp2
      go_ret
      rw [e1.out]
      exact ⟨rfl, b0⟩
  · have g2 : (s.toList == [98]) = true := hB
    have e1 := Lib.hid (show chOf l kb ks s = kb by rw [chOf, hB, if_pos rfl])
    clear hB hc1
    go_in
    go_wp2
    go_ret
    rw [e1.out]
    exact ⟨rfl, b0⟩
set_option maxRecDepth 100000 in
set_option maxHeartbeats 1000000 in
theorem spec_l8Head {A : Option Addr} {n c st : Nat} {nm : ByteArray} {l : List ByteArray} {kb ks : ByteArray} {s : ByteArray} {w : World} (hn : l.length = n) (h : Strs w A l) (hk : goodK nm (st : Int) l kb ks = true) (hcap : n ≤ c) :
    Calls Tryz.prog 62 #[.agg #[.string nm, .int .i64 st, .slice A n c], .agg #[.string kb, .string ks], .string s] w fun e w' => e = .returned (.string (callHd st l kb ks s)) ∧ Below w.heap.size w w' := by
  obtain ⟨h8, h40, hgl, hgb, hgs⟩ := goodK_all hk
  obtain ⟨m, rfl⟩ : ∃ m, n = m + 1 := ⟨n - 1, by omega⟩
  have HN := Lib.hid hn
  have b0 : Below w.heap.size w ((w.alloc (.cells ⟨[.string nm, .int .i64 st, .slice A (m + 1) c]⟩ 25)).alloc (.cells ⟨[.string kb, .string ks]⟩ 27)) := by (repeat' (first | (with_reducible exact Below.refl _ _) | (with_reducible assumption) | (with_reducible refine below_drewN ?_ _) | (with_reducible refine Below.drew ?_) | (with_reducible refine below_alloc ?_ _) | (with_reducible refine Below.alloc ?_ ?_ _) | (with_reducible refine Below.setCell ?_ ?_ _) | (with_reducible refine below_go ?_ (by with_reducible assumption)) | (with_reducible refine below_then (by with_reducible assumption) ?_ ?_) | go_size))
  have K0 := (Blk.at_ w 25 [.string nm, .int .i64 st, .slice A (m + 1) c] (b := w.heap.size) rfl).alloc (.cells ⟨[.string kb, .string ks]⟩ 27)
  have K1 := Blk.at_ (w.alloc (.cells ⟨[.string nm, .int .i64 st, .slice A (m + 1) c]⟩ 25)) 27 [.string kb, .string ks] (b := w.heap.size + 1) (by simp)
  have HS := Lib.hid (fun (s' : ByteArray) (hs' : s' ∈ l.take m) => show s'.size ≤ 16777216 from by have := goodChange_small (hgl s' (List.mem_of_mem_take hs')); omega)
  have e1 := Lib.hid (show applyR (rAt (roundsS st) (l.take m) m) (chOf l kb ks s) = callHd st l kb ks s by
    have := headX_take (st := st) (l := l) (x := chOf l kb ks s)
    rw [HN.out, Nat.add_sub_cancel] at this
    exact this)
  have hm40 : m ≤ 40 := by have := HN.out; omega
  have hr8 : (roundsS st).size ≤ 8 := by rw [rounds_size st (by omega)]; exact h8.2
  have hx8 : (rAt (roundsS st) (l.take m) m).size ≤ 8 := by rw [rAt_size]; exact hr8
  have hch := goodChange_small (chOf_good hk s)
  have HT := Lib.hid (show (l.take m).length = m by rw [List.length_take, HN.out]; omega)
  obtain ⟨b, o, y, rfl, hbb, _, _⟩ := h.at_str (k := m) (by rw [HN.out]; omega)
  have hst8 := h8.2
  clear hgl hgb hgs h40 hn h8
  go_in
  go_upto_region 2 with fail
  obtain ⟨w0, hw0⟩ : ∃ u, u = ((w.alloc (.cells #[.string nm, .int .i64 st, .slice (some ⟨b, o, none⟩) (m + 1) c] 25)).alloc (.cells #[.string kb, .string ks] 27)) := ⟨_, rfl⟩
  rw [← hw0] at b0 K0 K1 ⊢
  clear hw0
  have H0 := h.up b0
  have R0 : Hid (Strs w0 (some ⟨b, o, none⟩) (l.take m)) := Lib.hid (by
    have := H0.part 0 m (Nat.zero_le _) (by rw [HN.out]; omega)
    simpa using this)
  have k0 := K0.cell 0; have k1 := K0.cell 1; have k2 := K0.cell 2; have q0 := K1.cell 0; have q1 := K1.cell 1
  simp only [List.getElem?_cons_zero, List.getElem?_cons_succ] at k0 k1 k2 q0 q1
  have hle : (m : Int) ≤ (c : Int) := by omega
  have hle2 : (0 : Int) ≤ (m : Int) := by omega
  have hnc : ¬ c = 0 := by omega
  have hB0 := Lib.hid b0
  go_region_held3 (fun u => u.cell? ⟨w.heap.size, 1, none⟩ = some (.int .i64 st) ∧ u.cell? ⟨w.heap.size, 2, none⟩ = some (.slice (some ⟨b, o, none⟩) (m + 1) c)) (first | exact ⟨k1d, k2d⟩ | exact ⟨k1, k2⟩) (first | (go_at_call 28; refine (spec_l1Rounds hst8).mono ?_; rintro e w' ⟨rfl, rfl⟩) | (go_at_call 85; refine (spec_l4Lead hr8 HT.out R0.out.drew (by omega) HS.out).mono ?_; rintro e w1 ⟨A1, c1, rfl, ho, hbd⟩; have hb1 := below_of_drew hbd; have L0 := K0.up hb1; have L1 := K1.up hb1; have k1d := L0.cell 1; have k2d := L0.cell 2; simp only [List.getElem?_cons_zero, List.getElem?_cons_succ] at k1d k2d))
  have k0d := L0.cell 0; have q0d := L1.cell 0; have q1d := L1.cell 1
  simp only [List.getElem?_cons_zero, List.getElem?_cons_succ] at k0d q0d q1d
  have hB1 := below_go b0 hb1
  clear k0 k1 k2 q0 q1
  go_wp2_with fail
  refine (spec_l8Change HN.out (h.up hB1) (by omega) (by omega)).mono ?_; rintro e w2 ⟨rfl, hb2⟩
  go_wp2_with fail
  refine (spec_l2Apply hx8 (by omega)).mono ?_; rw [e1.out]; rintro e w3 ⟨rfl, hb3⟩
  go_wp2
  go_ret
  exact ⟨rfl, below_go (below_go hB1 hb2) hb3⟩
end Go.Proofs.YtidolgonmimicaaGreatDoor
/- A map to strings or to ints that the call has made, as a plain function of the key. -/
namespace Go.Proofs.YtidolgonmimicaaGreatDoor
set_option linter.unusedVariables false
set_option linter.unusedSimpArgs false
open Go.ChangeShapes Go.WideShapes Go.ChangeAt Go.RowKit Go.Deep
open Go.Maps (Keyed)

/-- Block b is a map of at most n entries that reads as f. -/
def MapTo {α : Type} (en : α → Value) (li : α → Lit) (z : α) (P : Program) (w : World) (k e : TypeId) (b n : Nat) (f : Value → α) : Prop :=
  ∃ D : DataW Unit, w.ownsMap P k (plainElem P e) b n D ∧ ∀ key kl, keyOf P k key = some kl → D.atKey kl (.lit (li z)) = .lit (li (f key))
section
variable {α : Type} {en : α → Value} {li : α → Lit} {z : α} {P : Program} {w w' : World} {k e : TypeId} {b n : Nat} {f : Value → α}
theorem MapTo.made (en : α → Value) (li : α → Lit) (z : α) (P : Program) (w : World) (k e : TypeId) : MapTo en li z P (w.alloc (.map #[] 0)) k e w.heap.size 0 (fun _ => z) :=
  ⟨.map [], World.ownsMap_made w P k _, fun key kl _ => rfl⟩
theorem MapTo.lt (h : MapTo en li z P w k e b n f) : b < w.heap.size := by
  obtain ⟨D, h1, _⟩ := h
  exact h1.lt
theorem MapTo.kept {row : Option Nat} (h : MapTo en li z P w k e b n f) (hg : w.grownBy w' row) (hne : some b ≠ row) : MapTo en li z P w' k e b n f := by
  obtain ⟨D, h1, h2⟩ := h
  exact ⟨D, h1.kept hg hne, h2⟩
theorem MapTo.up (h : MapTo en li z P w k e b n f) (hb : Below w.heap.size w w') : MapTo en li z P w' k e b n f := h.kept (grown_of_below hb) (by simp)
theorem MapTo.alloc (h : MapTo en li z P w k e b n f) (o : Obj) : MapTo en li z P (w.alloc o) k e b n f := h.up ((Below.refl _ _).alloc (Nat.le_refl _) o)
theorem MapTo.drew (h : MapTo en li z P w k e b n f) : MapTo en li z P w.drew k e b n f := h.up (Below.refl _ _).drew
theorem MapTo.look {t : TypeId} (h : MapTo en li z P w k e b n f) (K : Keyed P k) (ht : P.underlying t = some (.map k e)) (hz : (zeroValue e).run P w = .ok (en z) w) (hzd : plainElem (H := Unit) P e (en z) = some (.lit (li z), [])) (hin : ∀ v x ps, plainElem (H := Unit) P e v = some (.lit (li x), ps) → v = en x)
    {key : Value} {kl : Lit} (hkey : keyOf P k key = some kl) : (Instr.lookup t (.map (some b)) key false).run P w = .ok (en (f key)) w := by
  obtain ⟨D, h1, h2⟩ := h
  obtain ⟨v, ps, hrun, hv⟩ := h1.lookup K ht hz hzd hkey
  rw [h2 key kl hkey] at hv
  rw [hrun, hin _ _ _ hv]
end
theorem MapTo.put {α : Type} {en : α → Value} {li : α → Lit} {z : α} {P : Program} {W : World} {t k e : TypeId} (K : Keyed P k) (ht : P.underlying t = some (.map k e)) {b n : Nat} {f : Value → α} (h : MapTo en li z P W k e b n f) (hn : n ≤ 16777216) {key : Value} {x : α}
    {kl : Lit} (hkey : keyOf P k key = some kl) (hpe : plainElem (H := Unit) P e (en x) = some (.lit (li x), [])) : ∃ w', (Instr.mapUpdate t (.map (some b)) key (en x)).run P W = .ok () w' ∧ (∀ g : Value → α, g key = x → (∀ q, q ≠ key → g q = f q) → MapTo en li z P w' k e b (n + 1) g) ∧ W.grownBy w' (some b) := by
  obtain ⟨D, h1, h2⟩ := h
  obtain ⟨w', hrun, hown, hg⟩ := h1.update K ht (by unfold maxLen; omega) hkey hpe
  refine ⟨w', hrun, fun g g1 g2 => ⟨_, hown, fun key' kl' hk' => ?_⟩, hg⟩
  by_cases ek : kl' = kl
  · subst ek
    have e1 : key' = key := K.inj hk' hkey
    subst e1
    rw [Maps.atKey_put_same h1.isMap (K.key hkey), g1]
  · have e1 : key' ≠ key := fun e2 => ek (by rw [e2, hkey] at hk'; injection hk' with hk'; exact hk'.symm)
    rw [Maps.atKey_put_other ek, g2 _ e1]
    exact h2 key' kl' hk'
theorem wp_map_put {α : Type} {en : α → Value} {li : α → Lit} {z : α} {P : Program} {o : Oper} {a : Act} {K' : Act → World → Prop} {Q : Exit → Act → World → Prop} {W : World} (M X V : Operand) (t : TypeId) (hop : o.op = Op.mapUpdate t M X V)
    {k e : TypeId} (K : Keyed P k) (ht : P.underlying t = some (.map k e)) {b n : Nat} {f : Value → α} (hm : a.eval M = .map (some b)) (h : MapTo en li z P W k e b n f) (hn : n ≤ 16777216) {key : Value} (hx : a.eval X = key) {x : α} (hv : a.eval V = en x)
    {kl : Lit} (hkey : keyOf P k key = some kl) (hpe : plainElem (H := Unit) P e (en x) = some (.lit (li x), [])) (hK : ∀ w', (∀ g : Value → α, g key = x → (∀ q, q ≠ key → g q = f q) → MapTo en li z P w' k e b (n + 1) g) → W.grownBy w' (some b) → K' (a.put o.dst undef) w') : o.wp P a W K' Q := by
  obtain ⟨w', hrun, r1, r2⟩ := h.put K ht hn hkey hpe
  unfold Oper.wp
  simp [execOp, hop, hm, hx, hv, hrun, Result.andThen]
  exact hK w' r1 r2
theorem wpList_map_put {α : Type} {en : α → Value} {li : α → Lit} {z : α} {P : Program} {ops : Array Oper} {rest : List Oper} {o : Oper} {a : Act} {Q : Exit → Act → World → Prop} {W : World} (hgd : o.guard = none) (M X V : Operand) (t : TypeId) (hop : o.op = Op.mapUpdate t M X V)
    {k e : TypeId} (K : Keyed P k) (ht : P.underlying t = some (.map k e)) {b n : Nat} {f : Value → α} (hm : a.eval M = .map (some b)) (h : MapTo en li z P W k e b n f) (hn : n ≤ 16777216) {key : Value} (hx : a.eval X = key) {x : α} (hv : a.eval V = en x)
    {kl : Lit} (hkey : keyOf P k key = some kl) (hpe : plainElem (H := Unit) P e (en x) = some (.lit (li x), [])) (hK : ∀ w', (∀ g : Value → α, g key = x → (∀ q, q ≠ key → g q = f q) → MapTo en li z P w' k e b (n + 1) g) → W.grownBy w' (some b) → wpList P ops Q rest (a.put o.dst undef) w') : wpList P ops Q (o :: rest) a W := by
  refine wpList_plain hgd fun K' hK' => wp_map_put M X V t hop K ht hm h hn hx hv hkey hpe fun w' r1 r2 => hK' _ _ (hK w' r1 r2)
theorem step_map_put {α : Type} {en : α → Value} {li : α → Lit} {z : α} {P : Program} {ops : Array Oper} {o : Oper} {a : Act} {K' : Act → World → Prop} {Q : Exit → Act → World → Prop} {E' : Prop} {W : World} (hgd : o.guard = none) (M X V : Operand) (t : TypeId) (hop : o.op = Op.mapUpdate t M X V)
    {k e : TypeId} (K : Keyed P k) (ht : P.underlying t = some (.map k e)) {b n : Nat} {f : Value → α} (hm : a.eval M = .map (some b)) (h : MapTo en li z P W k e b n f) (hn : n ≤ 16777216) {key : Value} (hx : a.eval X = key) {x : α} (hv : a.eval V = en x)
    {kl : Lit} (hkey : keyOf P k key = some kl) (hpe : plainElem (H := Unit) P e (en x) = some (.lit (li x), [])) (hK : ∀ w', (∀ g : Value → α, g key = x → (∀ q, q ≠ key → g q = f q) → MapTo en li z P w' k e b (n + 1) g) → W.grownBy w' (some b) → K' (a.put o.dst undef) w') :
    if Region.wanted o (yielded ops a.tmps) = true then Oper.wp P o a W K' Q else E' := by
  have hw : Region.wanted o (yielded ops a.tmps) = true := by simp [Region.wanted, hgd]
  rw [if_pos hw]
  exact wp_map_put M X V t hop K ht hm h hn hx hv hkey hpe hK
theorem wp_map_ins {α : Type} {en : α → Value} {li : α → Lit} {z : α} {P : Program} {o : Oper} {a : Act} {K' : Act → World → Prop} {Q : Exit → Act → World → Prop} {W : World} (M X V : Operand) (t : TypeId) (hop : o.op = Op.insert t M X V)
    {k e : TypeId} (K : Keyed P k) (ht : P.underlying t = some (.map k e)) {b n : Nat} {f : Value → α} (hm : a.eval M = .map (some b)) (h : MapTo en li z P W k e b n f) (hn : n ≤ 16777216) {key : Value} (hx : a.eval X = key) {x : α} (hv : a.eval V = en x)
    {kl : Lit} (hkey : keyOf P k key = some kl) (hpe : plainElem (H := Unit) P e (en x) = some (.lit (li x), [])) (hK : ∀ w', (∀ g : Value → α, g key = x → (∀ q, q ≠ key → g q = f q) → MapTo en li z P w' k e b (n + 1) g) → W.grownBy w' (some b) → K' (a.put o.dst undef) w') : o.wp P a W K' Q := by
  obtain ⟨w', hrun, r1, r2⟩ := h.put K ht hn hkey hpe
  unfold Oper.wp
  simp [execOp, hop, hm, hx, hv, hrun, Result.andThen]
  exact hK w' r1 r2
theorem step_map_ins {α : Type} {en : α → Value} {li : α → Lit} {z : α} {P : Program} {ops : Array Oper} {o : Oper} {a : Act} {K' : Act → World → Prop} {Q : Exit → Act → World → Prop} {E' : Prop} {W : World} (hgd : o.guard = none) (M X V : Operand) (t : TypeId) (hop : o.op = Op.insert t M X V)
    {k e : TypeId} (K : Keyed P k) (ht : P.underlying t = some (.map k e)) {b n : Nat} {f : Value → α} (hm : a.eval M = .map (some b)) (h : MapTo en li z P W k e b n f) (hn : n ≤ 16777216) {key : Value} (hx : a.eval X = key) {x : α} (hv : a.eval V = en x)
    {kl : Lit} (hkey : keyOf P k key = some kl) (hpe : plainElem (H := Unit) P e (en x) = some (.lit (li x), [])) (hK : ∀ w', (∀ g : Value → α, g key = x → (∀ q, q ≠ key → g q = f q) → MapTo en li z P w' k e b (n + 1) g) → W.grownBy w' (some b) → K' (a.put o.dst undef) w') :
    if Region.wanted o (yielded ops a.tmps) = true then Oper.wp P o a W K' Q else E' := by
  have hw : Region.wanted o (yielded ops a.tmps) = true := by simp [Region.wanted, hgd]
  rw [if_pos hw]
  exact wp_map_ins M X V t hop K ht hm h hn hx hv hkey hpe hK
/-- The bound on a map's size is the length of what it reads as. -/
theorem ownsMap_tight {H : Type} {P : Program} {w : World} {k : TypeId} {R : Value → Option (DataW H × List MemPlace)} {b n m : Nat} {l : List (Lit × DataW H)} (h : w.ownsMap P k R b n (.map l)) (hm : l.length ≤ m) : w.ownsMap P k R b m (.map l) := by
  obtain ⟨es, clock, hb, F, hs, hD⟩ := h
  refine ⟨es, clock, hb, F, ?_, hD⟩
  injection hD with hD
  have e1 := congrArg List.length hD
  rw [length_sorted] at e1
  simp at e1
  omega
/-- The world behind 'm[key] = v'. -/
def putW (P : Program) (t : TypeId) (b : Nat) (key v : Value) (u : World) : World :=
  match (Instr.mapUpdate t (.map (some b)) key v).run P u with
  | .ok _ w' => w'
  | _ => u
theorem putW_eq {P : Program} {t : TypeId} {b : Nat} {key v : Value} {u w' : World} (h : (Instr.mapUpdate t (.map (some b)) key v).run P u = .ok () w') : putW P t b key v u = w' := by
  rw [putW, h]
/-! strings -/
def sLi (s : ByteArray) : Lit := .string s.data.toList
theorem ba_ext {s t : ByteArray} (h : s.data.toList = t.data.toList) : s = t := by
  cases s; cases t
  simp only [ByteArray.mk.injEq]
  exact Array.ext' h
theorem sLi_pe {P : Program} {e : TypeId} (he : P.underlying e = some .string) {s : ByteArray} (hs : s.size ≤ 16777216) : plainElem (H := Unit) P e (.string s) = some (.lit (sLi s), []) := plainElem_string he (by unfold maxLen; omega)
theorem sLi_in {P : Program} {e : TypeId} (he : P.underlying e = some .string) (v : Value) (x : ByteArray) (ps : List MemPlace) (h : plainElem (H := Unit) P e v = some (.lit (sLi x), ps)) : v = .string x := by
  obtain ⟨s, rfl, hz, _⟩ := plainElem_string_inv he h
  simp only [Prod.mk.injEq, DataW.lit.injEq, sLi, Lit.string.injEq] at hz
  rw [ba_ext hz.1]
/-! ints -/
theorem lit_i64 {x : Int} (h : I64 x) : (Lit.int .i64 x).wf = true := by
  simp only [Lit.wf, Bool.and_eq_true, decide_eq_true_eq]
  exact h
def iLi (i : Int) : Lit := .int .i64 i
theorem iLi_pe {P : Program} {e : TypeId} (he : P.underlying e = some (.int .i64)) {i : Int} (hi : I64 i) : plainElem (H := Unit) P e (.int .i64 i) = some (.lit (iLi i), []) := plainElem_int he (lit_i64 hi)
theorem iLi_in {P : Program} {e : TypeId} (he : P.underlying e = some (.int .i64)) (v : Value) (x : Int) (ps : List MemPlace) (h : plainElem (H := Unit) P e v = some (.lit (iLi x), ps)) : v = .int .i64 x := by
  obtain ⟨s, rfl, hz, _⟩ := plainElem_int_inv he h
  simp only [Prod.mk.injEq, DataW.lit.injEq, iLi, Lit.int.injEq] at hz
  rw [hz.1.2]
end Go.Proofs.YtidolgonmimicaaGreatDoor
/- The walks through touches: good ones and their heads, both sides. -/
namespace Go.Proofs.YtidolgonmimicaaGreatDoor
set_option linter.unusedVariables false
set_option linter.unusedSimpArgs false
open Go.ChangeShapes Go.WideShapes Go.ChangeAt Go.RowKit Go.Deep
theorem letter_one {t : ByteArray} {k : Nat} (h : k < t.size) : letter t k = strOfNums [PlainAid.bt t k] := one_byte h
theorem letter_p {t : ByteArray} {k : Nat} (h : k < t.size) (e : PlainAid.bt t k = 112) : letter t k = ⟨#[112]⟩ := by rw [letter_one h, e]; rfl
theorem letter_b {t : ByteArray} {k : Nat} (h : k < t.size) (e : PlainAid.bt t k = 98) : letter t k = ⟨#[98]⟩ := by rw [letter_one h, e]; rfl
theorem letter_s {t : ByteArray} {k : Nat} (h : k < t.size) (e : PlainAid.bt t k = 115) : letter t k = ⟨#[115]⟩ := by rw [letter_one h, e]; rfl
theorem is_one {c : ByteArray} {x : UInt8} (h : (c.toList == [x]) = true) : c = ⟨#[x]⟩ := by
  have h1 : c.toList = [x] := by simpa using h
  have h2 : c.data.toList = [x] := by rw [← ByteArray.toList_eq]; exact h1
  exact ba_ext (t := ⟨#[x]⟩) h2
theorem isCl_letter {t : ByteArray} {k : Nat} (h : k < t.size) : isCl (letter t k) = callB t k := by
  have nn := PlainAid.bt_nonneg t k; have nl := PlainAid.bt_le t k
  by_cases e1 : PlainAid.bt t k = 112
  · rw [letter_p h e1, show callB t k = true from by simp [callB, e1]]; decide +kernel
  by_cases e2 : PlainAid.bt t k = 98
  · rw [letter_b h e2, show callB t k = true from by simp [callB, e2]]; decide +kernel
  by_cases e3 : PlainAid.bt t k = 115
  · rw [letter_s h e3, show callB t k = true from by simp [callB, e3]]; decide +kernel
  have hb : callB t k = false := by simp [callB, e1, e2, e3]
  rw [hb]
  have key : ∀ x : UInt8, (PlainAid.bt t k ≠ x.toNat) → ((letter t k).toList == [x]) = false := by
    intro x hx
    rcases hq : ((letter t k).toList == [x])
    · rfl
    · exfalso
      have e4 := is_one hq
      rw [letter_one h] at e4
      have e5 := congrArg nums e4
      rw [nums_strOf (by intro y hy; simp at hy; subst hy; omega)] at e5
      apply hx
      have e6 : nums ⟨#[x]⟩ = [(x.toNat : Int)] := by rfl
      rw [e6] at e5
      injection e5
  rw [isCl, isP, isB, isS, key 112 e1, key 98 e2, key 115 e3]
  rfl
set_option maxRecDepth 100000 in
theorem impl_areCalls {t : ByteArray} {w : World} (hz : t.size ≤ 16777216) :
    Calls Tryz.prog 60 #[.string t] w fun e w' => e = .returned (.bool ((List.range t.size).all (callB t))) ∧ w = w' := by
  have gb := PlainAid.get_bt t
  go_in
  go_wp2
  go_loopw [6] (fun i wr => ∃ k : Nat, k ≤ t.size ∧ i = .int .i64 k ∧ Hid (∀ j, j < k → callB t j = true) ∧ w = wr) (fun i _ => t.size - (intOf i).toNat)
  case atStart => exact ⟨0, Nat.zero_le _, rfl, Lib.hid (fun j hj => absurd hj (by omega)), rfl⟩
  case round =>
    obtain ⟨k, hk, rfl, HK, rfl⟩ := hrel
    by_cases hlt : k < t.size
    · go_wp2_with fail
      refine (impl_isCall (s := letter t k)).mono ?_; rintro e w' ⟨rfl, rfl⟩
      have E := Lib.hid (isCl_letter hlt)
      rcases hg : isCl (letter t k)
      · have e1 := Lib.hid (show (List.range t.size).all (callB t) = false by rw [List.all_eq_false]; exact ⟨k, List.mem_range.2 hlt, by rw [← E.out, hg]; simp⟩)
        go_wp2
        go_ret
        rw [e1.out]
        exact ⟨rfl, rfl⟩
      · have e1 := Lib.hid (show callB t k = true by rw [← E.out, hg])
        go_wp2
        go_roundw
        case rel => exact ⟨k + 1, by omega, by go_num, Lib.hid (upto_succ HK.out e1.out), trivial⟩
        case measure => simp [intOf]; omega
    · obtain rfl : k = t.size := by omega
      have e1 := Lib.hid (show (List.range t.size).all (callB t) = true by rw [List.all_eq_true]; exact fun j hj => HK.out j (List.mem_range.1 hj))
      go_wp2
      go_ret
      rw [e1.out]
      exact ⟨rfl, rfl⟩
theorem impl_GoodTouch {t : ByteArray} {w : World} (hz : t.size ≤ 16777216) :
    Calls Tryz.prog 27 #[.string t] w fun e w' => e = .returned (.bool (goodT t)) ∧ w = w' := by
  have HQ : Hid (goodT t = ((List.range t.size).all (callB t) && inB t.size 1 60)) := Lib.hid rfl
  by_cases h1 : t.size < 1
  · have hI : ¬ (1 : Int) ≤ (t.size : Int) := by omega
    have e1 := Lib.hid (show goodT t = false by rw [HQ.out, inB, decide_eq_false (by omega), Bool.and_false])
    go_in
    go_wp2
    go_ret
    rw [e1.out]
    exact ⟨rfl, rfl⟩
  · by_cases h2 : 60 < t.size
    · have hI : (1 : Int) ≤ (t.size : Int) := by omega
      have hJ : ¬ (t.size : Int) ≤ 60 := by omega
      have e1 := Lib.hid (show goodT t = false by rw [HQ.out, inB, decide_eq_false (by omega), Bool.and_false])
      go_in
      go_wp2
      go_ret
      rw [e1.out]
      exact ⟨rfl, rfl⟩
    · have hI : (1 : Int) ≤ (t.size : Int) := by omega
      have hJ : (t.size : Int) ≤ 60 := by omega
      have e1 := Lib.hid (show goodT t = (List.range t.size).all (callB t) by rw [HQ.out, inB, decide_eq_true (by omega), Bool.and_true])
      go_in
      go_wp2_with fail
      refine (impl_areCalls hz).mono ?_; rintro e w' ⟨rfl, rfl⟩
      go_wp2
      go_ret
      rw [e1.out]
      exact ⟨rfl, rfl⟩
set_option maxHeartbeats 1000000 in
theorem impl_goodFor {A : Option Addr} {n c : Nat} {nm : ByteArray} {st : Int} {l : List ByteArray} {kb ks : ByteArray} {t : ByteArray} {w : World} (hn : l.length = n) (h : Strs w A l) (hz : n ≤ 1048576) (hs : ∀ s ∈ l, s.size ≤ 16777216) (hnm : nm.size ≤ 16777216) (hst : I64 st) (hkb : kb.size ≤ 16777216) (hks : ks.size ≤ 16777216) (ht : t.size ≤ 16777216) :
    Calls Tryz.prog 14 #[.agg #[.string nm, .int .i64 st, .slice A n c], .agg #[.string kb, .string ks], .string t] w fun e w' => e = .returned (.bool (goodF nm st l kb ks t)) ∧ Below w.heap.size w w' := by
  have HQ : Hid (goodF nm st l kb ks t = (goodK nm st l kb ks && goodT t)) := Lib.hid rfl
  have b0 : Below w.heap.size w ((w.alloc (.cells ⟨[.string nm, .int .i64 st, .slice A n c]⟩ 25)).alloc (.cells ⟨[.string kb, .string ks]⟩ 27)) := by (repeat' (first | (with_reducible exact Below.refl _ _) | (with_reducible assumption) | (with_reducible refine below_drewN ?_ _) | (with_reducible refine Below.drew ?_) | (with_reducible refine below_alloc ?_ _) | (with_reducible refine Below.alloc ?_ ?_ _) | (with_reducible refine Below.setCell ?_ ?_ _) | (with_reducible refine below_go ?_ (by with_reducible assumption)) | (with_reducible refine below_then (by with_reducible assumption) ?_ ?_) | go_size))
  go_in
  go_wp2_with fail
  refine (impl_GoodCalls hn (h.up b0) hz hs hnm hst hkb hks).mono ?_; rintro e w1 ⟨rfl, hb1⟩
  rcases h1 : goodK nm st l kb ks
  · have e1 := Lib.hid (show goodF nm st l kb ks t = false by rw [HQ.out, h1]; rfl)
    go_wp2
    go_ret
    rw [e1.out]
    exact ⟨rfl, below_go b0 hb1⟩
  · have e1 := Lib.hid (show goodF nm st l kb ks t = goodT t by rw [HQ.out, h1]; rfl)
    go_wp2_with fail
    refine (impl_GoodTouch ht).mono ?_; rintro e w' ⟨rfl, rfl⟩
    go_wp2
    go_ret
    rw [e1.out]
    exact ⟨rfl, below_go b0 hb1⟩
set_option maxRecDepth 100000 in
theorem spec_l9Good {t : ByteArray} {w : World} (hz : t.size ≤ 16777216) :
    Calls Tryz.prog 18 #[.string t] w fun e w' => e = .returned (.bool (goodT t)) ∧ w = w' := by
  have gb := PlainAid.get_bt t
  have HQ : Hid (goodT t = ((List.range t.size).all (callB t) && inB t.size 1 60)) := Lib.hid rfl
  go_in
  go_wp2
  go_loopw [3] (fun i wr => ∃ k : Nat, k ≤ t.size ∧ i = .int .i64 k ∧ Hid (∀ j, j < k → callB t j = true) ∧ w = wr) (fun i _ => t.size - (intOf i).toNat)
  case atStart => exact ⟨0, Nat.zero_le _, rfl, Lib.hid (fun j hj => absurd hj (by omega)), rfl⟩
  case round =>
    obtain ⟨k, hk, rfl, HK, rfl⟩ := hrel
    by_cases hlt : k < t.size
    · go_wp2_with fail
      refine (spec_l8Call (s := letter t k)).mono ?_; rintro e w' ⟨rfl, rfl⟩
      have E := Lib.hid (isCl_letter hlt)
      rcases hg : isCl (letter t k)
      · have e1 := Lib.hid (show goodT t = false by
          rw [HQ.out, show (List.range t.size).all (callB t) = false from by rw [List.all_eq_false]; exact ⟨k, List.mem_range.2 hlt, by rw [← E.out, hg]; simp⟩, Bool.false_and])
        go_wp2
        go_ret
        rw [e1.out]
        exact ⟨rfl, rfl⟩
      · have e1 := Lib.hid (show callB t k = true by rw [← E.out, hg])
        go_wp2
        go_roundw
        case rel => exact ⟨k + 1, by omega, by go_num, Lib.hid (upto_succ HK.out e1.out), trivial⟩
        case measure => simp [intOf]; omega
    · obtain rfl : k = t.size := by omega
      have e1 := Lib.hid (show goodT t = inB t.size 1 60 by rw [HQ.out, show (List.range t.size).all (callB t) = true from by rw [List.all_eq_true]; exact fun j hj => HK.out j (List.mem_range.1 hj), Bool.true_and])
      go_wp2_with fail
      refine (spec_l1In _ _ _ _).mono ?_; rintro e w' ⟨rfl, rfl⟩
      go_wp2
      go_ret
      rw [e1.out]
      exact ⟨rfl, rfl⟩
end Go.Proofs.YtidolgonmimicaaGreatDoor
/- The heads and rows of a touch, the reference's side. -/
namespace Go.Proofs.YtidolgonmimicaaGreatDoor
set_option linter.unusedVariables false
set_option linter.unusedSimpArgs false
open Go.ChangeShapes Go.WideShapes Go.ChangeAt Go.RowKit Go.Deep
theorem goodF_t' {nm : ByteArray} {st : Int} {l : List ByteArray} {kb ks t : ByteArray} (h : goodF nm st l kb ks t = true) : goodK nm st l kb ks = true ∧ goodT t = true := by
  rw [goodF, Bool.and_eq_true] at h; exact h
theorem Below.step' {w0 w w' : World} {b : Nat} (C : Below b w0 w) (hbs : b ≤ w0.heap.size) (hb : Below w.heap.size w w') : Below b w0 w' := C.trans (hb.mono (Nat.le_trans hbs C.size))
set_option maxHeartbeats 2000000 in
set_option maxRecDepth 100000 in
theorem spec_l9Heads {A : Option Addr} {n c st : Nat} {nm : ByteArray} {l : List ByteArray} {kb ks : ByteArray} {t : ByteArray} {w : World} (hn : l.length = n) (h : Strs w A l) (hk : goodK nm (st : Int) l kb ks = true) (hg : goodT t = true) (hcap : n ≤ c) :
    Calls Tryz.prog 47 #[.agg #[.string nm, .int .i64 st, .slice A n c], .agg #[.string kb, .string ks], .string t] w fun e w' => ∃ A' c', e = .returned (.slice A' (t.size + 1) c') ∧ Owned strE 1 9 w' w.heap.size A' (t.size + 1) c' (hdsL st l kb ks t (t.size + 1)) ∧ Below w.heap.size w w' := by
  have b0 : Below w.heap.size w ((w.alloc (.cells ⟨[.string nm, .int .i64 st, .slice A n c]⟩ 25)).alloc (.cells ⟨[.string kb, .string ks]⟩ 27)) := by (repeat' (first | (with_reducible exact Below.refl _ _) | (with_reducible assumption) | (with_reducible refine below_drewN ?_ _) | (with_reducible refine Below.drew ?_) | (with_reducible refine below_alloc ?_ _) | (with_reducible refine Below.alloc ?_ ?_ _) | (with_reducible refine Below.setCell ?_ ?_ _) | (with_reducible refine below_go ?_ (by with_reducible assumption)) | (with_reducible refine below_then (by with_reducible assumption) ?_ ?_) | go_size))
  have K0 := (Blk.at_ w 25 [.string nm, .int .i64 st, .slice A n c] (b := w.heap.size) rfl).alloc (.cells ⟨[.string kb, .string ks]⟩ 27)
  have K1 := Blk.at_ (w.alloc (.cells ⟨[.string nm, .int .i64 st, .slice A n c]⟩ 25)) 27 [.string kb, .string ks] (b := w.heap.size + 1) (by simp)
  obtain ⟨h8, h40, _⟩ := goodK_all hk
  obtain ⟨ht1, ht60, _⟩ := goodT_t hg
  have gb := PlainAid.get_bt t
  go_in
  go_wp2_with fail
  obtain ⟨w1, hw1⟩ : ∃ u, u = ((w.alloc (.cells #[.string nm, .int .i64 st, .slice A n c] 25)).alloc (.cells #[.string kb, .string ks] 27)) := ⟨_, rfl⟩
  rw [← hw1] at b0 K0 K1 ⊢
  clear hw1
  have H0 := Lib.hid (h.up b0)
  have carry : Hid (∀ u : World, Below w1.heap.size w1 u → (u.cell? ⟨w.heap.size, 0, none⟩ = some (.string nm) ∧ u.cell? ⟨w.heap.size, 1, none⟩ = some (.int .i64 st) ∧ u.cell? ⟨w.heap.size, 2, none⟩ = some (.slice A n c)) ∧ u.cell? ⟨w.heap.size + 1, 0, none⟩ = some (.string kb) ∧ u.cell? ⟨w.heap.size + 1, 1, none⟩ = some (.string ks)) := Lib.hid (fun u hu => by
    have L0 := K0.up hu; have L1 := K1.up hu
    exact ⟨⟨by simpa using L0.cell 0, by simpa using L0.cell 1, by simpa using L0.cell 2⟩, by simpa using L1.cell 0, by simpa using L1.cell 1⟩)
  clear h K0 K1
  have PG := Lib.hid (callHd_good hk)
  have HD := Lib.hid (fun k => hdAt_good h8.1 h8.2 l kb ks t k)
  have H1 : Hid (Owned strE 1 9 (w1.alloc (.cells #[.string (roundsS st)] 9)) w1.heap.size (some ⟨w1.heap.size, 0, none⟩) 1 1 (hdsL st l kb ks t 1)) := Lib.hid ⟨strE_len, by simp [hdsL], by simpa [hdsL, hdAt, strE] using World.ownsRow_lit (e := 9) (base := w1.heap.size) (size := 1) w1 #[.string (roundsS st)] 1 (Nat.le_refl _) (by decide) (by simp)⟩
  refine (spec_l1Rounds h8.2).mono ?_; rintro e w' ⟨rfl, rfl⟩
  go_wp2
  go_loopw [7, 8, 9] (fun r v i wr => ∃ (k : Nat) (A' : Option Addr) (m c' : Nat), k ≤ t.size ∧ i = .int .i64 k ∧ r = .string (hdAt st l kb ks t k) ∧ v = .slice A' m c' ∧ m = k + 1 ∧ Owned strE 1 9 wr w1.heap.size A' m c' (hdsL st l kb ks t (k + 1)) ∧ Below w1.heap.size w1 wr) (fun _ _ i _ => t.size - (intOf i).toNat)
  case atStart => exact ⟨0, _, _, _, Nat.zero_le _, rfl, rfl, rfl, rfl, H1.out, by (repeat' (first | (with_reducible exact Below.refl _ _) | (with_reducible assumption) | (with_reducible refine below_drewN ?_ _) | (with_reducible refine Below.drew ?_) | (with_reducible refine below_alloc ?_ _) | (with_reducible refine Below.alloc ?_ ?_ _) | (with_reducible refine Below.setCell ?_ ?_ _) | (with_reducible refine below_go ?_ (by with_reducible assumption)) | (with_reducible refine below_then (by with_reducible assumption) ?_ ?_) | go_size))⟩
  case round =>
    obtain ⟨k, A', m, c', hk1, rfl, rfl, rfl, rfl, ho, hb⟩ := hrel
    have HO := Lib.hid ho
    have hsz := hb.size
    clear ho
    by_cases hlt : k < t.size
    · have p1 := PG.out (letter t k)
      have p2 := HD.out k
      have z1 : (hdAt st l kb ks t k).size ≤ 16777216 := by rw [p2.2]; omega
      have z2 : (callHd st l kb ks (letter t k)).size ≤ 16777216 := by rw [p1.2]; omega
      have hf : fits (hdAt st l kb ks t k) (callHd st l kb ks (letter t k)) := fits_good p1.1 (by rw [p1.2, p2.2])
      have E := Lib.hid (show timesS (hdAt st l kb ks t k) (callHd st l kb ks (letter t k)) = hdAt st l kb ks t (k + 1) from rfl)
      have HT := Lib.hid (hdsL_succ st l kb ks t (k + 1))
      clear p1 p2
      have hwk : IntKind.i64.wrap ((k : Int) + 1) = (k : Int) + 1 := wrap_id (by omega)
      have hb0 := hb
      have hle1 : (k : Int) + 1 ≤ (t.size : Int) := by omega
      have hle2 : (k : Int) ≤ (k : Int) + 1 := by omega
      have hle3 : (0 : Int) ≤ (k : Int) := by omega
      have HB := Lib.hid hb
      go_wp2_with fail
      go_region_held3 (fun u => (u.cell? ⟨w.heap.size, 0, none⟩ = some (.string nm) ∧ u.cell? ⟨w.heap.size, 1, none⟩ = some (.int .i64 st) ∧ u.cell? ⟨w.heap.size, 2, none⟩ = some (.slice A n c)) ∧ u.cell? ⟨w.heap.size + 1, 0, none⟩ = some (.string kb) ∧ u.cell? ⟨w.heap.size + 1, 1, none⟩ = some (.string ks)) (first | exact carry.out _ C2 | exact carry.out _ HB.out | exact carry.out _ HB.out.drew) (first | (go_at_call 31; refine (spec_l1Times z1 z2 hf).mono ?_; rw [E.out]; rintro e w' ⟨rfl, rfl⟩) | (go_at_call 62; refine (spec_l8Head (s := letter t k) hn ((H0.out.below HB.out (Nat.le_refl _)).drew) hk hcap).mono ?_; rintro e w2 ⟨rfl, hbd2⟩; have hb2 := below_of_drew hbd2; have C2 := HB.out.trans (hb2.mono HB.out.size); have HO1 := Lib.hid (HO.out.up hb2); have hsz1 := hb2.size))
      go_wp2_with (first | (at_builtin; go_must ((refine wpList_append_rec Tryz.elStr rfl (.tmp 31) (.tmp 33) rfl rfl (HO1.out.alloc _) (hdAt st l kb ks t (k + 1)) rfl (Box.at_ _ [.string (hdAt st l kb ks t (k + 1))] _ ?_) (strE_one _) ?_ (by decide) ?_ ?_; (focus (first | omega | (simp only [World.size_alloc]; done) | (simp only [World.size_alloc]; omega) | (simp; done) | (simp; omega))); (focus (first | omega | (simp only [World.size_alloc]; done) | (simp only [World.size_alloc]; omega) | (simp; done) | (simp; omega))); (focus (first | omega | (simp only [World.size_alloc]; done) | (simp only [World.size_alloc]; omega) | (simp; done) | (simp; omega))); intro A2 c2 w3 ho3 hg3 hb3))))
      go_roundw
      case rel => exact ⟨k + 1, A2, k + 1 + 1, c2, by omega, by go_num, rfl, by go_num, rfl, by rw [HT.out]; exact ho3, ((HB.out.trans (hb2.mono hsz)).alloc (by omega) _).trans hb3⟩
      case measure => simp [intOf]; omega
    · obtain rfl : k = t.size := by omega
      go_wp2
      go_ret
      exact ⟨_, _, rfl, HO.out.base_le b0.size, below_go b0 hb⟩
end Go.Proofs.YtidolgonmimicaaGreatDoor
/- The walks of chapter 10, the reference's side: the calling of a touch. -/
namespace Go.Proofs.YtidolgonmimicaaGreatDoor
set_option linter.unusedVariables false
set_option linter.unusedSimpArgs false
open Go.ChangeShapes Go.WideShapes Go.ChangeAt Go.RowKit Go.Deep
/-- Words joined. -/
def jnW (W : List ByteArray) : ByteArray := jnK W W.length
theorem jnK_pre (W R : List ByteArray) : ∀ k, k ≤ W.length → jnK (W ++ R) k = jnK W k
  | 0, _ => rfl
  | k + 1, h => by
    rw [jnK, jnK, jnK_pre W R k (by omega), List.getD, List.getD, List.getElem?_append_left (by omega)]
theorem jnW_nil : jnW [] = ⟨#[]⟩ := rfl
theorem jnW_snoc (W : List ByteArray) (x : ByteArray) : jnW (W ++ [x]) = if W.length = 0 then x else (jnW W ++ ⟨#[32]⟩) ++ x := by
  have hx : (W ++ [x])[W.length]? = some x := by simp
  rw [jnW, List.length_append, List.length_singleton]
  by_cases h : W.length = 0
  · rw [if_pos h, h]
    rw [h] at hx
    rw [jnK_1 hx, jnK_0]
    exact empty_app x
  · rw [if_neg h, jnK_more (by omega) hx, jnK_pre W [x] _ (Nat.le_refl _), jnW]
  where empty_app (x : ByteArray) : (⟨#[]⟩ : ByteArray) ++ x = x := baX (by simp)
theorem calS_jn (st : Nat) (l : List ByteArray) (kb ks : ByteArray) (bl : Nat) (t : ByteArray) : calS st l kb ks bl t = jnW (calW st l kb ks bl t) := rfl
theorem wd_jn {st : Nat} {l : List ByteArray} {kb ks : ByteArray} {bl : Nat} {T : ByteArray} (h3 : 3 ≤ st) (h8 : st ≤ 8) (h : goodT T = true) {i : Nat} (hi : i ≤ T.size) : (jnW (wdA st l kb ks bl T i).1).size ≤ 540 ∧ (0 < (wdA st l kb ks bl T i).1.length → 0 < (jnW (wdA st l kb ks bl T i).1).size) := by
  have hno := wd_no (l := l) (kb := kb) (ks := ks) (bl := bl) h3 h8 h i hi
  have h1 := jnK_size (fun s hs => Nat.le_trans (hno s hs).2 (by decide)) (wdA st l kb ks bl T i).1.length (Nat.le_refl _)
  have h2 := wdA_len (st := st) (l := l) (kb := kb) (ks := ks) (bl := bl) (t := T) i
  have h60 := (goodT_t h).2.1
  refine ⟨by rw [jnW]; omega, fun hp => ?_⟩
  have hpos : ∀ i, ∀ y ∈ (wdA st l kb ks bl T i).1, 0 < y.size := by
    intro i
    induction i with
    | zero => intro y hy; cases hy
    | succ i ih =>
      intro y hy
      rcases hc : isP (letter T i)
      · rw [wdA_call hc] at hy
        rcases List.mem_append.1 hy with q | q
        · exact ih y q
        · rw [List.mem_singleton.1 q, sz_list, item_list, List.length_append, tailL, List.length_append]
          have := dec_pos (plI st l kb ks bl T i)
          omega
      · rw [wdA_p hc] at hy; exact ih y hy
  rcases List.eq_nil_or_concat (wdA st l kb ks bl T i).1 with e | ⟨W, x, e⟩
  · rw [e] at hp; simp at hp
  · have hx := hpos i x (by rw [e]; simp)
    rw [e, List.concat_eq_append, jnW_snoc]
    split
    · exact hx
    · rw [ByteArray.size_append]; omega
theorem row_lo {r : ByteArray} {n : Nat} (hr : RowN n r) {k : Nat} (hk : k < n) : 49 ≤ PlainAid.bt r k ∧ PlainAid.bt r k ≤ 57 := by
  have := row_at hr.1 (i := k) (by rw [hr.2]; exact hk)
  have h8 := hr.st
  have hs := hr.2
  omega
set_option maxRecDepth 100000 in
theorem spec_l5Place {r : ByteArray} {n bl : Nat} {w : World} (hr : RowN n r) (hb : bl ≤ 100) :
    Calls Tryz.prog 70 #[.string r, .int .i64 bl] w fun e w' => e = .returned (.int .i64 (plc r bl : Nat)) ∧ w = w' := by
  have hn := hr.2
  have h8 := hr.st.2
  have HR := Lib.hid hr
  subst hn
  clear hr
  go_in
  go_wp2
  go_loopw [5] (fun i wr => ∃ k : Nat, k ≤ r.size ∧ i = .int .i64 ((k : Int) + 1) ∧ Hid (∀ j, j < k → PlainAid.bt r j ≠ 48 + (bl : Int)) ∧ w = wr) (fun i _ => r.size + 1 - (intOf i).toNat)
  case atStart => exact ⟨0, Nat.zero_le _, by go_num, Lib.hid (fun j hj => absurd hj (by omega)), rfl⟩
  case round =>
    obtain ⟨k, hk, rfl, HK, rfl⟩ := hrel
    by_cases hlt : k < r.size
    · have hI : (k : Int) + 1 ≤ (r.size : Int) := by omega
      have hlo := row_lo HR.out hlt
      go_wp2_with fail
      refine (spec_l1At hlt (by omega) (by omega)).mono ?_; rintro e w' ⟨rfl, rfl⟩
      by_cases hc : PlainAid.bt r k = 48 + (bl : Int)
      · have e1 := Lib.hid (plc_at hlt HK.out hc)
        have hq : (PlainAid.bt r k - 48 == (bl : Int)) = true := by rw [beq_iff_eq]; omega
        have hq2 : PlainAid.bt r k - 48 = (bl : Int) := by omega
        clear hc
        go_wp2
        go_ret
        rw [e1.out]
        exact ⟨rfl, rfl⟩
      · have HK2 := Lib.hid (upto_succ (p := fun j => PlainAid.bt r j ≠ 48 + (bl : Int)) HK.out hc)
        have hq : (PlainAid.bt r k - 48 == (bl : Int)) = false := by rw [beq_eq_false_iff_ne]; omega
        have hq2 : ¬ PlainAid.bt r k - 48 = (bl : Int) := by omega
        clear hc
        go_wp2
        go_roundw
        case rel => exact ⟨k + 1, by omega, by go_num, HK2, trivial⟩
        case measure => simp [intOf]; omega
    · have hI : ¬ (k : Int) + 1 ≤ (r.size : Int) := by omega
      have e1 := Lib.hid (plc_none (r := r) (bl := bl) (fun j hj => HK.out j (by omega)))
      go_wp2
      go_ret
      rw [e1.out]
      exact ⟨rfl, rfl⟩
set_option maxHeartbeats 1000000 in
theorem spec_l10Place {A : Option Addr} {n c st : Nat} {nm : ByteArray} {l : List ByteArray} {kb ks : ByteArray} {h0 s : ByteArray} {bl : Nat} {w : World} (hn : l.length = n) (h : Strs w A l) (hk : goodK nm (st : Int) l kb ks = true) (hcap : n ≤ c) (hh : RowN st h0) (hb : bl ≤ 100) :
    Calls Tryz.prog 48 #[.agg #[.string nm, .int .i64 st, .slice A n c], .agg #[.string kb, .string ks], .string h0, .string s, .int .i64 bl] w fun e w' => e = .returned (.int .i64 (plA st l kb ks bl h0 s : Nat)) ∧ Below w.heap.size w w' := by
  have b0 : Below w.heap.size w ((w.alloc (.cells ⟨[.string nm, .int .i64 st, .slice A n c]⟩ 25)).alloc (.cells ⟨[.string kb, .string ks]⟩ 27)) := by (repeat' (first | (with_reducible exact Below.refl _ _) | (with_reducible assumption) | (with_reducible refine below_drewN ?_ _) | (with_reducible refine Below.drew ?_) | (with_reducible refine below_alloc ?_ _) | (with_reducible refine Below.alloc ?_ ?_ _) | (with_reducible refine Below.setCell ?_ ?_ _) | (with_reducible refine below_go ?_ (by with_reducible assumption)) | (with_reducible refine below_then (by with_reducible assumption) ?_ ?_) | go_size))
  have h38 := (goodK_all hk).1
  have hcr : RowN st (callHd st l kb ks s) := callHd_good hk s
  have hft := rowN_fits hh hcr
  have hz1 : h0.size ≤ 16777216 := by rw [hh.2]; omega
  have hz2 : (callHd st l kb ks s).size ≤ 16777216 := by rw [hcr.2]; omega
  have HT := Lib.hid (hh.times hcr)
  go_in
  go_wp2_with fail
  refine (spec_l8Head hn (h.up b0) hk hcap).mono ?_; rintro e w1 ⟨rfl, hb1⟩
  go_wp2_with fail
  refine (spec_l1Times hz1 hz2 hft).mono ?_; rintro e w' ⟨rfl, rfl⟩
  go_wp2_with fail
  refine (spec_l5Place HT.out hb).mono ?_; rintro e w' ⟨rfl, rfl⟩
  go_wp2
  go_ret
  exact ⟨rfl, below_go b0 hb1⟩
set_option maxHeartbeats 1000000 in
theorem spec_l9End {A : Option Addr} {n c st : Nat} {nm : ByteArray} {l : List ByteArray} {kb ks : ByteArray} {t : ByteArray} {w : World} (hn : l.length = n) (h : Strs w A l) (hk : goodK nm (st : Int) l kb ks = true) (hg : goodT t = true) (hcap : n ≤ c) :
    Calls Tryz.prog 32 #[.agg #[.string nm, .int .i64 st, .slice A n c], .agg #[.string kb, .string ks], .string t] w fun e w' => e = .returned (.string (hdAt st l kb ks t t.size)) ∧ Below w.heap.size w w' := by
  have b0 : Below w.heap.size w ((w.alloc (.cells ⟨[.string nm, .int .i64 st, .slice A n c]⟩ 25)).alloc (.cells ⟨[.string kb, .string ks]⟩ 27)) := by (repeat' (first | (with_reducible exact Below.refl _ _) | (with_reducible assumption) | (with_reducible refine below_drewN ?_ _) | (with_reducible refine Below.drew ?_) | (with_reducible refine below_alloc ?_ _) | (with_reducible refine Below.alloc ?_ ?_ _) | (with_reducible refine Below.setCell ?_ ?_ _) | (with_reducible refine below_go ?_ (by with_reducible assumption)) | (with_reducible refine below_then (by with_reducible assumption) ?_ ?_) | go_size))
  have hH := Lib.hid (hdsL_at (st := st) (l := l) (b := kb) (s := ks) (t := t) (k := t.size + 1) (j := t.size) (by omega))
  have hts : t.size ≤ 60 := (goodT_t hg).2.1
  go_in
  go_wp2_with fail
  refine (spec_l9Heads hn (h.up b0) hk hg hcap).mono ?_; rintro e w1 ⟨A1, c1, rfl, ho, hb1⟩
  obtain ⟨g, rfl, _, _, gc, _⟩ := ho.at_ (by omega)
  have cg := gc t.size _ 0 _ hH.out rfl
  simp only [Nat.mul_one, Nat.add_zero] at cg
  have hI : (t.size : Int) < ((t.size + 1 : Nat) : Int) := by omega
  clear gc
  go_wp2
  go_ret
  exact ⟨rfl, below_go b0 hb1⟩
end Go.Proofs.YtidolgonmimicaaGreatDoor
/- The walks of chapter 10, the reference's side: the text of a calling. -/
namespace Go.Proofs.YtidolgonmimicaaGreatDoor
set_option linter.unusedVariables false
set_option linter.unusedSimpArgs false
open Go.ChangeShapes Go.WideShapes Go.ChangeAt Go.RowKit Go.Deep
theorem dec_sz3 {n : Nat} (h : n ≤ 60) : (decS n).size ≤ 2 := by
  have := dec_len2 h
  rw [sz_list]
  simpa [decS] using this
theorem spec_empty_app (x : ByteArray) : (⟨#[]⟩ : ByteArray) ++ x = x := baX (by simp)
theorem spec_app_empty (x : ByteArray) : x ++ (⟨#[]⟩ : ByteArray) = x := baX (by simp)
set_option maxHeartbeats 8000000 in
set_option maxRecDepth 100000 in
theorem spec_l10Calling {A : Option Addr} {n c st : Nat} {nm : ByteArray} {l : List ByteArray} {kb ks : ByteArray} {t : ByteArray} {bl : Nat} {w : World} (hn : l.length = n) (h : Strs w A l) (hk : goodK nm (st : Int) l kb ks = true) (hg : goodT t = true) (hcap : n ≤ c) (hb : bl ≤ 100) :
    Calls Tryz.prog 19 #[.agg #[.string nm, .int .i64 st, .slice A n c], .agg #[.string kb, .string ks], .string t, .int .i64 bl] w fun e w' => e = .returned (.string (calS st l kb ks bl t)) ∧ Below w.heap.size w w' := by
  have b0 : Below w.heap.size w ((w.alloc (.cells ⟨[.string nm, .int .i64 st, .slice A n c]⟩ 25)).alloc (.cells ⟨[.string kb, .string ks]⟩ 27)) := by (repeat' (first | (with_reducible exact Below.refl _ _) | (with_reducible assumption) | (with_reducible refine below_drewN ?_ _) | (with_reducible refine Below.drew ?_) | (with_reducible refine below_alloc ?_ _) | (with_reducible refine Below.alloc ?_ ?_ _) | (with_reducible refine Below.setCell ?_ ?_ _) | (with_reducible refine below_go ?_ (by with_reducible assumption)) | (with_reducible refine below_then (by with_reducible assumption) ?_ ?_) | go_size))
  have K0 := (Blk.at_ w 25 [.string nm, .int .i64 st, .slice A n c] (b := w.heap.size) rfl).alloc (.cells ⟨[.string kb, .string ks]⟩ 27)
  have J0 := Blk.at_ (w.alloc (.cells ⟨[.string nm, .int .i64 st, .slice A n c]⟩ 25)) 27 [.string kb, .string ks] (b := w.heap.size + 1) (by simp)
  have h38 := (goodK_all hk).1
  have HK := Lib.hid hk
  have HG := Lib.hid hg
  have hts : 1 ≤ t.size ∧ t.size ≤ 60 := ⟨(goodT_t hg).1, (goodT_t hg).2.1⟩
  have HR := Lib.hid (fun j => (hdAt_good h38.1 h38.2 l kb ks t j : RowN st (hdAt st l kb ks t j)))
  have HJ := Lib.hid (fun (i : Nat) (hi : i ≤ t.size) => wd_jn (l := l) (kb := kb) (ks := ks) (bl := bl) h38.1 h38.2 hg hi)
  have HWL := Lib.hid (fun i => wdA_le (st := st) (l := l) (kb := kb) (ks := ks) (bl := bl) (t := t) i)
  have HPL := Lib.hid (fun i => plI_le (l := l) (kb := kb) (ks := ks) (bl := bl) (T := t) h38.1 h38.2 i)
  have HWP := Lib.hid (fun i => @wdA_p st l kb ks bl t i)
  have HWC := Lib.hid (fun i => @wdA_call st l kb ks bl t i)
  have HCS := Lib.hid (calS_jn st l kb ks bl t)
  have H0 := h.up b0
  have HHD := Lib.hid (fun j (hj : j < t.size + 1) => hdsL_at (st := st) (l := l) (b := kb) (s := ks) (t := t) (k := t.size + 1) (j := j) hj)
  clear hg
  go_in
  go_wp2_with fail
  refine (spec_l9Heads hn H0 hk HG.out hcap).mono ?_; rintro e w1 ⟨A1, c1, rfl, ho, hb1⟩
  obtain ⟨g, rfl, g0, g1, gc, _⟩ := ho.at_ (by omega)
  obtain ⟨M, hM⟩ : ∃ u, u = t.size + 1 := ⟨_, rfl⟩
  have hM1 : t.size < M := by omega
  rw [← hM]
  clear hM
  have HCG := Lib.hid (fun j (hj : j < t.size + 1) => show w1.cell? ⟨g, j, none⟩ = some (.string (hdAt st l kb ks t j)) from by simpa using gc j _ 0 _ (HHD.out j hj) rfl)
  have B1 := below_go b0 hb1
  have K1 := K0.up hb1
  have J1 := J0.up hb1
  have HH1 := Lib.hid (H0.up hb1)
  have carry : Hid (∀ u : World, Below w1.heap.size w1 u → u.cell? ⟨w.heap.size, 0, none⟩ = some (.string nm) ∧ u.cell? ⟨w.heap.size, 1, none⟩ = some (.int .i64 (st : Int)) ∧ u.cell? ⟨w.heap.size, 2, none⟩ = some (.slice A n c) ∧ u.cell? ⟨w.heap.size + 1, 0, none⟩ = some (.string kb) ∧ u.cell? ⟨w.heap.size + 1, 1, none⟩ = some (.string ks)) := Lib.hid (fun u hu => by
    have L0 := K1.up hu
    have L1 := J1.up hu
    exact ⟨by simpa using L0.cell 0, by simpa using L0.cell 1, by simpa using L0.cell 2, by simpa using L1.cell 0, by simpa using L1.cell 1⟩)
  have carG : Hid (∀ (u : World) (j : Nat), Below w1.heap.size w1 u → j < t.size + 1 → u.cell? ⟨g, j, none⟩ = some (.string (hdAt st l kb ks t j))) := Lib.hid (fun u j hu hj => by
    have h1 := HCG.out j hj
    rw [← h1]
    exact (grown_of_below hu).cell_far ⟨g, j, none⟩ g1 (by simp))
  clear gc ho K0 J0 K1 J1 H0 h b0 hb1 HCG HHD
  go_wp2
  go_loopw [10, 11, 12] (fun v s i wr => ∃ k : Nat, k ≤ t.size ∧ v = .string (jnW (wdA st l kb ks bl t k).1) ∧ s = .int .i64 ((wdA st l kb ks bl t k).2 : Nat) ∧ i = .int .i64 k ∧ Hid (Below w1.heap.size w1 wr)) (fun _ _ i _ => t.size - (intOf i).toNat)
  case atStart => exact ⟨0, Nat.zero_le _, rfl, rfl, rfl, Lib.hid (Below.refl _ _)⟩
  case round =>
    obtain ⟨k, hk1, rfl, rfl, rfl, HB⟩ := hrel
    rename World => wo
    have hJ := HJ.out k hk1
    have ha := HWL.out k
    have HW2 := HWP.out k
    have HW3 := HWC.out k
    obtain ⟨W, hW⟩ : ∃ u, u = (wdA st l kb ks bl t k).1 := ⟨_, rfl⟩
    obtain ⟨a, haa⟩ : ∃ u, u = (wdA st l kb ks bl t k).2 := ⟨_, rfl⟩
    rw [← haa] at ha HW3 ⊢
    rw [← hW] at hJ HW3 ⊢
    have HWW := Lib.hid (show wdA st l kb ks bl t k = (W, a) by rw [hW, haa])
    have HSN := Lib.hid (jnW_snoc W (itemA st l kb ks bl t k a))
    have HWN := Lib.hid (fun (e : W.length = 0) => show jnW W = ⟨#[]⟩ by rw [List.length_eq_zero_iff.1 e]; rfl)
    obtain ⟨S0, hS0⟩ : ∃ u, u = jnW W := ⟨_, rfl⟩
    rw [← hS0] at hJ HSN HWN ⊢
    have hS540 := hJ.1
    have HSP := Lib.hid hJ.2
    have HS0 := Lib.hid hS0
    have HWP2 := Lib.hid HW2
    have HWC2 := Lib.hid HW3
    clear hW haa hS0 hJ HW2 HW3
    by_cases hlt : k < t.size
    · have hI : (k : Int) < (t.size : Int) := by omega
      have hI2 : (k : Int) + 1 ≤ (t.size : Int) := by omega
      rcases hp : isP (letter t k)
      · have hpx : ((t.extract k (k + 1)).toList == [112]) = false := hp
        have HP := Lib.hid hp
        have c0 := (carry.out _ HB.out).1; have c1' := (carry.out _ HB.out).2.1; have c2 := (carry.out _ HB.out).2.2.1; have c3 := (carry.out _ HB.out).2.2.2.1; have c4 := (carry.out _ HB.out).2.2.2.2
        have c5 := carG.out _ k HB.out (by omega)
        have HHo := Lib.hid (HH1.out.up HB.out)
        have hJ1 : (k : Int) < (M : Int) := by omega
        have hJ0 : (0 : Int) ≤ (k : Int) := by omega
        have hJ2 : k < M := by omega
        clear hp
        have carO : Hid (∀ u : World, Below wo.heap.size wo u → u.cell? ⟨w.heap.size, 0, none⟩ = some (.string nm) ∧ u.cell? ⟨w.heap.size, 1, none⟩ = some (.int .i64 (st : Int)) ∧ u.cell? ⟨w.heap.size, 2, none⟩ = some (.slice A n c) ∧ u.cell? ⟨w.heap.size + 1, 0, none⟩ = some (.string kb) ∧ u.cell? ⟨w.heap.size + 1, 1, none⟩ = some (.string ks) ∧ u.cell? ⟨g, k, none⟩ = some (.string (hdAt st l kb ks t k))) := Lib.hid (fun u hu => by
          have h1 := below_go HB.out hu
          obtain ⟨q0, q1, q2, q3, q4⟩ := carry.out u h1
          exact ⟨q0, q1, q2, q3, q4, carG.out u k h1 (by omega)⟩)
        go_upto_region 9 with fail
        refine wp_region_held_drew (S := fun u => u.cell? ⟨w.heap.size, 0, none⟩ = some (.string nm) ∧ u.cell? ⟨w.heap.size, 1, none⟩ = some (.int .i64 (st : Int)) ∧ u.cell? ⟨w.heap.size, 2, none⟩ = some (.slice A n c) ∧ u.cell? ⟨w.heap.size + 1, 0, none⟩ = some (.string kb) ∧ u.cell? ⟨w.heap.size + 1, 1, none⟩ = some (.string ks) ∧ u.cell? ⟨g, k, none⟩ = some (.string (hdAt st l kb ks t k))) (by kernel_rfl) (carO.out _ (Below.refl _ _).drew) (fun hHeld => ?_)
        refine wpAnyH_take (i := 0) (oi := { dst := some 34, op := _, type := _, pos := _, after := _, guard := _ }) (v := ?_) rfl (by kernel_rfl) (by kernel_rfl) (by kernel_rfl) (fun _ _ _ h => h) (Or.inl ⟨by rfl, ?_⟩) (by assumption) ?_
        rotate_left
        · (intro w hSw; (try dsimp only at hSw); go_simp) <;> with_reducible rfl
        (try simp only [Act.put, List.setIfInBounds_toArray, List.set_cons_zero, List.set_cons_succ])
        refine wpAnyH_take (i := 1) (oi := { dst := some 35, op := _, type := _, pos := _, after := _, guard := _ }) (v := ?_) rfl (by kernel_rfl) (by kernel_rfl) (by kernel_rfl) (fun _ _ _ h => h) (Or.inl ⟨by rfl, ?_⟩) (by assumption) ?_
        rotate_left
        · (intro w hSw; (try dsimp only at hSw); go_simp) <;> with_reducible rfl
        (try simp only [Act.put, List.setIfInBounds_toArray, List.set_cons_zero, List.set_cons_succ])
        refine wpAnyH_take (i := 2) (oi := { dst := some 36, op := _, type := _, pos := _, after := _, guard := _ }) (v := ?_) rfl (by kernel_rfl) (by kernel_rfl) (by kernel_rfl) (fun _ _ _ h => h) (Or.inl ⟨by rfl, ?_⟩) (by assumption) ?_
        rotate_left
        · (intro w hSw; (try dsimp only at hSw); go_simp) <;> with_reducible rfl
        (try simp only [Act.put, List.setIfInBounds_toArray, List.set_cons_zero, List.set_cons_succ])
        refine wpAnyH_take (i := 3) (oi := { dst := some 37, op := _, type := _, pos := _, after := _, guard := _ }) (v := ?_) rfl (by kernel_rfl) (by kernel_rfl) (by kernel_rfl) (fun _ _ _ h => h) (Or.inl ⟨by rfl, ?_⟩) (by assumption) ?_
        rotate_left
        · (intro w hSw; (try dsimp only at hSw); go_simp) <;> with_reducible rfl
        (try simp only [Act.put, List.setIfInBounds_toArray, List.set_cons_zero, List.set_cons_succ])
        refine wpAnyH_take (i := 4) (oi := { dst := some 38, op := _, type := _, pos := _, after := _, guard := _ }) (v := ?_) rfl (by kernel_rfl) (by kernel_rfl) (by kernel_rfl) (fun _ _ _ h => h) (Or.inl ⟨by rfl, ?_⟩) (by assumption) ?_
        rotate_left
        · (intro w hSw; (try dsimp only at hSw); go_simp) <;> with_reducible rfl
        (try simp only [Act.put, List.setIfInBounds_toArray, List.set_cons_zero, List.set_cons_succ])
        refine wpAnyH_take (i := 5) (oi := { dst := some 39, op := _, type := _, pos := _, after := _, guard := _ }) (v := ?_) rfl (by kernel_rfl) (by kernel_rfl) (by kernel_rfl) (fun _ _ _ h => h) (Or.inl ⟨by rfl, ?_⟩) (by assumption) ?_
        rotate_left
        · (intro w hSw; (try dsimp only at hSw); go_simp) <;> with_reducible rfl
        (try simp only [Act.put, List.setIfInBounds_toArray, List.set_cons_zero, List.set_cons_succ])
        refine wpAnyH_take (i := 6) (oi := { dst := some 40, op := _, type := _, pos := _, after := _, guard := _ }) (v := ?_) rfl (by kernel_rfl) (by kernel_rfl) (by kernel_rfl) (fun _ _ _ h => h) (Or.inl ⟨by rfl, ?_⟩) (by assumption) ?_
        rotate_left
        · (intro w hSw; (try dsimp only at hSw); go_simp) <;> with_reducible rfl
        (try simp only [Act.put, List.setIfInBounds_toArray, List.set_cons_zero, List.set_cons_succ])
        refine wpAnyH_take (i := 7) (oi := { dst := some 41, op := _, type := _, pos := _, after := _, guard := _ }) (v := ?_) rfl (by kernel_rfl) (by kernel_rfl) (by kernel_rfl) (fun _ _ _ h => h) (Or.inl ⟨by rfl, ?_⟩) (by assumption) ?_
        rotate_left
        · (intro w hSw; (try dsimp only at hSw); go_simp) <;> with_reducible rfl
        (try simp only [Act.put, List.setIfInBounds_toArray, List.set_cons_zero, List.set_cons_succ])
        refine wpAnyH_ready (rs := [8]) (by kernel_rfl) (by simp) ?_
        refine AllReadyH.cons (o := _) rfl (fun K hK => ?_) AllReadyH.nil
        go_simp
        refine (spec_l10Place (s := letter t k) hn HHo.out.drew HK.out hcap (HR.out k) hb).mono ?_; rintro e w2 ⟨rfl, hbd⟩
        have hbZ := below_of_drew hbd
        try go_wp2_with fail
        refine hK.out _ _ (carO.out _ hbZ) (fun hHeld => ?_)
        clear hK K
        (try simp only [Act.put, List.setIfInBounds_toArray, List.set_cons_zero, List.set_cons_succ])
        refine wpAnyH_take (i := 9) (oi := { dst := some 14, op := _, type := _, pos := _, after := _, guard := _ }) (v := ?_) rfl (by kernel_rfl) (by kernel_rfl) (by kernel_rfl) (fun _ _ _ h => h) (Or.inl ⟨by rfl, ?_⟩) (by assumption) ?_
        rotate_left
        · (intro w hSw; (try dsimp only at hSw); go_simp) <;> with_reducible rfl
        (try simp only [Act.put, List.setIfInBounds_toArray, List.set_cons_zero, List.set_cons_succ])
        refine wpAnyH_done (by kernel_rfl) ?_ _
        (try simp only [Act.put, List.setIfInBounds_toArray, List.set_cons_zero, List.set_cons_succ])
        have HB2 := Lib.hid (below_go HB.out hbZ)
        obtain ⟨C, hC⟩ : ∃ u, u = letter t k := ⟨_, rfl⟩
        have hpl := HPL.out k
        rw [show plI st l kb ks bl t k = plA st l kb ks bl (hdAt st l kb ks t k) (letter t k) from rfl] at hpl
        obtain ⟨p, hpp⟩ : ∃ u, u = plA st l kb ks bl (hdAt st l kb ks t k) (letter t k) := ⟨_, rfl⟩
        rw [← hpp] at hpl ⊢
        have HPP := Lib.hid hpp
        have HC := Lib.hid hC
        have hC1 : (t.extract k (k + 1)).size = 1 := by rw [ByteArray.size_extract]; omega
        clear hbZ hbd hpp hC c0 c1' c2 c3 c4 c5 carO HHo hHeld
        go_wp2
        go_loopw [15, 16] (fun v j wr => ∃ i : Nat, a ≤ i ∧ i ≤ k ∧ v = .int .i64 (cntA st l kb ks bl t (letter t k) p a (i - a) : Nat) ∧ j = .int .i64 i ∧ Hid (Below w1.heap.size w1 wr)) (fun _ j _ => k - (intOf j).toNat)
        case atStart => exact ⟨a, Nat.le_refl _, ha, by rw [Nat.sub_self, cntA_zero]; rfl, rfl, HB2⟩
        case round =>
          obtain ⟨j, hj1, hj2, rfl, rfl, HBj⟩ := hrel
          rename World => wq
          have hcl := cntA_le (st := st) (l := l) (kb := kb) (ks := ks) (bl := bl) (t := t) (letter t k) p a (j - a)
          obtain ⟨N, hN⟩ : ∃ u, u = cntA st l kb ks bl t (letter t k) p a (j - a) := ⟨_, rfl⟩
          rw [← hN] at hcl ⊢
          have HN := Lib.hid hN
          have hN60 : N ≤ 60 := by omega
          clear hN hcl
          by_cases hjt : j < k
          · have hIj : (j : Int) < (k : Int) := by omega
            have hJ1' : (j : Int) < (M : Int) := by omega
            have hJ0' : (0 : Int) ≤ (j : Int) := by omega
            have hJ2' : j < M := by omega
            have HHq := Lib.hid (HH1.out.up HBj.out)
            have carQ : Hid (∀ u : World, Below wq.heap.size wq u → u.cell? ⟨w.heap.size, 0, none⟩ = some (.string nm) ∧ u.cell? ⟨w.heap.size, 1, none⟩ = some (.int .i64 (st : Int)) ∧ u.cell? ⟨w.heap.size, 2, none⟩ = some (.slice A n c) ∧ u.cell? ⟨w.heap.size + 1, 0, none⟩ = some (.string kb) ∧ u.cell? ⟨w.heap.size + 1, 1, none⟩ = some (.string ks) ∧ u.cell? ⟨g, j, none⟩ = some (.string (hdAt st l kb ks t j))) := Lib.hid (fun u hu => by
              have h1 := below_go HBj.out hu
              obtain ⟨q0, q1, q2, q3, q4⟩ := carry.out u h1
              exact ⟨q0, q1, q2, q3, q4, carG.out u j h1 (by omega)⟩)
            have d0 := (carQ.out _ (Below.refl _ _)).1; have d1 := (carQ.out _ (Below.refl _ _)).2.1; have d2 := (carQ.out _ (Below.refl _ _)).2.2.1; have d3 := (carQ.out _ (Below.refl _ _)).2.2.2.1; have d4 := (carQ.out _ (Below.refl _ _)).2.2.2.2.1; have d5 := (carQ.out _ (Below.refl _ _)).2.2.2.2.2
            have HCS := Lib.hid (cntA_succ (st := st) (l := l) (kb := kb) (ks := ks) (bl := bl) (t := t) (letter t k) p a (j - a))
            have hja : a + (j - a) = j := by omega
            have hja2 : j - a + 1 = j + 1 - a := by omega
            have HCS : Hid (cntA st l kb ks bl t (letter t k) p a (j + 1 - a) = N + (if hitA st l kb ks bl t (letter t k) p j = true then 1 else 0)) := Lib.hid (by
              have h1 := HCS.out
              rw [hja, hja2, ← HN.out] at h1
              exact h1)
            clear hja hja2
            have HHIT : Hid (hitA st l kb ks bl t (letter t k) p j = decide (plA st l kb ks bl (hdAt st l kb ks t j) (letter t k) = p)) := Lib.hid rfl
            obtain ⟨q, hqq⟩ : ∃ u, u = plA st l kb ks bl (hdAt st l kb ks t j) (letter t k) := ⟨_, rfl⟩
            rw [← hqq] at HHIT
            have HQ := Lib.hid hqq
            clear hqq
            by_cases hqp : q = p
            · have e1 := Lib.hid (show cntA st l kb ks bl t (letter t k) p a (j + 1 - a) = N + 1 by rw [HCS.out, HHIT.out, decide_eq_true hqp, if_pos rfl])
              have hb1 : ((q : Int) == (p : Int)) = true := by rw [beq_iff_eq]; omega
              clear hqp HHIT
              go_upto_region 14 with fail
              refine wp_region_held_drew (S := fun u => u.cell? ⟨w.heap.size, 0, none⟩ = some (.string nm) ∧ u.cell? ⟨w.heap.size, 1, none⟩ = some (.int .i64 (st : Int)) ∧ u.cell? ⟨w.heap.size, 2, none⟩ = some (.slice A n c) ∧ u.cell? ⟨w.heap.size + 1, 0, none⟩ = some (.string kb) ∧ u.cell? ⟨w.heap.size + 1, 1, none⟩ = some (.string ks) ∧ u.cell? ⟨g, j, none⟩ = some (.string (hdAt st l kb ks t j))) (by kernel_rfl) (carQ.out _ (Below.refl _ _).drew) (fun hHeld => ?_)
              refine wpAnyH_take (i := 0) (oi := { dst := some 49, op := _, type := _, pos := _, after := _, guard := _ }) (v := ?_) rfl (by kernel_rfl) (by kernel_rfl) (by kernel_rfl) (fun _ _ _ h => h) (Or.inl ⟨by rfl, ?_⟩) (by assumption) ?_
              rotate_left
              · (intro w hSw; (try dsimp only at hSw); go_simp) <;> with_reducible rfl
              (try simp only [Act.put, List.setIfInBounds_toArray, List.set_cons_zero, List.set_cons_succ])
              refine wpAnyH_take (i := 1) (oi := { dst := some 50, op := _, type := _, pos := _, after := _, guard := _ }) (v := ?_) rfl (by kernel_rfl) (by kernel_rfl) (by kernel_rfl) (fun _ _ _ h => h) (Or.inl ⟨by rfl, ?_⟩) (by assumption) ?_
              rotate_left
              · (intro w hSw; (try dsimp only at hSw); go_simp) <;> with_reducible rfl
              (try simp only [Act.put, List.setIfInBounds_toArray, List.set_cons_zero, List.set_cons_succ])
              refine wpAnyH_take (i := 2) (oi := { dst := some 51, op := _, type := _, pos := _, after := _, guard := _ }) (v := ?_) rfl (by kernel_rfl) (by kernel_rfl) (by kernel_rfl) (fun _ _ _ h => h) (Or.inl ⟨by rfl, ?_⟩) (by assumption) ?_
              rotate_left
              · (intro w hSw; (try dsimp only at hSw); go_simp) <;> with_reducible rfl
              (try simp only [Act.put, List.setIfInBounds_toArray, List.set_cons_zero, List.set_cons_succ])
              refine wpAnyH_take (i := 3) (oi := { dst := some 52, op := _, type := _, pos := _, after := _, guard := _ }) (v := ?_) rfl (by kernel_rfl) (by kernel_rfl) (by kernel_rfl) (fun _ _ _ h => h) (Or.inl ⟨by rfl, ?_⟩) (by assumption) ?_
              rotate_left
              · (intro w hSw; (try dsimp only at hSw); go_simp) <;> with_reducible rfl
              (try simp only [Act.put, List.setIfInBounds_toArray, List.set_cons_zero, List.set_cons_succ])
              refine wpAnyH_take (i := 4) (oi := { dst := some 53, op := _, type := _, pos := _, after := _, guard := _ }) (v := ?_) rfl (by kernel_rfl) (by kernel_rfl) (by kernel_rfl) (fun _ _ _ h => h) (Or.inl ⟨by rfl, ?_⟩) (by assumption) ?_
              rotate_left
              · (intro w hSw; (try dsimp only at hSw); go_simp) <;> with_reducible rfl
              (try simp only [Act.put, List.setIfInBounds_toArray, List.set_cons_zero, List.set_cons_succ])
              refine wpAnyH_take (i := 5) (oi := { dst := some 54, op := _, type := _, pos := _, after := _, guard := _ }) (v := ?_) rfl (by kernel_rfl) (by kernel_rfl) (by kernel_rfl) (fun _ _ _ h => h) (Or.inl ⟨by rfl, ?_⟩) (by assumption) ?_
              rotate_left
              · (intro w hSw; (try dsimp only at hSw); go_simp) <;> with_reducible rfl
              (try simp only [Act.put, List.setIfInBounds_toArray, List.set_cons_zero, List.set_cons_succ])
              refine wpAnyH_take (i := 6) (oi := { dst := some 55, op := _, type := _, pos := _, after := _, guard := _ }) (v := ?_) rfl (by kernel_rfl) (by kernel_rfl) (by kernel_rfl) (fun _ _ _ h => h) (Or.inl ⟨by rfl, ?_⟩) (by assumption) ?_
              rotate_left
              · (intro w hSw; (try dsimp only at hSw); go_simp) <;> with_reducible rfl
              (try simp only [Act.put, List.setIfInBounds_toArray, List.set_cons_zero, List.set_cons_succ])
              refine wpAnyH_take (i := 7) (oi := { dst := some 56, op := _, type := _, pos := _, after := _, guard := _ }) (v := ?_) rfl (by kernel_rfl) (by kernel_rfl) (by kernel_rfl) (fun _ _ _ h => h) (Or.inl ⟨by rfl, ?_⟩) (by assumption) ?_
              rotate_left
              · (intro w hSw; (try dsimp only at hSw); go_simp) <;> with_reducible rfl
              (try simp only [Act.put, List.setIfInBounds_toArray, List.set_cons_zero, List.set_cons_succ])
              refine wpAnyH_take (i := 9) (oi := { dst := some 58, op := _, type := _, pos := _, after := _, guard := _ }) (v := ?_) rfl (by kernel_rfl) (by kernel_rfl) (by kernel_rfl) (fun _ _ _ h => h) (Or.inl ⟨by rfl, ?_⟩) (by assumption) ?_
              rotate_left
              · (intro w hSw; (try dsimp only at hSw); go_simp) <;> with_reducible rfl
              (try simp only [Act.put, List.setIfInBounds_toArray, List.set_cons_zero, List.set_cons_succ])
              refine wpAnyH_ready (rs := [8]) (by kernel_rfl) (by simp) ?_
              refine AllReadyH.cons (o := _) rfl (fun K hK => ?_) AllReadyH.nil
              go_simp
              refine (spec_l10Place (s := letter t k) hn HHq.out.drew HK.out hcap (HR.out j) hb).mono ?_; rw [← HQ.out]; rintro e w3 ⟨rfl, hbd⟩
              have hbZ := below_of_drew hbd
              try go_wp2_with fail
              refine hK.out _ _ (carQ.out _ hbZ) (fun hHeld => ?_)
              clear hK K
              (try simp only [Act.put, List.setIfInBounds_toArray, List.set_cons_zero, List.set_cons_succ])
              refine wpAnyH_take (i := 10) (oi := { dst := some 59, op := _, type := _, pos := _, after := _, guard := _ }) (v := ?_) rfl (by kernel_rfl) (by kernel_rfl) (by kernel_rfl) (fun _ _ _ h => h) (Or.inl ⟨by rfl, ?_⟩) (by assumption) ?_
              rotate_left
              · (intro w hSw; (try dsimp only at hSw); go_simp) <;> with_reducible rfl
              (try simp only [Act.put, List.setIfInBounds_toArray, List.set_cons_zero, List.set_cons_succ])
              refine wpAnyH_done (by kernel_rfl) ?_ _
              (try simp only [Act.put, List.setIfInBounds_toArray, List.set_cons_zero, List.set_cons_succ])
              have HB3 := Lib.hid (below_go HBj.out hbZ)
              clear hbZ hbd d0 d1 d2 d3 d4 d5 carQ HHq hHeld
              go_wp2
              go_roundw
              case rel => exact ⟨j + 1, by omega, by omega, by rw [e1.out]; go_num, by go_num, HB3⟩
              case measure => simp [intOf]; omega
            · have e1 := Lib.hid (show cntA st l kb ks bl t (letter t k) p a (j + 1 - a) = N by rw [HCS.out, HHIT.out, decide_eq_false hqp, if_neg (by simp)]; rfl)
              have hb1 : ((q : Int) == (p : Int)) = false := by rw [beq_eq_false_iff_ne]; omega
              clear hqp HHIT
              go_upto_region 14 with fail
              refine wp_region_held_drew (S := fun u => u.cell? ⟨w.heap.size, 0, none⟩ = some (.string nm) ∧ u.cell? ⟨w.heap.size, 1, none⟩ = some (.int .i64 (st : Int)) ∧ u.cell? ⟨w.heap.size, 2, none⟩ = some (.slice A n c) ∧ u.cell? ⟨w.heap.size + 1, 0, none⟩ = some (.string kb) ∧ u.cell? ⟨w.heap.size + 1, 1, none⟩ = some (.string ks) ∧ u.cell? ⟨g, j, none⟩ = some (.string (hdAt st l kb ks t j))) (by kernel_rfl) (carQ.out _ (Below.refl _ _).drew) (fun hHeld => ?_)
              refine wpAnyH_take (i := 0) (oi := { dst := some 49, op := _, type := _, pos := _, after := _, guard := _ }) (v := ?_) rfl (by kernel_rfl) (by kernel_rfl) (by kernel_rfl) (fun _ _ _ h => h) (Or.inl ⟨by rfl, ?_⟩) (by assumption) ?_
              rotate_left
              · (intro w hSw; (try dsimp only at hSw); go_simp) <;> with_reducible rfl
              (try simp only [Act.put, List.setIfInBounds_toArray, List.set_cons_zero, List.set_cons_succ])
              refine wpAnyH_take (i := 1) (oi := { dst := some 50, op := _, type := _, pos := _, after := _, guard := _ }) (v := ?_) rfl (by kernel_rfl) (by kernel_rfl) (by kernel_rfl) (fun _ _ _ h => h) (Or.inl ⟨by rfl, ?_⟩) (by assumption) ?_
              rotate_left
              · (intro w hSw; (try dsimp only at hSw); go_simp) <;> with_reducible rfl
              (try simp only [Act.put, List.setIfInBounds_toArray, List.set_cons_zero, List.set_cons_succ])
              refine wpAnyH_take (i := 2) (oi := { dst := some 51, op := _, type := _, pos := _, after := _, guard := _ }) (v := ?_) rfl (by kernel_rfl) (by kernel_rfl) (by kernel_rfl) (fun _ _ _ h => h) (Or.inl ⟨by rfl, ?_⟩) (by assumption) ?_
              rotate_left
              · (intro w hSw; (try dsimp only at hSw); go_simp) <;> with_reducible rfl
              (try simp only [Act.put, List.setIfInBounds_toArray, List.set_cons_zero, List.set_cons_succ])
              refine wpAnyH_take (i := 3) (oi := { dst := some 52, op := _, type := _, pos := _, after := _, guard := _ }) (v := ?_) rfl (by kernel_rfl) (by kernel_rfl) (by kernel_rfl) (fun _ _ _ h => h) (Or.inl ⟨by rfl, ?_⟩) (by assumption) ?_
              rotate_left
              · (intro w hSw; (try dsimp only at hSw); go_simp) <;> with_reducible rfl
              (try simp only [Act.put, List.setIfInBounds_toArray, List.set_cons_zero, List.set_cons_succ])
              refine wpAnyH_take (i := 4) (oi := { dst := some 53, op := _, type := _, pos := _, after := _, guard := _ }) (v := ?_) rfl (by kernel_rfl) (by kernel_rfl) (by kernel_rfl) (fun _ _ _ h => h) (Or.inl ⟨by rfl, ?_⟩) (by assumption) ?_
              rotate_left
              · (intro w hSw; (try dsimp only at hSw); go_simp) <;> with_reducible rfl
              (try simp only [Act.put, List.setIfInBounds_toArray, List.set_cons_zero, List.set_cons_succ])
              refine wpAnyH_take (i := 5) (oi := { dst := some 54, op := _, type := _, pos := _, after := _, guard := _ }) (v := ?_) rfl (by kernel_rfl) (by kernel_rfl) (by kernel_rfl) (fun _ _ _ h => h) (Or.inl ⟨by rfl, ?_⟩) (by assumption) ?_
              rotate_left
              · (intro w hSw; (try dsimp only at hSw); go_simp) <;> with_reducible rfl
              (try simp only [Act.put, List.setIfInBounds_toArray, List.set_cons_zero, List.set_cons_succ])
              refine wpAnyH_take (i := 6) (oi := { dst := some 55, op := _, type := _, pos := _, after := _, guard := _ }) (v := ?_) rfl (by kernel_rfl) (by kernel_rfl) (by kernel_rfl) (fun _ _ _ h => h) (Or.inl ⟨by rfl, ?_⟩) (by assumption) ?_
              rotate_left
              · (intro w hSw; (try dsimp only at hSw); go_simp) <;> with_reducible rfl
              (try simp only [Act.put, List.setIfInBounds_toArray, List.set_cons_zero, List.set_cons_succ])
              refine wpAnyH_take (i := 7) (oi := { dst := some 56, op := _, type := _, pos := _, after := _, guard := _ }) (v := ?_) rfl (by kernel_rfl) (by kernel_rfl) (by kernel_rfl) (fun _ _ _ h => h) (Or.inl ⟨by rfl, ?_⟩) (by assumption) ?_
              rotate_left
              · (intro w hSw; (try dsimp only at hSw); go_simp) <;> with_reducible rfl
              (try simp only [Act.put, List.setIfInBounds_toArray, List.set_cons_zero, List.set_cons_succ])
              refine wpAnyH_take (i := 9) (oi := { dst := some 58, op := _, type := _, pos := _, after := _, guard := _ }) (v := ?_) rfl (by kernel_rfl) (by kernel_rfl) (by kernel_rfl) (fun _ _ _ h => h) (Or.inl ⟨by rfl, ?_⟩) (by assumption) ?_
              rotate_left
              · (intro w hSw; (try dsimp only at hSw); go_simp) <;> with_reducible rfl
              (try simp only [Act.put, List.setIfInBounds_toArray, List.set_cons_zero, List.set_cons_succ])
              refine wpAnyH_ready (rs := [8]) (by kernel_rfl) (by simp) ?_
              refine AllReadyH.cons (o := _) rfl (fun K hK => ?_) AllReadyH.nil
              go_simp
              refine (spec_l10Place (s := letter t k) hn HHq.out.drew HK.out hcap (HR.out j) hb).mono ?_; rw [← HQ.out]; rintro e w3 ⟨rfl, hbd⟩
              have hbZ := below_of_drew hbd
              try go_wp2_with fail
              refine hK.out _ _ (carQ.out _ hbZ) (fun hHeld => ?_)
              clear hK K
              (try simp only [Act.put, List.setIfInBounds_toArray, List.set_cons_zero, List.set_cons_succ])
              refine wpAnyH_take (i := 10) (oi := { dst := some 59, op := _, type := _, pos := _, after := _, guard := _ }) (v := ?_) rfl (by kernel_rfl) (by kernel_rfl) (by kernel_rfl) (fun _ _ _ h => h) (Or.inl ⟨by rfl, ?_⟩) (by assumption) ?_
              rotate_left
              · (intro w hSw; (try dsimp only at hSw); go_simp) <;> with_reducible rfl
              (try simp only [Act.put, List.setIfInBounds_toArray, List.set_cons_zero, List.set_cons_succ])
              refine wpAnyH_done (by kernel_rfl) ?_ _
              (try simp only [Act.put, List.setIfInBounds_toArray, List.set_cons_zero, List.set_cons_succ])
              have HB3 := Lib.hid (below_go HBj.out hbZ)
              clear hbZ hbd d0 d1 d2 d3 d4 d5 carQ HHq hHeld
              go_wp2
              go_roundw
              case rel => exact ⟨j + 1, by omega, by omega, by rw [e1.out], by go_num, HB3⟩
              case measure => simp [intOf]; omega
          · obtain rfl : j = k := by omega
            have hIj : ¬ (j : Int) < (j : Int) := by omega
            have HIT := Lib.hid (show itemA st l kb ks bl t j a = (t.extract j (j + 1) ++ decS p) ++ (if N = 0 then ⟨#[]⟩ else ⟨#[43]⟩ ++ decS N) by rw [itemA, ← HPP.out, ← HN.out]; rfl)
            have HNX := Lib.hid (HWC2.out HP.out)
            obtain ⟨X, hX⟩ : ∃ u, u = itemA st l kb ks bl t j a := ⟨_, rfl⟩
            rw [← hX] at HSN HIT HNX
            obtain ⟨C, hCC⟩ : ∃ u, u = t.extract j (j + 1) := ⟨_, rfl⟩
            rw [← hCC] at HIT hC1 ⊢
            have hD := dec_sz3 (n := p) (by omega)
            have hE := dec_sz3 hN60
            obtain ⟨D, hDD⟩ : ∃ u, u = decS p := ⟨_, rfl⟩
            rw [← hDD] at HIT hD
            obtain ⟨E, hEE⟩ : ∃ u, u = decS N := ⟨_, rfl⟩
            rw [← hEE] at HIT hE
            have HD := Lib.hid hDD
            have HE := Lib.hid hEE
            have s43 : (⟨#[43]⟩ : ByteArray).size = 1 := rfl
            have s32 : (⟨#[32]⟩ : ByteArray).size = 1 := rfl
            have hCD : (C ++ D).size = C.size + D.size := ByteArray.size_append
            have hS1 : (S0 ++ (⟨#[32]⟩ : ByteArray)).size = S0.size + 1 := by rw [ByteArray.size_append]; rfl
            have h4E : ((⟨#[43]⟩ : ByteArray) ++ E).size = 1 + E.size := by rw [ByteArray.size_append]; rfl
            have o1 : ¬ 9223372036854775807 < C.size + D.size := by omega
            have o2 : ¬ 9223372036854775807 < S0.size + (C ++ D).size := by omega
            have o2' : ¬ 9223372036854775807 < S0.size + (C.size + D.size) := by omega
            have o3 : ¬ 9223372036854775807 < S0.size + (⟨#[32]⟩ : ByteArray).size := by omega
            have o4 : ¬ 9223372036854775807 < (S0 ++ (⟨#[32]⟩ : ByteArray)).size + (C ++ D).size := by omega
            have o4' : ¬ 9223372036854775807 < S0.size + (⟨#[32]⟩ : ByteArray).size + (C.size + D.size) := by omega
            have o5 : ¬ 9223372036854775807 < (⟨#[43]⟩ : ByteArray).size + E.size := by omega
            have o6 : ¬ 9223372036854775807 < (S0 ++ (C ++ D)).size + ((⟨#[43]⟩ : ByteArray) ++ E).size := by rw [ByteArray.size_append]; omega
            have o6' : ¬ 9223372036854775807 < S0.size + (C.size + D.size) + ((⟨#[43]⟩ : ByteArray).size + E.size) := by omega
            have o7 : ¬ 9223372036854775807 < ((S0 ++ (⟨#[32]⟩ : ByteArray)) ++ (C ++ D)).size + ((⟨#[43]⟩ : ByteArray) ++ E).size := by rw [ByteArray.size_append]; omega
            have o7' : ¬ 9223372036854775807 < S0.size + (⟨#[32]⟩ : ByteArray).size + (C.size + D.size) + ((⟨#[43]⟩ : ByteArray).size + E.size) := by omega
            clear hX hCC hDD hEE hpx hCD hS1 h4E HN HPP
            by_cases hW0 : W.length = 0
            · have hE0 : S0.toList = [] := by rw [HWN.out hW0, ByteArray.toList_eq]
              go_wp2_with fail
              refine (spec_l1Num p p wq (Nat.le_refl _) (by omega)).mono ?_; rw [← HD.out]; rintro e w4 ⟨rfl, hb4⟩
              have HB4 := Lib.hid (below_go HBj.out hb4)
              clear hb4
              by_cases hN0 : N = 0
              · have hN0I : ¬ (0 : Int) < (N : Int) := by omega
                have HV := Lib.hid (show S0 ++ (C ++ D) = jnW (W ++ [X]) by
                  rw [HSN.out, if_pos hW0, HWN.out hW0, spec_empty_app, HIT.out, if_pos hN0, spec_app_empty])
                clear hN0
                go_wp2
                go_roundw
                case rel => exact ⟨j + 1, by omega, by rw [HNX.out, ← HV.out], by rw [HNX.out]; go_num, by go_num, HB4⟩
                case measure => simp [intOf]; omega
              · have hN0I : (0 : Int) < (N : Int) := by omega
                have HV := Lib.hid (show (S0 ++ (C ++ D)) ++ (⟨#[43]⟩ ++ E) = jnW (W ++ [X]) by
                  rw [HSN.out, if_pos hW0, HWN.out hW0, spec_empty_app, HIT.out, if_neg hN0])
                clear hN0
                go_wp2_with fail
                refine (spec_l1Num N N w4 (Nat.le_refl _) (by omega)).mono ?_; rw [← HE.out]; rintro e w5 ⟨rfl, hb5⟩
                have HB5 := Lib.hid (below_go HB4.out hb5)
                clear hb5
                go_wp2
                go_roundw
                case rel => exact ⟨j + 1, by omega, by rw [HNX.out, ← HV.out], by rw [HNX.out]; go_num, by go_num, HB5⟩
                case measure => simp [intOf]; omega
            · have hS0p := HSP.out (by omega)
              have hE0 := str_ne_empty hS0p
              have hE1 : (S0.toList == []) = false := by
                rcases hl : S0.toList with _ | ⟨x, y⟩
                · rw [hl] at hE0; cases hE0
                · rfl
              go_wp2_with fail
              refine (spec_l1Num p p wq (Nat.le_refl _) (by omega)).mono ?_; rw [← HD.out]; rintro e w4 ⟨rfl, hb4⟩
              have HB4 := Lib.hid (below_go HBj.out hb4)
              clear hb4
              by_cases hN0 : N = 0
              · have hN0I : ¬ (0 : Int) < (N : Int) := by omega
                have HV := Lib.hid (show (S0 ++ ⟨#[32]⟩) ++ (C ++ D) = jnW (W ++ [X]) by
                  rw [HSN.out, if_neg hW0, HIT.out, if_pos hN0, spec_app_empty])
                clear hN0
                go_wp2
                go_roundw
                case rel => exact ⟨j + 1, by omega, by rw [HNX.out, ← HV.out], by rw [HNX.out]; go_num, by go_num, HB4⟩
                case measure => simp [intOf]; omega
              · have hN0I : (0 : Int) < (N : Int) := by omega
                have HV := Lib.hid (show ((S0 ++ ⟨#[32]⟩) ++ (C ++ D)) ++ (⟨#[43]⟩ ++ E) = jnW (W ++ [X]) by
                  rw [HSN.out, if_neg hW0, HIT.out, if_neg hN0, ByteArray.append_assoc])
                clear hN0
                go_wp2_with fail
                refine (spec_l1Num N N w4 (Nat.le_refl _) (by omega)).mono ?_; rw [← HE.out]; rintro e w5 ⟨rfl, hb5⟩
                have HB5 := Lib.hid (below_go HB4.out hb5)
                clear hb5
                go_wp2
                go_roundw
                case rel => exact ⟨j + 1, by omega, by rw [HNX.out, ← HV.out], by rw [HNX.out]; go_num, by go_num, HB5⟩
                case measure => simp [intOf]; omega
      · have hpx : ((t.extract k (k + 1)).toList == [112]) = true := hp
        have HNX := Lib.hid (HWP2.out hp)
        clear hp
        go_wp2
        go_roundw
        case rel => exact ⟨k + 1, by omega, by rw [HNX.out, HWW.out, HS0.out], by rw [HNX.out, HWW.out], by go_num, HB⟩
        case measure => simp [intOf]; omega
    · obtain rfl : k = t.size := by omega
      have hI : ¬ (t.size : Int) < (t.size : Int) := by omega
      have HCW : Hid (calW st l kb ks bl t = if a < t.size then W ++ [⟨#[112]⟩ ++ decS (t.size - a)] else W) := Lib.hid (by rw [calW, HWW.out])
      have HWN2 := Lib.hid (jnW_snoc W (⟨#[112]⟩ ++ decS (t.size - a)))
      rw [← HS0.out] at HWN2
      by_cases haT : a = t.size
      · have hq : ((a : Int) == (t.size : Int)) = true := by rw [beq_iff_eq]; omega
        have e1 := Lib.hid (show calS st l kb ks bl t = S0 by rw [calS_jn, HCW.out, if_neg (by omega), HS0.out])
        clear haT
        go_wp2
        go_ret
        rw [e1.out]
        exact ⟨rfl, below_go B1 HB.out⟩
      · have hq : ((a : Int) == (t.size : Int)) = false := by rw [beq_eq_false_iff_ne]; omega
        obtain ⟨m, hm⟩ : ∃ u, u = t.size - a := ⟨_, rfl⟩
        have hmI : (t.size : Int) - (a : Int) = (m : Int) := by omega
        have hm60 : m ≤ 60 := by omega
        rw [← hm] at HCW HWN2
        have hE := dec_sz3 hm60
        obtain ⟨E, hEE⟩ : ∃ u, u = decS m := ⟨_, rfl⟩
        rw [← hEE] at HCW HWN2 hE
        have HE := Lib.hid hEE
        have e1 := Lib.hid (show calS st l kb ks bl t = jnW (W ++ [⟨#[112]⟩ ++ E]) by rw [calS_jn, HCW.out, if_pos (by omega)])
        have s112 : (⟨#[112]⟩ : ByteArray).size = 1 := rfl
        have s32 : (⟨#[32]⟩ : ByteArray).size = 1 := rfl
        have o1 : ¬ 9223372036854775807 < S0.size + (⟨#[112]⟩ : ByteArray).size := by omega
        have o2 : ¬ 9223372036854775807 < (S0 ++ (⟨#[112]⟩ : ByteArray)).size + E.size := by rw [ByteArray.size_append]; omega
        have o2' : ¬ 9223372036854775807 < S0.size + (⟨#[112]⟩ : ByteArray).size + E.size := by omega
        have o3 : ¬ 9223372036854775807 < S0.size + (⟨#[32]⟩ : ByteArray).size := by omega
        have o4 : ¬ 9223372036854775807 < (S0 ++ (⟨#[32]⟩ : ByteArray)).size + (⟨#[112]⟩ : ByteArray).size := by rw [ByteArray.size_append]; omega
        have o4' : ¬ 9223372036854775807 < S0.size + (⟨#[32]⟩ : ByteArray).size + (⟨#[112]⟩ : ByteArray).size := by omega
        have o5 : ¬ 9223372036854775807 < ((S0 ++ (⟨#[32]⟩ : ByteArray)) ++ (⟨#[112]⟩ : ByteArray)).size + E.size := by rw [ByteArray.size_append, ByteArray.size_append]; omega
        have o5' : ¬ 9223372036854775807 < S0.size + (⟨#[32]⟩ : ByteArray).size + (⟨#[112]⟩ : ByteArray).size + E.size := by omega
        clear haT hm hEE
        by_cases hW0 : W.length = 0
        · have hE0 : S0.toList = [] := by rw [HWN.out hW0, ByteArray.toList_eq]
          have HV := Lib.hid (show (S0 ++ ⟨#[112]⟩) ++ E = jnW (W ++ [⟨#[112]⟩ ++ E]) by rw [HWN2.out, if_pos hW0, HWN.out hW0, spec_empty_app])
          go_wp2_with fail
          refine (spec_l1Num m m wo (Nat.le_refl _) (by omega)).mono ?_; rw [← HE.out]; rintro e w5 ⟨rfl, hb5⟩
          go_wp2
          go_ret
          rw [e1.out, ← HV.out]
          exact ⟨rfl, below_go (below_go B1 HB.out) hb5⟩
        · have hS0p := HSP.out (by omega)
          have hE0 := str_ne_empty hS0p
          have hE1 : (S0.toList == []) = false := by
            rcases hl : S0.toList with _ | ⟨x, y⟩
            · rw [hl] at hE0; cases hE0
            · rfl
          have HV := Lib.hid (show ((S0 ++ ⟨#[32]⟩) ++ ⟨#[112]⟩) ++ E = jnW (W ++ [⟨#[112]⟩ ++ E]) by rw [HWN2.out, if_neg hW0, ByteArray.append_assoc])
          go_wp2_with fail
          refine (spec_l1Num m m wo (Nat.le_refl _) (by omega)).mono ?_; rw [← HE.out]; rintro e w5 ⟨rfl, hb5⟩
          go_wp2
          go_ret
          rw [e1.out, ← HV.out]
          exact ⟨rfl, below_go (below_go B1 HB.out) hb5⟩
end Go.Proofs.YtidolgonmimicaaGreatDoor
/- The walks of chapter 10, the reference's side: what a word of a calling says. -/
namespace Go.Proofs.YtidolgonmimicaaGreatDoor
set_option linter.unusedVariables false
set_option linter.unusedSimpArgs false
open Go.ChangeShapes Go.WideShapes Go.ChangeAt Go.RowKit Go.Deep
def askB (nm : ByteArray) (st : Nat) (l : List ByteArray) (kb ks : ByteArray) (bl : Nat) : Bool := goodK nm (st : Int) l kb ks && inB (bl : Int) 1 (st : Int)
def clOk (nm : ByteArray) (st : Nat) (l : List ByteArray) (kb ks : ByteArray) (bl : Nat) (t : ByteArray) : Bool := askB nm st l kb ks bl && goodT t
def clV (nm : ByteArray) (st : Nat) (l : List ByteArray) (kb ks : ByteArray) (bl : Nat) (t : ByteArray) : ByteArray := if clOk nm st l kb ks bl t = true then calS st l kb ks bl t else ⟨#[]⟩
theorem clV_t {nm : ByteArray} {st : Nat} {l : List ByteArray} {kb ks : ByteArray} {bl : Nat} {t : ByteArray} (h : clOk nm st l kb ks bl t = true) : clV nm st l kb ks bl t = calS st l kb ks bl t := if_pos h
theorem clV_f {nm : ByteArray} {st : Nat} {l : List ByteArray} {kb ks : ByteArray} {bl : Nat} {t : ByteArray} (h : clOk nm st l kb ks bl t = false) : clV nm st l kb ks bl t = ⟨#[]⟩ := if_neg (by rw [h]; simp)
set_option maxHeartbeats 1000000 in
theorem spec_l10Asked {A : Option Addr} {n c st : Nat} {nm : ByteArray} {l : List ByteArray} {kb ks : ByteArray} {bl : Nat} {w : World} (hn : l.length = n) (h : Strs w A l) (hz : n ≤ 1048576) (hs : ∀ s ∈ l, s.size ≤ 16777216) (hnm : nm.size ≤ 16777216) (h9 : st ≤ 1000) (hkb : kb.size ≤ 16777216) (hks : ks.size ≤ 16777216) (hb : bl ≤ 100) :
    Calls Tryz.prog 17 #[.agg #[.string nm, .int .i64 st, .slice A n c], .agg #[.string kb, .string ks], .int .i64 bl] w fun e w' => e = .returned (.bool (askB nm st l kb ks bl)) ∧ Below w.heap.size w w' := by
  have b0 : Below w.heap.size w ((w.alloc (.cells ⟨[.string nm, .int .i64 st, .slice A n c]⟩ 25)).alloc (.cells ⟨[.string kb, .string ks]⟩ 27)) := by (repeat' (first | (with_reducible exact Below.refl _ _) | (with_reducible assumption) | (with_reducible refine below_drewN ?_ _) | (with_reducible refine Below.drew ?_) | (with_reducible refine below_alloc ?_ _) | (with_reducible refine Below.alloc ?_ ?_ _) | (with_reducible refine Below.setCell ?_ ?_ _) | (with_reducible refine below_go ?_ (by with_reducible assumption)) | (with_reducible refine below_then (by with_reducible assumption) ?_ ?_) | go_size))
  have K0 := (Blk.at_ w 25 [.string nm, .int .i64 st, .slice A n c] (b := w.heap.size) rfl).alloc (.cells ⟨[.string kb, .string ks]⟩ 27)
  have HQ : Hid (askB nm st l kb ks bl = (goodK nm (st : Int) l kb ks && inB (bl : Int) 1 (st : Int))) := Lib.hid rfl
  have hI : I64 (st : Int) := ⟨by omega, by omega⟩
  go_in
  go_wp2_with fail
  refine (spec_l8Good hn (h.up b0) hz hs hnm hI hkb hks).mono ?_; rintro e w1 ⟨rfl, hb1⟩
  have K1 := K0.up hb1
  have B1 := below_go b0 hb1
  have k1 := K1.cell 1
  simp only [List.getElem?_cons_zero, List.getElem?_cons_succ] at k1
  rcases hg : goodK nm (st : Int) l kb ks
  · have e1 := Lib.hid (show askB nm st l kb ks bl = false by rw [HQ.out, hg]; rfl)
    go_wp2
    go_ret
    rw [e1.out]
    exact ⟨rfl, B1⟩
  · have e1 := Lib.hid (show askB nm st l kb ks bl = inB (bl : Int) 1 (st : Int) by rw [HQ.out, hg]; rfl)
    go_wp2_with fail
    refine (spec_l1In _ _ _ _).mono ?_; rintro e w' ⟨rfl, rfl⟩
    go_wp2
    go_ret
    rw [e1.out]
    exact ⟨rfl, B1⟩
set_option maxHeartbeats 1000000 in
theorem spec_CallingText {A : Option Addr} {n c st : Nat} {nm : ByteArray} {l : List ByteArray} {kb ks t : ByteArray} {bl : Nat} {w : World} (hn : l.length = n) (h : Strs w A l) (hz : n ≤ 1048576) (hs : ∀ s ∈ l, s.size ≤ 16777216) (hnm : nm.size ≤ 16777216) (h9 : st ≤ 1000) (hcap : n ≤ c) (hkb : kb.size ≤ 16777216) (hks : ks.size ≤ 16777216) (ht : t.size ≤ 16777216) (hb : bl ≤ 100) :
    Calls Tryz.prog 6 #[.agg #[.string nm, .int .i64 st, .slice A n c], .agg #[.string kb, .string ks], .string t, .int .i64 bl] w fun e w' => e = .returned (.tuple #[.string (clV nm st l kb ks bl t), .bool (clOk nm st l kb ks bl t)]) ∧ Below w.heap.size w w' := by
  have b0 : Below w.heap.size w ((w.alloc (.cells ⟨[.string nm, .int .i64 st, .slice A n c]⟩ 25)).alloc (.cells ⟨[.string kb, .string ks]⟩ 27)) := by (repeat' (first | (with_reducible exact Below.refl _ _) | (with_reducible assumption) | (with_reducible refine below_drewN ?_ _) | (with_reducible refine Below.drew ?_) | (with_reducible refine below_alloc ?_ _) | (with_reducible refine Below.alloc ?_ ?_ _) | (with_reducible refine Below.setCell ?_ ?_ _) | (with_reducible refine below_go ?_ (by with_reducible assumption)) | (with_reducible refine below_then (by with_reducible assumption) ?_ ?_) | go_size))
  have K0 := (Blk.at_ w 25 [.string nm, .int .i64 st, .slice A n c] (b := w.heap.size) rfl).alloc (.cells ⟨[.string kb, .string ks]⟩ 27)
  have J0 := Blk.at_ (w.alloc (.cells ⟨[.string nm, .int .i64 st, .slice A n c]⟩ 25)) 27 [.string kb, .string ks] (b := w.heap.size + 1) (by simp)
  have HQ : Hid (clOk nm st l kb ks bl t = (askB nm st l kb ks bl && goodT t)) := Lib.hid rfl
  have HT := Lib.hid (@clV_t nm st l kb ks bl t)
  have HF := Lib.hid (@clV_f nm st l kb ks bl t)
  have H0 := h.up b0
  go_in
  go_wp2_with fail
  refine (spec_l10Asked (nm := nm) (st := st) hn H0 hz hs hnm h9 hkb hks hb).mono ?_; rintro e w1 ⟨rfl, hb1⟩
  have K1 := K0.up hb1
  have J1 := J0.up hb1
  have H1 := H0.up hb1
  have B1 := below_go b0 hb1
  clear K0 J0 H0 h b0 hb1
  rcases hg : askB nm st l kb ks bl
  · have e1 := Lib.hid (show clOk nm st l kb ks bl t = false by rw [HQ.out, hg]; rfl)
    go_wp2
    go_ret2
    rw [HF.out e1.out, e1.out]
    exact ⟨rfl, B1⟩
  · go_wp2_with fail
    refine (spec_l9Good ht).mono ?_; rintro e w' ⟨rfl, rfl⟩
    rcases hq : goodT t
    · have e1 := Lib.hid (show clOk nm st l kb ks bl t = false by rw [HQ.out, hq, Bool.and_false])
      go_wp2
      go_ret2
      rw [HF.out e1.out, e1.out]
      exact ⟨rfl, B1⟩
    · have e1 := Lib.hid (show clOk nm st l kb ks bl t = true by rw [HQ.out, hq, hg]; rfl)
      have hk : goodK nm (st : Int) l kb ks = true := (Bool.and_eq_true_iff.1 hg).1
      have k0 := K1.cell 0; have k1 := K1.cell 1; have k2 := K1.cell 2; have j0 := J1.cell 0; have j1 := J1.cell 1
      simp only [List.getElem?_cons_zero, List.getElem?_cons_succ] at k0 k1 k2 j0 j1
      go_wp2_with fail
      refine (spec_l10Calling (t := t) (bl := bl) hn H1 hk hq hcap hb).mono ?_; rintro e w2 ⟨rfl, hb2⟩
      go_wp2
      go_ret2
      rw [HT.out e1.out, e1.out]
      exact ⟨rfl, below_go B1 hb2⟩
theorem isCl_cal {c : ByteArray} (h : isCl c = true) : calT c ∧ c.size = 1 := by
  rw [isCl] at h
  rcases hp : isP c
  · rw [hp, Bool.false_or] at h
    rcases hb : isB c
    · rw [hb, Bool.false_or] at h
      have e : c = ⟨#[115]⟩ := is_one h
      subst e; exact ⟨calT_s, rfl⟩
    · have e : c = ⟨#[98]⟩ := is_one hb
      subst e; exact ⟨calT_b, rfl⟩
  · have e : c = ⟨#[112]⟩ := is_one hp
    subst e; exact ⟨calT_p, rfl⟩
theorem itw_letter {st : Nat} {l : List ByteArray} {kb ks y h : ByteArray} {bl k i : Nat} {T : ByteArray} (g : ItW st l kb ks bl y h T k i) : 2 ≤ y.size ∧ y.extract 0 1 = letter T i ∧ isCl (y.extract 0 1) = true ∧ isP (y.extract 0 1) = false := by
  have hp := item_parts (st := st) (l := l) (kb := kb) (ks := ks) (bl := bl) (T := T) (i := i) (k := k) g.lt
  rw [← g.word] at hp
  refine ⟨hp.2.2, hp.1, ?_, ?_⟩
  · rw [hp.1, isCl_letter g.lt]; exact (goodT_t g.good).2.2 i g.lt
  · rw [hp.1]; exact g.call
theorem plw_letter {y : ByteArray} {k : Nat} {T : ByteArray} (g : PlW y T k) : 2 ≤ y.size ∧ isCl (y.extract 0 1) = true ∧ isP (y.extract 0 1) = true ∧ (y.extract 1 y.size).data.toList = Lib.decDigits (T.size - k) := by
  have hp := pw_parts (T.size - k)
  rw [← g.word] at hp
  refine ⟨hp.2.2, ?_, ?_, hp.2.1⟩
  · rw [hp.1]; decide +kernel
  · rw [hp.1]; decide +kernel
theorem l1V_dec {s : ByteArray} {m : Nat} (h : s.data.toList = Lib.decDigits m) (hm : m ≤ 60) : l1V s = (m : Int) := by
  have e : s = ⟨(Lib.decDigits m).toArray⟩ := baX (by rw [h])
  have h2 := num_dec2 (a := m) (most := 6) (by have := dec_len2 hm; omega)
  rw [e, l1V, h2.1, h2.2]; rfl
theorem l1V_bd (s : ByteArray) : -1 ≤ l1V s ∧ l1V s ≤ 1000000 := by
  rw [l1V]
  split
  · rename_i h
    rw [numV_t h]
    rw [numOk, Bool.and_eq_true, decide_eq_true_iff, canon, Bool.and_eq_true, Bool.and_eq_true] at h
    have h1 := valL_lt s.data.toList.length s.data.toList rfl h.2.2.2
    have h2 : s.data.toList.length ≤ 6 := by rw [← sz_list]; omega
    have h3 : 10 ^ s.data.toList.length ≤ 10 ^ 6 := Nat.pow_le_pow_right (by decide) h2
    omega
  · omega
/-- What a word of a call says as numbers. -/
theorem itw_tail {st : Nat} {l : List ByteArray} {kb ks y h : ByteArray} {bl k i : Nat} {T : ByteArray} (h3 : 3 ≤ st) (h8 : st ≤ 8) (g : ItW st l kb ks bl y h T k i) : ∃ p0, (splB 43 (y.extract 1 y.size))[0]? = some p0 ∧ l1V p0 = (plI st l kb ks bl T i : Nat) ∧ ((splB 43 (y.extract 1 y.size)).length = 2 → ∃ p1, (splB 43 (y.extract 1 y.size))[1]? = some p1 ∧ l1V p1 = (cnI st l kb ks bl T i k : Nat)) ∧ ((splB 43 (y.extract 1 y.size)).length ≠ 2 → cnI st l kb ks bl T i k = 0) := by
  have hp := (item_parts (st := st) (l := l) (kb := kb) (ks := ks) (bl := bl) (T := T) (i := i) (k := k) g.lt).2.1
  rw [← g.word] at hp
  have h60 := (goodT_t g.good).2.1
  have hlt := g.lt
  have c1 := plI_le (l := l) (kb := kb) (ks := ks) (bl := bl) (T := T) h3 h8 i
  have c2 := cnI_le (st := st) (l := l) (kb := kb) (ks := ks) (bl := bl) (T := T) (i := i) (k := k)
  have hs : splB 43 (y.extract 1 y.size) = (if cnI st l kb ks bl T i k = 0 then [Lib.decDigits (plI st l kb ks bl T i)] else [Lib.decDigits (plI st l kb ks bl T i), Lib.decDigits (cnI st l kb ks bl T i k)]).map fun x => ⟨x.toArray⟩ := by
    rw [splB, hp, tail_spl]
  have e0 : l1V ⟨(Lib.decDigits (plI st l kb ks bl T i)).toArray⟩ = (plI st l kb ks bl T i : Nat) := l1V_dec rfl (by omega)
  have e1 : l1V ⟨(Lib.decDigits (cnI st l kb ks bl T i k)).toArray⟩ = (cnI st l kb ks bl T i k : Nat) := l1V_dec rfl (by omega)
  by_cases hc : cnI st l kb ks bl T i k = 0
  · rw [if_pos hc] at hs
    rw [hs]
    exact ⟨_, rfl, e0, fun h2 => by simp at h2, fun _ => hc⟩
  · rw [if_neg hc] at hs
    rw [hs]
    exact ⟨_, rfl, e0, fun _ => ⟨_, rfl, e1⟩, fun h2 => by simp at h2⟩
end Go.Proofs.YtidolgonmimicaaGreatDoor
/- The walks of chapter 10, the program's side: the place of a bell. -/
namespace Go.Proofs.YtidolgonmimicaaGreatDoor
set_option linter.unusedVariables false
set_option linter.unusedSimpArgs false
open Go.ChangeShapes Go.WideShapes Go.ChangeAt Go.RowKit Go.Deep
set_option maxRecDepth 100000 in
theorem impl_placeOf {r : ByteArray} {n bl : Nat} {w : World} (hr : RowN n r) (hb : bl ≤ 100) :
    Calls Tryz.prog 40 #[.string r, .int .i64 bl] w fun e w' => e = .returned (.int .i64 (plc r bl : Nat)) ∧ w = w' := by
  have hbb := PlainAid.get_bt r
  have hn := hr.2
  have h8 := hr.st.2
  have HR := Lib.hid hr
  subst hn
  clear hr
  go_in
  go_wp2
  go_loopw [8] (fun i wr => ∃ k : Nat, k ≤ r.size ∧ i = .int .i64 k ∧ Hid (∀ j, j < k → PlainAid.bt r j ≠ 48 + (bl : Int)) ∧ w = wr) (fun i _ => r.size - (intOf i).toNat)
  case atStart => exact ⟨0, Nat.zero_le _, rfl, Lib.hid (fun j hj => absurd hj (by omega)), rfl⟩
  case round =>
    obtain ⟨k, hk, rfl, HK, rfl⟩ := hrel
    by_cases hlt : k < r.size
    · have hI : (k : Int) < (r.size : Int) := by omega
      have hlo := row_lo HR.out hlt
      have hm : (PlainAid.bt r k - 48) % 256 = PlainAid.bt r k - 48 := by omega
      by_cases hc : PlainAid.bt r k = 48 + (bl : Int)
      · have e1 := Lib.hid (plc_at hlt HK.out hc)
        have hq : (PlainAid.bt r k - 48 == (bl : Int)) = true := by rw [beq_iff_eq]; omega
        have hq2 : PlainAid.bt r k - 48 = (bl : Int) := by omega
        clear hc
        go_wp2
        go_ret
        rw [e1.out]
        exact ⟨rfl, rfl⟩
      · have HK2 := Lib.hid (upto_succ (p := fun j => PlainAid.bt r j ≠ 48 + (bl : Int)) HK.out hc)
        have hq : (PlainAid.bt r k - 48 == (bl : Int)) = false := by rw [beq_eq_false_iff_ne]; omega
        have hq2 : ¬ PlainAid.bt r k - 48 = (bl : Int) := by omega
        clear hc
        go_wp2
        go_roundw
        case rel => exact ⟨k + 1, by omega, by go_num, HK2, trivial⟩
        case measure => simp [intOf]; omega
    · have hI : ¬ (k : Int) < (r.size : Int) := by omega
      have e1 := Lib.hid (plc_none (r := r) (bl := bl) (fun j hj => HK.out j (by omega)))
      go_wp2
      go_ret
      rw [e1.out]
      exact ⟨rfl, rfl⟩
end Go.Proofs.YtidolgonmimicaaGreatDoor
/- The walks through the heads of a touch, the program's side. -/
namespace Go.Proofs.YtidolgonmimicaaGreatDoor
set_option linter.unusedVariables false
set_option linter.unusedSimpArgs false
open Go.ChangeShapes Go.WideShapes Go.ChangeAt Go.RowKit Go.Deep
open Go.Maps (Keyed string_keyed int_keyed)
open Go.Maps (keyOf_int_mk)
theorem Below.step {w0 w w' : World} (C : Below w0.heap.size w0 w) (hb : Below w.heap.size w w') : Below w0.heap.size w0 w' := C.trans (hb.mono C.size)
/-- What a map from the three bytes reads as when some are laid. -/
def triL (p q r : Bool) (X Y Z : ByteArray) : List (Lit × DataW Unit) :=
  (if q = true then [(.int .u8 98, .lit (sLi Y))] else []) ++ ((if p = true then [(.int .u8 112, .lit (sLi X))] else []) ++ (if r = true then [(.int .u8 115, .lit (sLi Z))] else []))
theorem triL_len (p q r : Bool) (X Y Z : ByteArray) : (triL p q r X Y Z).length ≤ 3 := by cases p <;> cases q <;> cases r <;> simp [triL]
theorem triL_p (p q r : Bool) (X Y Z : ByteArray) : (DataW.map (triL p q r X Y Z)).put (.int .u8 112) (.lit (sLi X)) = .map (triL true q r X Y Z) := by cases p <;> cases q <;> cases r <;> rfl
theorem triL_q (p q r : Bool) (X Y Z : ByteArray) : (DataW.map (triL p q r X Y Z)).put (.int .u8 98) (.lit (sLi Y)) = .map (triL p true r X Y Z) := by cases p <;> cases q <;> cases r <;> rfl
theorem triL_r (p q r : Bool) (X Y Z : ByteArray) : (DataW.map (triL p q r X Y Z)).put (.int .u8 115) (.lit (sLi Z)) = .map (triL p q true X Y Z) := by cases p <;> cases q <;> cases r <;> rfl
/-- Block b, made behind w0, is such a map; nothing below w0's end has changed. -/
def Tri (P : Program) (X Y Z : ByteArray) (w0 w : World) (b : Nat) (p q r : Bool) : Prop := w0.heap.size ≤ b ∧ Below w0.heap.size w0 w ∧ w.ownsMap P 5 (plainElem P 9) b 3 (.map (triL p q r X Y Z))
def IsTri (P : Program) (X Y Z : ByteArray) (w0 w : World) (b : Nat) : Prop := ∃ p q r, Tri P X Y Z w0 w b p q r
section
variable {P : Program} {w0 w w' : World} {b : Nat} {p q r : Bool} {X Y Z : ByteArray}
theorem Tri.made (C : Below w0.heap.size w0 w) : Tri P X Y Z w0 (w.alloc (.map #[] 0)) w.heap.size false false false :=
  ⟨C.size, C.alloc C.size _, ownsMap_tight (l := triL false false false X Y Z) (World.ownsMap_made w P _ _) (triL_len _ _ _ _ _ _)⟩
theorem Tri.up (h : Tri P X Y Z w0 w b p q r) (hb : Below w.heap.size w w') : Tri P X Y Z w0 w' b p q r := ⟨h.1, Below.step h.2.1 hb, h.2.2.kept (grown_of_below hb) (by simp)⟩
theorem Tri.c (h : Tri P X Y Z w0 w b p q r) : Below w0.heap.size w0 w := h.2.1
theorem IsTri.c (h : IsTri P X Y Z w0 w b) : Below w0.heap.size w0 w := by obtain ⟨p, q, r, h⟩ := h; exact h.2.1
theorem IsTri.up (h : IsTri P X Y Z w0 w b) (hb : Below w.heap.size w w') : IsTri P X Y Z w0 w' b := by obtain ⟨p, q, r, h⟩ := h; exact ⟨p, q, r, h.up hb⟩
theorem IsTri.made (C : Below w0.heap.size w0 w) : IsTri P X Y Z w0 (w.alloc (.map #[] 0)) w.heap.size := ⟨_, _, _, Tri.made C⟩
theorem Tri.put (h : Tri P X Y Z w0 w b p q r) (K : Keyed P 5) {t : TypeId} (ht : P.underlying t = some (.map 5 9)) (he : P.underlying 9 = some .string) {key : Value} {kl : Lit} (hkey : keyOf P 5 key = some kl) {x : ByteArray} (hx : x.size ≤ 16777216) {p' q' r' : Bool}
    (hL : (DataW.map (triL p q r X Y Z)).put kl (.lit (sLi x)) = .map (triL p' q' r' X Y Z)) :
    (Instr.mapUpdate t (.map (some b)) key (.string x)).run P w = .ok () (putW P t b key (.string x) w) ∧ Tri P X Y Z w0 (putW P t b key (.string x) w) b p' q' r' := by
  obtain ⟨h1, h2, h3⟩ := h
  obtain ⟨w', hrun, hown, hg⟩ := h3.update K ht (by decide) hkey (sLi_pe he hx)
  rw [putW_eq hrun]
  rw [hL] at hown
  exact ⟨hrun, h1, h2.trans ((Below.refl _ _).grown hg h2.size fun k hk => by injection hk with hk; rw [← hk]; exact h1), ownsMap_tight hown (triL_len _ _ _ _ _ _)⟩
end
theorem Tri.get {P : Program} {w0 w : World} {b : Nat} {X Y Z : ByteArray} (h : Tri P X Y Z w0 w b true true true) (K : Keyed P 5) {t : TypeId} (ht : P.underlying t = some (.map 5 9)) (he : P.underlying 9 = some .string)
    (hz : (zeroValue 9).run P w = .ok (.string ByteArray.empty) w) (k1 : keyOf P 5 (.int .u8 112) = some (.int .u8 112)) (k2 : keyOf P 5 (.int .u8 98) = some (.int .u8 98)) (k3 : keyOf P 5 (.int .u8 115) = some (.int .u8 115)) :
    (Instr.lookup t (.map (some b)) (.int .u8 112) false).run P w = .ok (.string X) w ∧ (Instr.lookup t (.map (some b)) (.int .u8 98) false).run P w = .ok (.string Y) w ∧ (Instr.lookup t (.map (some b)) (.int .u8 115) false).run P w = .ok (.string Z) w := by
  have go : ∀ (a : Int) (x : ByteArray), keyOf P 5 (.int .u8 a) = some (.int .u8 a) → (DataW.map (triL true true true X Y Z)).atKey (.int .u8 a) (.lit (sLi ByteArray.empty)) = .lit (sLi x) → (Instr.lookup t (.map (some b)) (.int .u8 a) false).run P w = .ok (.string x) w := by
    intro a x hkey hat
    obtain ⟨v, ps, hrun, hv⟩ := h.2.2.lookup K ht hz (sLi_pe he (by decide)) hkey
    rw [hat] at hv
    rw [hrun, sLi_in he _ _ _ hv]
  exact ⟨go 112 X k1 rfl, go 98 Y k2 rfl, go 115 Z k3 rfl⟩
def Holds (I : World → Nat → Prop) (u : World) (b : Nat) : Prop := I u b
theorem heads_kit {P : Program} (w0 : World) {X Y Z : ByteArray} (K : Keyed P 5) {t : TypeId} (ht : P.underlying t = some (.map 5 9)) (he : P.underlying 9 = some .string) (hu : P.underlying 5 = some (.int .u8)) (hX : X.size ≤ 16777216) (hY : Y.size ≤ 16777216) (hZ : Z.size ≤ 16777216) :
    ∃ (T : World → Nat → Bool → Bool → Bool → Prop) (I : World → Nat → Prop) (PP PQ PR : World → Nat → World),
      (∀ u b, Holds I u b → Below w0.heap.size w0 u) ∧ (∀ u b p q r, T u b p q r → Holds I u b) ∧ (∀ u b, Holds I u b → Holds I (PP u b) b) ∧ (∀ u b, Holds I u b → Holds I (PQ u b) b) ∧ (∀ u b, Holds I u b → Holds I (PR u b) b) ∧
      (∀ u b, Holds I u b → Sem.run P (Instr.mapUpdate t (.map (some b)) (.int .u8 112) (.string X)) u = .ok () (PP u b)) ∧ (∀ u b, Holds I u b → Sem.run P (Instr.mapUpdate t (.map (some b)) (.int .u8 98) (.string Y)) u = .ok () (PQ u b)) ∧ (∀ u b, Holds I u b → Sem.run P (Instr.mapUpdate t (.map (some b)) (.int .u8 115) (.string Z)) u = .ok () (PR u b)) ∧
      (∀ u, Below w0.heap.size w0 u → T (u.alloc (.map #[] 0)) u.heap.size false false false) ∧ (∀ u u' b p q r, T u b p q r → Below u.heap.size u u' → T u' b p q r) ∧
      (∀ u b p q r, T u b p q r → T (PP u b) b true q r) ∧ (∀ u b p q r, T u b p q r → T (PQ u b) b p true r) ∧ (∀ u b p q r, T u b p q r → T (PR u b) b p q true) ∧ (∀ u b p q r, T u b p q r → Tri P X Y Z w0 u b p q r) := by
  have hp : ∀ u b p q r, Tri P X Y Z w0 u b p q r → _ := fun u b p q r h => h.put K ht he (keyOf_int_mk hu (a := 112) (by decide)) hX (triL_p p q r X Y Z)
  have hq : ∀ u b p q r, Tri P X Y Z w0 u b p q r → _ := fun u b p q r h => h.put K ht he (keyOf_int_mk hu (a := 98) (by decide)) hY (triL_q p q r X Y Z)
  have hr : ∀ u b p q r, Tri P X Y Z w0 u b p q r → _ := fun u b p q r h => h.put K ht he (keyOf_int_mk hu (a := 115) (by decide)) hZ (triL_r p q r X Y Z)
  refine ⟨Tri P X Y Z w0, IsTri P X Y Z w0, fun u b => putW P t b (.int .u8 112) (.string X) u, fun u b => putW P t b (.int .u8 98) (.string Y) u, fun u b => putW P t b (.int .u8 115) (.string Z) u, fun u b h => h.c, fun u b p q r h => ⟨p, q, r, h⟩, ?_, ?_, ?_, ?_, ?_, ?_, fun u h => Tri.made h, fun u u' b p q r h hb => h.up hb, fun u b p q r h => (hp u b p q r h).2, fun u b p q r h => (hq u b p q r h).2, fun u b p q r h => (hr u b p q r h).2, fun _ _ _ _ _ h => h⟩
  · rintro u b ⟨p, q, r, h⟩; exact ⟨_, _, _, (hp u b p q r h).2⟩
  · rintro u b ⟨p, q, r, h⟩; exact ⟨_, _, _, (hq u b p q r h).2⟩
  · rintro u b ⟨p, q, r, h⟩; exact ⟨_, _, _, (hr u b p q r h).2⟩
  · rintro u b ⟨p, q, r, h⟩; exact (hp u b p q r h).1
  · rintro u b ⟨p, q, r, h⟩; exact (hq u b p q r h).1
  · rintro u b ⟨p, q, r, h⟩; exact (hr u b p q r h).1
set_option maxHeartbeats 40000000 in
set_option maxRecDepth 100000 in
theorem impl_heads {A : Option Addr} {n c st : Nat} {nm : ByteArray} {l : List ByteArray} {kb ks : ByteArray} {t : ByteArray} {w : World} (hn : l.length = n) (h : Strs w A l) (hk : goodK nm (st : Int) l kb ks = true) (hg : goodT t = true) :
    Calls Tryz.prog 39 #[.agg #[.string nm, .int .i64 st, .slice A n c], .agg #[.string kb, .string ks], .string t] w fun e w' => ∃ A' c', e = .returned (.slice A' (t.size + 1) c') ∧ Owned strE 1 9 w' w.heap.size A' (t.size + 1) c' (hdsL st l kb ks t (t.size + 1)) ∧ Below w.heap.size w w' := by
  have b0 : Below w.heap.size w ((w.alloc (.cells ⟨[.string nm, .int .i64 st, .slice A n c]⟩ 25)).alloc (.cells ⟨[.string kb, .string ks]⟩ 27)) := by (repeat' (first | (with_reducible exact Below.refl _ _) | (with_reducible assumption) | (with_reducible refine below_drewN ?_ _) | (with_reducible refine Below.drew ?_) | (with_reducible refine below_alloc ?_ _) | (with_reducible refine Below.alloc ?_ ?_ _) | (with_reducible refine Below.setCell ?_ ?_ _) | (with_reducible refine below_go ?_ (by with_reducible assumption)) | (with_reducible refine below_then (by with_reducible assumption) ?_ ?_) | go_size))
  have K0 := (Blk.at_ w 25 [.string nm, .int .i64 st, .slice A n c] (b := w.heap.size) rfl).alloc (.cells ⟨[.string kb, .string ks]⟩ 27)
  have K1 := Blk.at_ (w.alloc (.cells ⟨[.string nm, .int .i64 st, .slice A n c]⟩ 25)) 27 [.string kb, .string ks] (b := w.heap.size + 1) (by simp)
  have hmm := @run_makeMap Tryz.prog
  have KU := int_keyed (P := Tryz.prog) (k := 5) Tryz.underlying5
  go_in
  go_upto_region 1 with fail
  obtain ⟨w0, hw0⟩ : ∃ u, u = ((w.alloc (.cells #[.string nm, .int .i64 st, .slice A n c] 25)).alloc (.cells #[.string kb, .string ks] 27)) := ⟨_, rfl⟩
  rw [← hw0] at b0 K0 K1 ⊢
  clear hw0
  have H0 := Lib.hid (h.up b0)
  have carry : Hid (∀ u : World, Below w0.heap.size w0 u → (u.cell? ⟨w.heap.size, 0, none⟩ = some (.string nm) ∧ u.cell? ⟨w.heap.size, 1, none⟩ = some (.int .i64 st) ∧ u.cell? ⟨w.heap.size, 2, none⟩ = some (.slice A n c)) ∧ u.cell? ⟨w.heap.size + 1, 0, none⟩ = some (.string kb) ∧ u.cell? ⟨w.heap.size + 1, 1, none⟩ = some (.string ks)) := Lib.hid (fun u hu => by
    have L0 := K0.up hu; have L1 := K1.up hu
    exact ⟨⟨by simpa using L0.cell 0, by simpa using L0.cell 1, by simpa using L0.cell 2⟩, by simpa using L1.cell 0, by simpa using L1.cell 1⟩)
  clear h K0 K1
  have cf := Lib.hid (fun (u : World) (s : ByteArray) (hb : Below w0.heap.size w0 u) => impl_callHead (c := c) (s := s) hn (H0.out.up hb) hk)
  have C0 : Below w0.heap.size w0 w0.drew := (Below.refl _ _).drew
  have PG := Lib.hid (callHd_good hk)
  have PS := Lib.hid (fun s => show (callHd st l kb ks s).size ≤ 16777216 from by rw [(PG.out s).2]; have := (goodK_all hk).1; omega)
  obtain ⟨T, I, PP, PQ, PR, hC, hTI, HIP, HIQ, HIR, HUP, HUQ, HUR, hM, hU, hP, hQ, hR, hT⟩ := heads_kit (P := Tryz.prog) w0 KU Tryz.underlying73 Tryz.underlying9 Tryz.underlying5 (PS.out ⟨#[112]⟩) (PS.out ⟨#[98]⟩) (PS.out ⟨#[115]⟩)
  have HC := Lib.hid hC; have TI := Lib.hid hTI; have TM := Lib.hid hM; have TU := Lib.hid hU; have TP := Lib.hid hP; have TQ := Lib.hid hQ; have TR := Lib.hid hR; have TT := Lib.hid hT
  clear hC hTI hM hU hP hQ hR hT
  have N0 := TU.out _ _ _ _ _ _ (TM.out w0 (Below.refl _ _)) (Below.refl _ _).drew
  have M0 := TI.out _ _ _ _ _ N0
  go_cut [7] (fun s7 wx => ∃ b, s7 = .map (some b) ∧ T wx b true true true)
  case first =>
    go_region_held3 (fun u => (u.cell? ⟨w.heap.size, 0, none⟩ = some (.string nm) ∧ u.cell? ⟨w.heap.size, 1, none⟩ = some (.int .i64 st) ∧ u.cell? ⟨w.heap.size, 2, none⟩ = some (.slice A n c)) ∧ u.cell? ⟨w.heap.size + 1, 0, none⟩ = some (.string kb) ∧ u.cell? ⟨w.heap.size + 1, 1, none⟩ = some (.string ks)) (first | exact carry.out _ (by first | assumption | (apply HC.out; repeat (with_reducible first | assumption | apply HIP | apply HIQ | apply HIR)))) (first
      | (go_at_call 42; ((with_reducible refine (cf.out _ _ (by first | assumption | (apply HC.out; repeat (with_reducible first | assumption | apply HIP | apply HIQ | apply HIR)))).mono ?_); rintro e w1 ⟨rfl, hb1⟩; (first | (have N := TU.out _ _ _ _ _ _ (by assumption) hb1) | (have N := TU.out _ _ _ _ _ _ (TP.out _ _ _ _ _ (by assumption)) hb1) | (have N := TU.out _ _ _ _ _ _ (TQ.out _ _ _ _ _ (by assumption)) hb1) | (have N := TU.out _ _ _ _ _ _ (TQ.out _ _ _ _ _ (TP.out _ _ _ _ _ (by assumption))) hb1) | (have N := TU.out _ _ _ _ _ _ (TP.out _ _ _ _ _ (TQ.out _ _ _ _ _ (by assumption))) hb1) | (have C := Below.step (w0 := w0) (by assumption) hb1; have N := TM.out _ C)); have M := TI.out _ _ _ _ _ N; have MP := HIP _ _ M; have MQ := HIQ _ _ M; have MR := HIR _ _ M)))
    all_goals
      go_wp2_with fail
      go_meet
      refine ⟨_, rfl, ?_⟩
      repeat (with_reducible first | assumption | apply TP.out | apply TQ.out | apply TR.out)
  case rest =>
    obtain ⟨b, rfl, hT0⟩ := hcut
    have hT := TT.out _ _ _ _ _ hT0
    clear hT0 HIP HIQ HIR HUP HUQ HUR N0 M0
    rename World => w1
    obtain ⟨⟨k0, k1, k2⟩, q0, q1⟩ := carry.out _ hT.c
    have hB1 := b0.trans (hT.c.mono b0.size)
    obtain ⟨h8, h40, _⟩ := goodK_all hk
    have gb := PlainAid.get_bt t
    obtain ⟨ht1, ht60, htl⟩ := goodT_t hg
    have HL := Lib.hid htl
    have HD := Lib.hid (fun k => hdAt_good h8.1 h8.2 l kb ks t k)
    have H1 : Hid (Owned strE 1 9 (w1.alloc (.cells #[.string (roundsS st)] 9)) w1.heap.size (some ⟨w1.heap.size, 0, none⟩) 1 1 (hdsL st l kb ks t 1)) := Lib.hid ⟨strE_len, by simp [hdsL], by simpa [hdsL, hdAt, strE] using World.ownsRow_lit (e := 9) (base := w1.heap.size) (size := 1) w1 #[.string (roundsS st)] 1 (Nat.le_refl _) (by decide) (by simp)⟩
    clear htl hmm
    go_wp2_with fail
    refine (impl_rounds h8.2).mono ?_; rintro e w' ⟨rfl, rfl⟩
    go_wp2
    go_loopw [8, 9, 29] (fun r v i wr => ∃ (k : Nat) (A' : Option Addr) (m c' : Nat), k ≤ t.size ∧ i = .int .i64 k ∧ r = .string (hdAt st l kb ks t k) ∧ v = .slice A' m c' ∧ m = k + 1 ∧ Owned strE 1 9 wr w1.heap.size A' m c' (hdsL st l kb ks t (k + 1)) ∧ Below w1.heap.size w1 wr) (fun _ _ i _ => t.size - (intOf i).toNat)
    case atStart => exact ⟨0, _, _, _, Nat.zero_le _, rfl, rfl, rfl, rfl, H1.out, by (repeat' (first | (with_reducible exact Below.refl _ _) | (with_reducible assumption) | (with_reducible refine below_drewN ?_ _) | (with_reducible refine Below.drew ?_) | (with_reducible refine below_alloc ?_ _) | (with_reducible refine Below.alloc ?_ ?_ _) | (with_reducible refine Below.setCell ?_ ?_ _) | (with_reducible refine below_go ?_ (by with_reducible assumption)) | (with_reducible refine below_then (by with_reducible assumption) ?_ ?_) | go_size))⟩
    case round =>
      obtain ⟨k, A', m, c', hk1, rfl, rfl, rfl, rfl, ho, hb⟩ := hrel
      have HO := Lib.hid ho
      have hsz := hb.size
      clear ho
      by_cases hlt : k < t.size
      · have hLK := (hT.up hb).get KU Tryz.underlying73 Tryz.underlying9 (by kernel_rfl) (keyOf_int_mk Tryz.underlying5 (by decide)) (keyOf_int_mk Tryz.underlying5 (by decide)) (keyOf_int_mk Tryz.underlying5 (by decide))
        have LK : Sem.run Tryz.prog (Instr.lookup 73 (.map (some b)) (.int .u8 (PlainAid.bt t k)) false) wr = .ok (.string (callHd st l kb ks (letter t k))) wr := by
          have hcb := HL.out k hlt
          by_cases f1 : PlainAid.bt t k = 112
          · rw [f1, letter_p hlt f1]; exact hLK.1
          · by_cases f2 : PlainAid.bt t k = 98
            · rw [f2, letter_b hlt f2]; exact hLK.2.1
            · have f3 : PlainAid.bt t k = 115 := by
                rw [callB] at hcb
                simpa [f1, f2] using hcb
              rw [f3, letter_s hlt f3]; exact hLK.2.2
        clear hLK
        have p1 := PG.out (letter t k)
        have p2 := HD.out k
        have z1 : (hdAt st l kb ks t k).size ≤ 16777216 := by rw [p2.2]; omega
        have z2 : (callHd st l kb ks (letter t k)).size ≤ 16777216 := by rw [p1.2]; omega
        have hf : fits (hdAt st l kb ks t k) (callHd st l kb ks (letter t k)) := fits_good p1.1 (by rw [p1.2, p2.2])
        have E := Lib.hid (show timesS (hdAt st l kb ks t k) (callHd st l kb ks (letter t k)) = hdAt st l kb ks t (k + 1) from rfl)
        have HT := Lib.hid (hdsL_succ st l kb ks t (k + 1))
        clear p1 p2
        go_wp2_with (first | (go_at_call 41; refine (impl_times z1 z2 hf).mono ?_; rw [E.out]; rintro e w2 ⟨rfl, hb2⟩; have HO1 := Lib.hid (HO.out.up hb2); have hsz1 := hb2.size) | (at_builtin; go_must ((refine wpList_append_rec Tryz.elStr rfl (.tmp 39) (.tmp 41) rfl rfl (HO1.out.alloc _) (hdAt st l kb ks t (k + 1)) rfl (Box.at_ _ [.string (hdAt st l kb ks t (k + 1))] _ ?_) (strE_one _) ?_ (by decide) ?_ ?_; (focus (first | omega | (simp only [World.size_alloc]; done) | (simp only [World.size_alloc]; omega) | (simp; done) | (simp; omega))); (focus (first | omega | (simp only [World.size_alloc]; done) | (simp only [World.size_alloc]; omega) | (simp; done) | (simp; omega))); (focus (first | omega | (simp only [World.size_alloc]; done) | (simp only [World.size_alloc]; omega) | (simp; done) | (simp; omega))); intro A2 c2 w3 ho3 hg3 hb3))))
        go_roundw
        case rel => exact ⟨k + 1, A2, k + 1 + 1, c2, by omega, by go_num, rfl, by go_num, rfl, by rw [HT.out]; exact ho3, ((hb.trans (hb2.mono hsz)).alloc (by omega) _).trans hb3⟩
        case measure => simp [intOf]; omega
      · obtain rfl : k = t.size := by omega
        go_wp2
        go_ret
        exact ⟨_, _, rfl, HO.out.base_le hB1.size, below_go hB1 hb⟩
end Go.Proofs.YtidolgonmimicaaGreatDoor
