/- The walks through the row of a change, the reference's side. -/
import Derived.Test.YtmdmnjjlpefigaaW02s
import Derived.Test.YtmdmnjjlpefigaaP04
namespace Go.Proofs.Ytmdmnjjlpefigaa
set_option linter.unusedVariables false
set_option linter.unusedSimpArgs false
open Go.ChangeShapes Go.WideShapes Go.ChangeAt Go.RowKit Go.Deep
theorem spec_l1Rounds {n : Nat} {w : World} (hn : n ≤ 8) :
    Calls Try.prog 66 #[.int .i64 n] w fun e w' => e = .returned (.string (roundsS n)) ∧ w = w' := by
  go_in
  go_wp2
  go_ret
  exact ⟨rfl, rfl⟩
theorem impl_rounds {n : Nat} {w : World} (hn : n ≤ 8) :
    Calls Try.prog 68 #[.int .i64 n] w fun e w' => e = .returned (.string (roundsS n)) ∧ w = w' := by
  go_in
  go_wp2
  go_ret
  exact ⟨rfl, rfl⟩
set_option maxRecDepth 100000 in
theorem spec_l2Row {c : ByteArray} {n : Nat} {w : World} (hz : c.size ≤ 16777216) (hn : n ≤ 8) :
    Calls Try.prog 75 #[.int .i64 n, .string c] w fun e w' => e = .returned (.string (chRow n c)) ∧ Below w.heap.size w w' := by
  have hcv := run_bytes (P := Try.prog) (src := 9) (dst := 129) (e := 5) (roundsS n) Try.underlying9 Try.underlying129 Try.underlying5
  have hrs := rounds_size n (by omega)
  rw [hrs] at hcv
  have hE : Hid (chRow n c = strOfNums (rowV n (swaps n c))) := Lib.hid rfl
  go_in
  go_wp2_with (first | (go_at_call 66; refine (spec_l1Rounds hn).mono ?_; rintro e w' ⟨rfl, rfl⟩))
  have hr0 := bytesW_row w 5 (roundsS n)
  have hb0 := bytesW_below w 5 (roundsS n)
  rw [rowV_nil n (by omega)] at hr0
  clear hcv
  generalize grownCap w n 0 5 = cc
  go_loopw [6] (fun i wr => ∃ (k : Nat) (l : List Int), k ≤ n + 1 ∧ i = .int .i64 (k + 1 : Nat) ∧ Hid (swaps n c = l ++ sws (stays c) n (k + 1)) ∧ Hid (∀ x ∈ l, x + 2 ≤ ((k + 1 : Nat) : Int)) ∧ Hid (BRow wr w.heap.size (rowV n l)) ∧ Below w.heap.size w wr) (fun i _ => n + 2 - (intOf i).toNat)
  case atStart => exact ⟨0, [], by omega, rfl, Lib.hid rfl, Lib.hid (fun x hx => by cases hx), Lib.hid hr0, hb0⟩
  case round =>
    obtain ⟨k, l, hk, rfl, HK, HL, HR, hb⟩ := hrel
    by_cases hlt : k + 1 < n
    · have hI : I64 ((k : Int) + 1) := by unfold I64; omega
      rcases hs : stays c ((k : Int) + 1)
      · have e1 := Lib.hid (sws_swap hlt hs)
        have hrow := Lib.hid (rowV_step (p := k + 1) (by omega) hlt HL.out)
        have hlen := rowV_len n l
        have c1 := HR.out.2.1 k _ (List.getElem?_eq_getElem (by omega))
        have c2 := HR.out.2.1 (k + 1) _ (List.getElem?_eq_getElem (by omega))
        have f1 := HR.out.2.2 k (by omega)
        have f2 := HR.out.2.2 (k + 1) (by omega)
        have hR2 := Lib.hid ((HR.out.set (k := k) (by omega) (49 + ((k + 1 : Nat) : Int))).set (k := k + 1) (by rw [List.length_set]; omega) (48 + ((k + 1 : Nat) : Int)))
        go_wp2_with (first | (go_at_call 119; refine (spec_l2Stays hz hI).mono ?_; rintro e w' ⟨rfl, rfl⟩))
        go_roundw
        case rel => exact ⟨k + 2, l ++ [((k + 1 : Nat) : Int)], by omega, by go_num, Lib.hid (by rw [HK.out, e1.out, List.append_assoc]; rfl), Lib.hid (fun x hx => by
            rcases List.mem_append.1 hx with hx | hx
            · have := HL.out x hx; omega
            · rw [List.mem_singleton.1 hx]; omega), Lib.hid (by rw [hrow.out]; exact hR2.out), by (repeat' (first | (with_reducible exact Below.refl _ _) | (with_reducible assumption) | (with_reducible refine below_drewN ?_ _) | (with_reducible refine Below.drew ?_) | (with_reducible refine below_alloc ?_ _) | (with_reducible refine Below.alloc ?_ ?_ _) | (with_reducible refine Below.setCell ?_ ?_ _) | (with_reducible refine below_go ?_ (by with_reducible assumption)) | (with_reducible refine below_then (by with_reducible assumption) ?_ ?_) | go_size))⟩
        case measure => simp [intOf]; omega
      · have e1 := Lib.hid (sws_stay hlt hs)
        go_wp2_with (first | (go_at_call 119; refine (spec_l2Stays hz hI).mono ?_; rintro e w' ⟨rfl, rfl⟩))
        go_roundw
        case rel => exact ⟨k + 1, l, by omega, by go_num, Lib.hid (by rw [HK.out, e1.out]), Lib.hid (fun x hx => by have := HL.out x hx; omega), HR, hb⟩
        case measure => simp [intOf]; omega
    · have e1 := Lib.hid (show swaps n c = l by rw [HK.out, sws_end hlt, List.append_nil])
      have ht := HR.out.text (P := Try.prog) (src := 129) (e := 5) (dst := 9) n cc (rowV_len n l) Try.underlying129 Try.underlying5 Try.underlying9
      go_wp2
      go_ret
      rw [hE.out, e1.out]
      exact ⟨rfl, hb⟩
end Go.Proofs.Ytmdmnjjlpefigaa
