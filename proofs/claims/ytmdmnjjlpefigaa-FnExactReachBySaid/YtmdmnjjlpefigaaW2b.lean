/- The walks through the text of places and the list of all changes, the reference's side. -/
import Derived.Test.YtmdmnjjlpefigaaW2a
import Derived.Test.YtmdmnjjlpefigaaW02
namespace Go.Proofs.Ytmdmnjjlpefigaa
set_option linter.unusedVariables false
set_option linter.unusedSimpArgs false
open Go.ChangeShapes Go.WideShapes Go.ChangeAt Go.RowKit Go.Deep
theorem spec_l1Num_1 {x : Int} {w : World} (h0 : 0 ≤ x) (h1 : x ≤ 9) :
    Calls Try.prog 208 #[.int .i64 x] w fun e w' => e = .returned (.string (dig1 x)) ∧ Below w.heap.size w w' := by
  have hI : x < 10 := by omega
  have hcv := run_convert_bytes_arg (P := Try.prog) (w.alloc (.cells #[.int .u8 (48 + x)] 5)) 129 5 Try.underlying129 Try.underlying5 w.heap.size 0 1 1 [48 + x] rfl (fun i hi => by
    obtain rfl : i = 0 := by omega
    exact Box.new w [.int .u8 (48 + x)] 5 0 _ rfl) 9 Try.underlying9
  have hdef : strOfNums [48 + x] = dig1 x := rfl
  rw [hdef] at hcv
  clear hdef
  go_in
  go_wp2
  go_ret
  exact ⟨rfl, by (repeat' (first | (with_reducible exact Below.refl _ _) | (with_reducible assumption) | (with_reducible refine below_drewN ?_ _) | (with_reducible refine Below.drew ?_) | (with_reducible refine below_alloc ?_ _) | (with_reducible refine Below.alloc ?_ ?_ _) | (with_reducible refine Below.setCell ?_ ?_ _) | (with_reducible refine below_go ?_ (by with_reducible assumption)) | (with_reducible refine below_then (by with_reducible assumption) ?_ ?_) | go_size))⟩
set_option maxRecDepth 100000 in
theorem spec_l2Of {A : Option Addr} {n c : Nat} {l : List Int} {w : World} (hn : l.length = n) (h : Ints w A l) (hz : n ≤ 8) (hl : ∀ x ∈ l, 0 ≤ x ∧ x ≤ 9) :
    Calls Try.prog 187 #[.slice A n c] w fun e w' => e = .returned (.string (ofPl l)) ∧ Below w.heap.size w w' := by
  subst hn
  have HL := Lib.hid hl
  clear hl
  go_in
  go_wp2
  go_loopw [3, 8] (fun v i wr => ∃ k : Nat, k ≤ l.length ∧ i = .int .i64 k ∧ v = .string (placesS (l.take k)) ∧ Below w.heap.size w wr) (fun _ i _ => l.length - (intOf i).toNat)
  case atStart => exact ⟨0, Nat.zero_le _, rfl, rfl, Below.refl _ _⟩
  case round =>
    obtain ⟨k, hk, rfl, rfl, hb⟩ := hrel
    by_cases hlt : k < l.length
    · obtain ⟨b1, o1, x, rfl, _, hx, hcx⟩ := (h.below hb (Nat.le_refl _)).at_int hlt
      have hxb := HL.out x (List.mem_of_getElem? hx)
      have e1 := Lib.hid (show placesS (l.take (k + 1)) = placesS (l.take k) ++ dig1 x by rw [take_succ_some hx, placesS_snoc])
      have hs1 : (placesS (l.take k)).size ≤ 8 := by rw [placesS_size, List.length_take]; omega
      have hs2 : (dig1 x).size = 1 := rfl
      clear hx h
      go_wp2_with (first | (go_at_call 208; refine (spec_l1Num_1 hxb.1 hxb.2).mono ?_; rintro e w1 ⟨rfl, hb1⟩))
      go_roundw
      case rel => exact ⟨k + 1, by omega, by go_num, by rw [e1.out], below_go hb hb1⟩
      case measure => simp [intOf]; omega
    · obtain rfl : k = l.length := by omega
      rw [List.take_of_length_le (Nat.le_refl _)]
      by_cases h0 : l.length = 0
      · have e1 := Lib.hid (ofPl_0 h0)
        have e2 : (placesS l).toList.isEmpty = true ∧ (placesS l).toList = [] := no_bytes (by rw [placesS_size]; omega)
        obtain ⟨e3, e4⟩ := e2
        go_wp2
        go_ret
        rw [e1.out]
        exact ⟨rfl, hb⟩
      · have e1 := Lib.hid (ofPl_pos (l := l) (by omega))
        have e2 : (placesS l).toList.isEmpty = false ∧ ¬ (placesS l).toList = [] := some_bytes (by rw [placesS_size]; omega)
        obtain ⟨e3, e4⟩ := e2
        go_wp2
        go_ret
        rw [e1.out]
        exact ⟨rfl, hb⟩
end Go.Proofs.Ytmdmnjjlpefigaa
