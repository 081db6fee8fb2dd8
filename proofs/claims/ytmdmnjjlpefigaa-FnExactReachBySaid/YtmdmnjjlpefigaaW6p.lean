/- The walk through a row's place, the reference's side; the row of marks by places. -/
import Derived.Test.YtmdmnjjlpefigaaP6c
import Derived.Test.YtmdmnjjlpefigaaW7c
import Derived.Test.YtmdmnjjlpefigaaP18
namespace Go.Proofs.Ytmdmnjjlpefigaa
set_option linter.unusedVariables false
set_option linter.unusedSimpArgs false
open Go.ChangeShapes Go.WideShapes Go.ChangeAt Go.RowKit Go.Deep
theorem nums_drop {s : ByteArray} {k : Nat} (h : k < s.size) : (nums s).drop k = PlainAid.bt s k :: (nums s).drop (k + 1) := drop_someZ (nums_at h)
set_option maxRecDepth 100000 in
theorem spec_l1Place {s : ByteArray} {w : World} (hz : s.size ≤ 8) :
    Calls Try.prog 113 #[.string s] w fun e w' => e = .returned (.int .i64 (place s)) ∧ Below w.heap.size w w' := by
  have gb := PlainAid.get_bt s
  have hpl := place_lt s
  have h40 := fact_le s.size (by omega)
  have hP : place s ≤ 40320 := by omega
  have H0 := Lib.hid (show lh 0 ((nums s).drop 0) = place s from (place_lh s).symm)
  have HL := Lib.hid (fun k (r : List Int) => lh_le r k)
  have HC := Lib.hid (fun x (r : List Int) => cnt_le x r)
  clear hpl h40
  go_in
  go_wp2
  go_loopw [3, 4] (fun v i wr => ∃ i' k : Nat, i' ≤ s.size ∧ i = .int .i64 i' ∧ v = .int .i64 k ∧ k ≤ place s ∧ Hid (lh k ((nums s).drop i') = place s) ∧ Below w.heap.size w wr) (fun _ i _ => s.size - (intOf i).toNat)
  case atStart => exact ⟨0, 0, Nat.zero_le _, rfl, rfl, Nat.zero_le _, H0, Below.refl _ _⟩
  case round =>
    obtain ⟨i, k, hi, rfl, rfl, hk, HK, hbl⟩ := hrel
    by_cases hlt : i < s.size
    · have HD := Lib.hid (nums_drop hlt)
      go_wp2
      go_loopw [5, 6] (fun v x wr => ∃ j q : Nat, i + 1 ≤ j ∧ j ≤ s.size ∧ x = .int .i64 j ∧ v = .int .i64 q ∧ q ≤ j ∧ Hid (q + cnt (PlainAid.bt s i) ((nums s).drop j) = cnt (PlainAid.bt s i) ((nums s).drop (i + 1))) ∧ Below w.heap.size w wr) (fun _ x _ => s.size - (intOf x).toNat)
      case atStart => exact ⟨i + 1, 0, Nat.le_refl _, hlt, by go_num, rfl, Nat.zero_le _, Lib.hid (Nat.zero_add _), hbl⟩
      case round =>
        obtain ⟨j, q, hij, hj, rfl, rfl, hq, HQ, hb2⟩ := hrel
        by_cases hjl : j < s.size
        · have HJ := Lib.hid (nums_drop hjl)
          by_cases hc : PlainAid.bt s j < PlainAid.bt s i
          · have E := Lib.hid (show q + 1 + cnt (PlainAid.bt s i) ((nums s).drop (j + 1)) = cnt (PlainAid.bt s i) ((nums s).drop (i + 1)) by rw [← HQ.out, HJ.out, cnt_cons, if_pos hc]; omega)
            go_wp2
            go_quiet (fail)
            go_wp2
            go_roundw
            case rel => exact ⟨j + 1, q + 1, by omega, by omega, by go_num, by go_num, by omega, E, by (repeat' (first | (with_reducible exact Below.refl _ _) | (with_reducible assumption) | (with_reducible refine below_drewN ?_ _) | (with_reducible refine Below.drew ?_) | (with_reducible refine below_alloc ?_ _) | (with_reducible refine Below.alloc ?_ ?_ _) | (with_reducible refine Below.setCell ?_ ?_ _) | (with_reducible refine below_go ?_ (by with_reducible assumption)) | (with_reducible refine below_then (by with_reducible assumption) ?_ ?_) | go_size))⟩
            case measure => simp [intOf]; omega
          · have E := Lib.hid (show q + cnt (PlainAid.bt s i) ((nums s).drop (j + 1)) = cnt (PlainAid.bt s i) ((nums s).drop (i + 1)) by rw [← HQ.out, HJ.out, cnt_cons, if_neg hc]; omega)
            go_wp2
            go_quiet (fail)
            go_wp2
            go_roundw
            case rel => exact ⟨j + 1, q, by omega, by omega, by go_num, rfl, by omega, E, by (repeat' (first | (with_reducible exact Below.refl _ _) | (with_reducible assumption) | (with_reducible refine below_drewN ?_ _) | (with_reducible refine Below.drew ?_) | (with_reducible refine below_alloc ?_ _) | (with_reducible refine Below.alloc ?_ ?_ _) | (with_reducible refine Below.setCell ?_ ?_ _) | (with_reducible refine below_go ?_ (by with_reducible assumption)) | (with_reducible refine below_then (by with_reducible assumption) ?_ ?_) | go_size))⟩
            case measure => simp [intOf]; omega
        · obtain rfl : j = s.size := by omega
          have E := Lib.hid (show q = cnt (PlainAid.bt s i) ((nums s).drop (i + 1)) by
            rw [← HQ.out, List.drop_eq_nil_of_le (by rw [nums_len]; exact Nat.le_refl _)]; rfl)
          have E2 := Lib.hid (show lh (k * (s.size - i) + q) ((nums s).drop (i + 1)) = place s by
            rw [← HK.out, HD.out, lh, E.out, List.length_drop, nums_len, show s.size - (i + 1) + 1 = s.size - i by omega])
          have h1 : k * (s.size - i) + q ≤ place s := by
            have := HL.out (k * (s.size - i) + q) ((nums s).drop (i + 1))
            rw [E2.out] at this; exact this
          obtain ⟨p, hp⟩ : ∃ p, p = k * (s.size - i) := ⟨_, rfl⟩
          have e0 : (s.size : Int) - (i : Int) = ((s.size - i : Nat) : Int) := by omega
          have e3 : (k : Int) * ((s.size : Int) - (i : Int)) = (p : Int) := by rw [e0, hp]; push_cast; rfl
          rw [← hp] at E2 h1
          have e4 : IntKind.i64.wrap ((s.size : Int) - (i : Int)) = (s.size : Int) - (i : Int) := wrap_id (by omega)
          have e5 : IntKind.i64.wrap ((k : Int) * ((s.size : Int) - (i : Int))) = (p : Int) := by rw [e3]; exact wrap_id (by omega)
          have e6 : IntKind.i64.wrap ((p : Int) + (q : Int)) = ((p + q : Nat) : Int) := by rw [wrap_id (by omega)]; push_cast; rfl
          clear hp e0 e3
          go_wp2
          go_roundw
          case rel => exact ⟨i + 1, p + q, by omega, by go_num, by go_num, h1, E2, hb2⟩
          case measure => simp [intOf]; omega
    · obtain rfl : i = s.size := by omega
      have E := Lib.hid (show k = place s by
        rw [← HK.out, List.drop_eq_nil_of_le (by rw [nums_len]; exact Nat.le_refl _)]; rfl)
      go_wp2
      go_ret
      rw [E.out]
      exact ⟨rfl, hbl⟩
/-- Which rows of a stage a list has, by their places. -/
def MarkR (n : Nat) (L : List ByteArray) (m : List Bool) : Prop := m.length = fact n ∧ ∀ s, RowN n s → m[place s]? = some (inL L s)
theorem MarkR.none (n : Nat) : MarkR n [] (List.replicate (fact n) false) :=
  ⟨by simp, fun s hs => by rw [List.getElem?_replicate, if_pos (rowN_place hs)]; rfl⟩
theorem MarkR.add {n : Nat} {L : List ByteArray} {m : List Bool} {x : ByteArray} (h : MarkR n L m) (hx : RowN n x) : MarkR n (L ++ [x]) (m.set (place x) true) := by
  refine ⟨by rw [List.length_set]; exact h.1, fun s hs => ?_⟩
  rw [List.getElem?_set]
  by_cases e : place x = place s
  · rw [if_pos e, if_pos (by rw [h.1]; exact rowN_place hx)]
    rw [rowN_inj hx hs e, inL_iff.2 (by simp)]
  · rw [if_neg e, h.2 s hs]
    have hne : ¬ x = s := fun q => e (by rw [q])
    congr 1
    rw [inL, inL, List.any_append]
    simp [hne]
theorem MarkR.at_ {n : Nat} {L : List ByteArray} {m : List Bool} {x : ByteArray} (h : MarkR n L m) (hx : RowN n x) : m[place x]? = some (inL L x) := h.2 x hx
theorem spec_l6Seen {n : Nat} {w : World} (h8 : n ≤ 8) :
    Calls Try.prog 114 #[.int .i64 n] w fun e w' => ∃ g, e = .returned (.slice (some ⟨g, 0, none⟩) (fact n) (fact n)) ∧ Owned boolE 1 4 w' w.heap.size (some ⟨g, 0, none⟩) (fact n) (fact n) (List.replicate (fact n) false) ∧ Below w.heap.size w w' := by
  have h40 := fact_le n (by omega)
  have hmk := run_make_rec (P := Try.prog) (e := boolE) Try.elBool false rfl (fact n) (by omega) (by decide)
  have O0 := Owned.made (e := boolE) boolE_len w 4 false (fact n) (by omega) (Nat.le_refl w.heap.size)
  go_in
  go_wp2_with (first | (go_at_call 57; refine (spec_l1Fact h8).mono ?_; rintro e w' ⟨rfl, rfl⟩))
  go_ret
  exact ⟨_, rfl, by simpa using O0, by (repeat' (first | (with_reducible exact Below.refl _ _) | (with_reducible assumption) | (with_reducible refine below_drewN ?_ _) | (with_reducible refine Below.drew ?_) | (with_reducible refine below_alloc ?_ _) | (with_reducible refine Below.alloc ?_ ?_ _) | (with_reducible refine Below.setCell ?_ ?_ _) | (with_reducible refine below_go ?_ (by with_reducible assumption)) | (with_reducible refine below_then (by with_reducible assumption) ?_ ?_) | go_size))⟩
end Go.Proofs.Ytmdmnjjlpefigaa
