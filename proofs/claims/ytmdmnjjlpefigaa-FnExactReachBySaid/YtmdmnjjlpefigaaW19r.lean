/- The walks through ReachBy, both sides. -/
import Derived.Test.YtmdmnjjlpefigaaW6d
import Derived.Test.YtmdmnjjlpefigaaW19o
import Derived.Test.YtmdmnjjlpefigaaW04i
namespace Go.Proofs.Ytmdmnjjlpefigaa
set_option linter.unusedVariables false
set_option linter.unusedSimpArgs false
open Go.ChangeShapes Go.WideShapes Go.ChangeAt Go.RowKit Go.Deep
def okReach (n : Int) (l : List ByteArray) : Bool := goodWith n l && decide (n ≤ 5)
def reachN (n : Nat) (l : List ByteArray) : Nat := (clF n (l.map (chRow n))).length
def reachR (n : Int) (l : List ByteArray) : Int := if okReach n l = true then (reachN n.toNat l : Int) else 0
theorem reachR_f {n : Int} {l : List ByteArray} (h : okReach n l = false) : reachR n l = 0 := by rw [reachR, if_neg (by rw [h]; simp)]
theorem reachR_t {m : Nat} {l : List ByteArray} (h : okReach m l = true) : reachR m l = (reachN m l : Int) := by rw [reachR, if_pos h]; rfl
theorem chs_rows {n : Nat} (h3 : 3 ≤ n) (h8 : n ≤ 8) (l : List ByteArray) : ∀ g ∈ l.map (chRow n), RowN n g := by
  intro g hg
  obtain ⟨c, _, rfl⟩ := List.mem_map.1 hg
  exact ⟨good_ch ⟨h3, h8⟩ c, chRow_size n c⟩
set_option maxHeartbeats 1000000 in
set_option maxRecDepth 100000 in
theorem impl_ReachBy {A : Option Addr} {N c : Nat} {l : List ByteArray} {n : Int} {w : World} (hN : l.length = N) (h : Strs w A l) (hz : N ≤ 16777216) (hs : ∀ s ∈ l, s.size ≤ 16777216) :
    Calls Try.prog 26 #[.int .i64 n, .slice A N c] w fun e w' => e = .returned (.tuple #[.int .i64 (reachR n l), .bool (okReach n l)]) ∧ Below w.heap.size w w' := by
  have HQ : Hid (okReach n l = (goodWith n l && decide (n ≤ 5))) := Lib.hid rfl
  by_cases h5 : n ≤ 5
  rotate_left
  · have e2 := Lib.hid (show okReach n l = false by rw [HQ.out, decide_eq_false h5, Bool.and_false])
    have e1 := Lib.hid (reachR_f e2.out)
    have hI : (5 : Int) < n := by omega
    go_in
    go_wp2
    go_ret2
    rw [e1.out, e2.out]
    exact ⟨rfl, Below.refl _ _⟩
  have hI : ¬ (5 : Int) < n := by omega
  rcases h1 : goodWith n l
  · have e2 := Lib.hid (show okReach n l = false by rw [HQ.out, h1]; rfl)
    have e1 := Lib.hid (reachR_f e2.out)
    go_in
    go_wp2_with (first | (go_at_call 67; refine (impl_goodWith hN h hz hs).mono ?_; rw [h1]; rintro e w1 ⟨rfl, hb1⟩))
    go_ret2
    rw [e1.out, e2.out]
    exact ⟨rfl, hb1⟩
  obtain ⟨hst, hlen, hall⟩ := goodWith_stage_t h1
  have hn3 := inB_t hst
  have hl30 := inB_t hlen
  obtain ⟨m, rfl⟩ := Int.eq_ofNat_of_zero_le (show 0 ≤ n by omega)
  have e2 := Lib.hid (show okReach m l = true by rw [HQ.out, h1, decide_eq_true h5]; rfl)
  have e1 := Lib.hid (reachR_t e2.out)
  have hm : m ≤ 8 := by omega
  have hm3 : 3 ≤ m := by omega
  have HA := Lib.hid (allCh_mem hall)
  have HS := Lib.hid hs
  have hml : (l.map (chRow m)).length = l.length := List.length_map _
  have HRW := Lib.hid (chs_rows hm3 hm l)
  have hle := (clF_ok hm3 hm HRW.out).le
  have HE := Lib.hid (show reachN m l = (clF m (l.map (chRow m))).length from rfl)
  have hfp := fact_pos m
  have hf40 := fact_le8 hm
  subst hN
  go_in
  go_wp2_with (first | (go_at_call 67; refine (impl_goodWith rfl h hz hs).mono ?_; rw [h1]; rintro e w1 ⟨rfl, hb1⟩; clear hall hs hlen h1 h5))
  have hw1 := hb1.size
  go_loopw [6, 22] (fun v i wr => ∃ (k : Nat) (A' : Option Addr) (c' : Nat), k ≤ l.length ∧ i = .int .i64 k ∧ v = .slice A' k c' ∧ Hid (Owned strE 1 9 wr w1.heap.size A' k c' ((l.map (chRow m)).take k)) ∧ Below w1.heap.size w1 wr) (fun _ i _ => l.length - (intOf i).toNat)
  case atStart => exact ⟨0, _, _, Nat.zero_le _, rfl, rfl, Lib.hid (Owned.empty strE_len 9 w1 (Nat.le_refl _)), by (repeat' (first | (with_reducible exact Below.refl _ _) | (with_reducible assumption) | (with_reducible refine below_drewN ?_ _) | (with_reducible refine Below.drew ?_) | (with_reducible refine below_alloc ?_ _) | (with_reducible refine Below.alloc ?_ ?_ _) | (with_reducible refine Below.setCell ?_ ?_ _) | (with_reducible refine below_go ?_ (by with_reducible assumption)) | (with_reducible refine below_then (by with_reducible assumption) ?_ ?_) | go_size))⟩
  case round =>
    obtain ⟨k, A2, c2, hk, rfl, rfl, HO, hb⟩ := hrel
    rename World => w2
    have hB2 := below_go hb1 hb
    by_cases hlt : k < l.length
    · obtain ⟨b1, o1, y, rfl, hbb, hy, hcy⟩ := (h.below hB2 (Nat.le_refl _)).at_str hlt
      have hys := HS.out y (List.mem_of_getElem? hy)
      have hgv := good_valid (HA.out y (List.mem_of_getElem? hy))
      have HT := Lib.hid (show (l.map (chRow m)).take (k + 1) = (l.map (chRow m)).take k ++ [chRow m y] from map_take_succ _ hy)
      have hs2 := hb.size
      clear hy
      go_wp2_with fail
      refine (impl_changeRow hys hm hgv).mono ?_; rintro e w3 ⟨rfl, hb3⟩
      have hs3 := hb3.size
      have HO3 := Lib.hid (HO.out.up hb3)
      go_wp2_with (first | (at_builtin; go_must ((refine wpList_append_recs Try.elStr strE_one rfl (.tmp 26) (.tmp 30) rfl rfl (HO3.out.alloc _) rfl (own_lit1_at' strE_len w3 9 (chRow m y) rfl (Nat.le_refl _)).recs rfl ?_ (by decide) ?_ ?_; (focus (first | omega | (simp only [World.size_alloc]; done) | (simp only [World.size_alloc]; omega) | (simp; done) | (simp; omega))); (focus (first | omega | (simp only [World.size_alloc]; done) | (simp only [World.size_alloc]; omega) | (simp; done) | (simp; omega))); intro A4 c4 w4 ho4 hg4 hl4))))
      have hb4 : Below w1.heap.size w1 w4 := ((hb.trans (hb3.mono hs2)).alloc (by omega) _).trans (grown_base hg4 (by simp; omega) (fun k hk => (HO3.out.blk hk).1))
      go_roundw
      case rel => exact ⟨k + 1, A4, c4, by omega, by go_num, by go_num, Lib.hid (by rw [HT.out]; exact ho4), hb4⟩
      case measure => simp [intOf]; omega
    · obtain rfl : k = l.length := by omega
      have hot := HO.out
      rw [List.take_of_length_le (by rw [hml]; exact Nat.le_refl _)] at hot
      have HO2 := Lib.hid hot
      clear hot HO
      go_wp2_with (first | (go_at_call 62; refine (impl_factorial hm).mono ?_; rintro e w' ⟨rfl, rfl⟩))
      refine (impl_generated hml HO2.out.recs hz hm3 hm HRW.out hfp (by omega)).mono ?_; rw [decide_eq_true hle]; rintro e w3 ⟨A3, m3, c3, rfl, hy3, hn3', hb3⟩
      obtain ⟨rfl, _⟩ := hy3 hle
      go_wp2
      go_ret2
      rw [e1.out, e2.out, HE.out]
      exact ⟨rfl, below_go hB2 hb3⟩
set_option maxHeartbeats 1000000 in
set_option maxRecDepth 100000 in
theorem spec_ReachBy {A : Option Addr} {N c : Nat} {l : List ByteArray} {n : Int} {w : World} (hN : l.length = N) (h : Strs w A l) (hz : N ≤ 16777216) (hs : ∀ s ∈ l, s.size ≤ 16777216) (hn : I64 n) :
    Calls Try.prog 25 #[.int .i64 n, .slice A N c] w fun e w' => e = .returned (.tuple #[.int .i64 (reachR n l), .bool (okReach n l)]) ∧ Below w.heap.size w w' := by
  have HQ : Hid (okReach n l = (goodWith n l && decide (n ≤ 5))) := Lib.hid rfl
  rcases h5 : inB n 3 5
  · have e2 := Lib.hid (show okReach n l = false by
      rw [HQ.out]
      rcases h1 : goodWith n l
      · rfl
      · have := inB_t (goodWith_stage_t h1).1
        rw [inB, decide_eq_false_iff_not] at h5
        rw [decide_eq_false (by omega)]; rfl)
    have e1 := Lib.hid (reachR_f e2.out)
    go_in
    go_wp2_with (first | (go_at_call 70; refine (spec_l1In _ _ _ _).mono ?_; rw [h5]; rintro e w' ⟨rfl, rfl⟩))
    go_ret2
    rw [e1.out, e2.out]
    exact ⟨rfl, Below.refl _ _⟩
  rcases h1 : goodWith n l
  · have e2 := Lib.hid (show okReach n l = false by rw [HQ.out, h1]; rfl)
    have e1 := Lib.hid (reachR_f e2.out)
    go_in
    go_wp2_with (first | (go_at_call 70; refine (spec_l1In _ _ _ _).mono ?_; rw [h5]; rintro e w' ⟨rfl, rfl⟩) | (go_at_call 63; refine (spec_l19With hN h hz hs hn).mono ?_; rw [h1]; rintro e w' ⟨rfl, rfl⟩))
    go_ret2
    rw [e1.out, e2.out]
    exact ⟨rfl, Below.refl _ _⟩
  obtain ⟨hst, hlen, hall⟩ := goodWith_stage_t h1
  have hn3 := inB_t hst
  have hn5 := inB_t h5
  have hl30 := inB_t hlen
  obtain ⟨m, rfl⟩ := Int.eq_ofNat_of_zero_le (show 0 ≤ n by omega)
  have e2 := Lib.hid (show okReach m l = true by rw [HQ.out, h1, decide_eq_true hn5.2]; rfl)
  have e1 := Lib.hid (reachR_t e2.out)
  have hm : m ≤ 8 := by omega
  have hm3 : 3 ≤ m := by omega
  have HS := Lib.hid hs
  have hml : (l.map (chRow m)).length = l.length := List.length_map _
  have HRW := Lib.hid (chs_rows hm3 hm l)
  have hle := (clF_ok hm3 hm HRW.out).le
  have HE := Lib.hid (show reachN m l = (clF m (l.map (chRow m))).length from rfl)
  have hf5 : fact m ≤ 120 := by
    have : ∀ n, n < 6 → fact n ≤ 120 := of_decide_eq_true (by kernel_rfl)
    exact this m (by omega)
  subst hN
  go_in
  go_wp2_with (first | (go_at_call 70; refine (spec_l1In _ _ _ _).mono ?_; rw [h5]; rintro e w' ⟨rfl, rfl⟩) | (go_at_call 63; refine (spec_l19With rfl h hz hs hn).mono ?_; rw [h1]; rintro e w' ⟨rfl, rfl⟩; clear hall hs hlen h1 h5))
  go_loopw [6, 22] (fun v i wr => ∃ (k : Nat) (A' : Option Addr) (c' : Nat), k ≤ l.length ∧ i = .int .i64 k ∧ v = .slice A' k c' ∧ Hid (Owned strE 1 9 wr w.heap.size A' k c' ((l.map (chRow m)).take k)) ∧ Below w.heap.size w wr) (fun _ i _ => l.length - (intOf i).toNat)
  case atStart => exact ⟨0, none, 0, Nat.zero_le _, rfl, rfl, Lib.hid (Owned.nil strE_len _ _ _), Below.refl _ _⟩
  case round =>
    obtain ⟨k, A2, c2, hk, rfl, rfl, HO, hb⟩ := hrel
    rename World => w2
    by_cases hlt : k < l.length
    · obtain ⟨b1, o1, y, rfl, hbb, hy, hcy⟩ := (h.below hb (Nat.le_refl _)).at_str hlt
      have hys := HS.out y (List.mem_of_getElem? hy)
      have HT := Lib.hid (show (l.map (chRow m)).take (k + 1) = (l.map (chRow m)).take k ++ [chRow m y] from map_take_succ _ hy)
      have hs2 := hb.size
      clear hy
      go_wp2_with fail
      refine (spec_l2Row hys hm).mono ?_; rintro e w3 ⟨rfl, hb3⟩
      have hs3 := hb3.size
      have HO3 := Lib.hid (HO.out.up hb3)
      go_wp2_with (first | (at_builtin; go_must ((refine wpList_append_recs Try.elStr strE_one rfl (.tmp 26) (.tmp 30) rfl rfl (HO3.out.alloc _) rfl (own_lit1_at' strE_len w3 9 (chRow m y) rfl (Nat.le_refl _)).recs rfl ?_ (by decide) ?_ ?_; (focus (first | omega | (simp only [World.size_alloc]; done) | (simp only [World.size_alloc]; omega) | (simp; done) | (simp; omega))); (focus (first | omega | (simp only [World.size_alloc]; done) | (simp only [World.size_alloc]; omega) | (simp; done) | (simp; omega))); intro A4 c4 w4 ho4 hg4 hl4))))
      have hb4 : Below w.heap.size w w4 := ((hb.trans (hb3.mono hs2)).alloc (by omega) _).trans (grown_base hg4 (by simp; omega) (fun k hk => (HO3.out.blk hk).1))
      go_roundw
      case rel => exact ⟨k + 1, A4, c4, by omega, by go_num, by go_num, Lib.hid (by rw [HT.out]; exact ho4), hb4⟩
      case measure => simp [intOf]; omega
    · obtain rfl : k = l.length := by omega
      have hot := HO.out
      rw [List.take_of_length_le (by rw [hml]; exact Nat.le_refl _)] at hot
      have HO2 := Lib.hid hot
      clear hot HO
      have hle8 : (clF m (l.map (chRow m))).length ≤ 800 := by omega
      go_wp2_with fail
      refine (spec_l6Close hml HO2.out.recs (by omega) hz hm3 hm HRW.out).mono ?_; rw [decide_eq_true hle8]; rintro e w3 ⟨A3, m3, c3, rfl, hy3, hn3', hb3⟩
      obtain ⟨rfl, _⟩ := hy3 hle8
      go_wp2
      go_ret2
      rw [e1.out, e2.out, HE.out]
      exact ⟨rfl, below_go hb hb3⟩
end Go.Proofs.Ytmdmnjjlpefigaa
