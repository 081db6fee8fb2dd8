/- The swaps of a change, the program's side; ChangeSign on both sides. -/
import Derived.Test.YtmdmnjjlpefigaaW02i
namespace Go.Proofs.Ytmdmnjjlpefigaa
set_option linter.unusedVariables false
set_option linter.unusedSimpArgs false
open Go.ChangeShapes Go.WideShapes Go.ChangeAt Go.RowKit Go.Deep
theorem impl_placesOf {c : ByteArray} {w : World} (hz : c.size ≤ 16777216) (hg : isDash c = true ∨ validD c = true) :
    Calls Try.prog 162 #[.string c] w fun e w' => ∃ A' c', e = .returned (.slice A' (plsOf c).length c') ∧
      Owned intE 1 3 w' w.heap.size A' (plsOf c).length c' (plsOf c) ∧ Below w.heap.size w w' := by
  rcases h6 : isDash c
  · have h7 : (c.toList == [45]) = false := h6
    have hv : validD c = true := by rcases hg with h | h; rw [h6] at h; cases h; exact h
    have e0 := Lib.hid (plsOf_digs h6)
    have e1 := Lib.hid (plR_t hv)
    go_in
    go_wp2_with (first | (go_at_call 159; refine (impl_places hz).mono ?_; rintro e w1 ⟨A1, c1, rfl, ho1, hb1⟩))
    go_ret
    rw [e0.out, ← e1.out]
    exact ⟨_, _, rfl, ho1, hb1⟩
  · have h7 : (c.toList == [45]) = true := h6
    have e0 := Lib.hid (plsOf_dash h6)
    go_in
    go_wp2
    go_ret
    rw [e0.out]
    exact ⟨_, _, rfl, Owned.empty intE_len _ _ (by simp), by (repeat' (first | (with_reducible exact Below.refl _ _) | (with_reducible assumption) | (with_reducible refine below_drewN ?_ _) | (with_reducible refine Below.drew ?_) | (with_reducible refine below_alloc ?_ _) | (with_reducible refine Below.alloc ?_ ?_ _) | (with_reducible refine Below.setCell ?_ ?_ _) | (with_reducible refine below_go ?_ (by with_reducible assumption)) | (with_reducible refine below_then (by with_reducible assumption) ?_ ?_) | go_size))⟩
def hasI (l : List Int) (p : Int) : Bool := l.contains p
theorem slices_IndexInt {A : Option Addr} {N c : Nat} {l : List Int} {p : Int} {w : World} (hN : l.length = N) (h : Ints w A l) (hz : N ≤ 16777216) :
    Calls Try.prog 189 #[.slice A N c, .int .i64 p] w fun e w' => ∃ r : Int, e = .returned (.int .i64 r) ∧ decide (0 ≤ r) = hasI l p ∧ w = w' := by
  subst hN
  go_in
  go_wp2
  go_loopw [8] (fun i wr => ∃ k : Nat, k ≤ l.length ∧ i = .int .i64 k ∧ Hid (hasI l p = (l.drop k).contains p) ∧ w = wr) (fun i _ => l.length - (intOf i).toNat)
  case atStart => exact ⟨0, Nat.zero_le _, rfl, Lib.hid rfl, rfl⟩
  case round =>
    obtain ⟨k, hk, rfl, HK, rfl⟩ := hrel
    by_cases hlt : k < l.length
    · obtain ⟨b3, o3, y3, rfl, hbb3, hy3, hc3⟩ := h.at_int hlt
      have HD := Lib.hid (show l.drop k = y3 :: l.drop (k + 1) by rw [List.drop_eq_getElem_cons hlt]; congr 1; rw [List.getElem?_eq_getElem hlt] at hy3; injection hy3)
      clear hy3
      rcases he : (p == y3)
      · have e1 := Lib.hid (show hasI l p = (l.drop (k + 1)).contains p by rw [HK.out, HD.out, List.contains_cons, he]; rfl)
        go_wp2
        go_roundw
        case rel => exact ⟨k + 1, by omega, by go_num, e1, trivial⟩
        case measure => simp [intOf]; omega
      · have e1 := Lib.hid (show hasI l p = true by rw [HK.out, HD.out, List.contains_cons, he]; rfl)
        go_wp2
        go_ret
        exact ⟨(k : Int), rfl, by rw [e1.out]; simp, rfl⟩
    · have e1 := Lib.hid (show hasI l p = false by rw [HK.out, List.drop_eq_nil_of_le (by omega)]; rfl)
      go_wp2
      go_ret
      exact ⟨-1, rfl, by rw [e1.out]; rfl, rfl⟩
theorem slices_ContainsInt {A : Option Addr} {N c : Nat} {l : List Int} {p : Int} {w : World} (hN : l.length = N) (h : Ints w A l) (hz : N ≤ 16777216) :
    Calls Try.prog 163 #[.slice A N c, .int .i64 p] w fun e w' => e = .returned (.bool (hasI l p)) ∧ w = w' := by
  go_in
  go_wp2_with (first | (go_at_call 189; refine (slices_IndexInt hN h hz).mono ?_; rintro e w' ⟨r, rfl, hr, rfl⟩))
  go_ret
  exact ⟨ret_bool rfl, rfl⟩
set_option maxRecDepth 100000 in
theorem impl_swapsOf {c : ByteArray} {n : Nat} {w : World} (hz : c.size ≤ 16777216) (hn : n ≤ 8) (hg : isDash c = true ∨ validD c = true) :
    Calls Try.prog 121 #[.int .i64 n, .string c] w fun e w' => ∃ A' c', e = .returned (.slice A' (swaps n c).length c') ∧
      Owned intE 1 3 w' w.heap.size A' (swaps n c).length c' (swaps n c) ∧ Below w.heap.size w w' := by
  have hpz : (plsOf c).length ≤ 16777216 := by
    rcases h6 : isDash c
    · rw [plsOf_digs h6, digs_len]; exact hz
    · rw [plsOf_dash h6]; decide
  go_in
  go_wp2_with (first | (go_at_call 162; refine (impl_placesOf hz hg).mono ?_; rintro e w1 ⟨A1, c1, rfl, ho1, hb1⟩; have hst := ho1.recs; have hsz1 := hb1.size; clear ho1))
  go_loopw [6, 7] (fun v i wr => ∃ (k : Nat) (A' : Option Addr) (m c' : Nat) (l : List Int), k ≤ n + 1 ∧ i = .int .i64 (k + 1 : Nat) ∧ v = .slice A' m c' ∧ Hid (swaps n c = l ++ sws (stays c) n (k + 1)) ∧ m ≤ k ∧ Owned intE 1 3 wr w1.heap.size A' m c' l ∧ Below w1.heap.size w1 wr) (fun _ i _ => n + 2 - (intOf i).toNat)
  case atStart => exact ⟨0, _, _, _, [], by omega, rfl, rfl, Lib.hid rfl, by omega, Owned.empty intE_len _ _ (by simp), by (repeat' (first | (with_reducible exact Below.refl _ _) | (with_reducible assumption) | (with_reducible refine below_drewN ?_ _) | (with_reducible refine Below.drew ?_) | (with_reducible refine below_alloc ?_ _) | (with_reducible refine Below.alloc ?_ ?_ _) | (with_reducible refine Below.setCell ?_ ?_ _) | (with_reducible refine below_go ?_ (by with_reducible assumption)) | (with_reducible refine below_then (by with_reducible assumption) ?_ ?_) | go_size))⟩
  case round =>
    obtain ⟨k, A', m, c', l, hk, rfl, rfl, HK, hmk, ho, hb⟩ := hrel
    have HO := Lib.hid ho
    have hsz := hb.size
    have hS := Lib.hid (hst.below hb (Nat.le_refl _))
    clear ho hst
    by_cases hlt : k + 1 < n
    · have hpc : Hid (hasI (plsOf c) ((k : Int) + 1) = stays c ((k : Int) + 1)) := Lib.hid (pls_has (c := c) (p := (k : Int) + 1) (by omega))
      rcases hs : stays c ((k : Int) + 1)
      · have e1 := Lib.hid (sws_swap hlt hs)
        have hs2 : hasI (plsOf c) ((k : Int) + 1) = false := hpc.out.trans hs
        go_wp2_with (first | (go_at_call 163; refine (slices_ContainsInt rfl hS.out hpz).mono ?_; rintro e w' ⟨rfl, rfl⟩) | (at_builtin; go_must ((refine wpList_append_rec Try.elInt rfl (.tmp 20) (.tmp 22) rfl rfl (HO.out.alloc _) ((k : Int) + 1) rfl (Box.at_ _ [.int .i64 ((k : Int) + 1)] _ ?_) (intE_one _) ?_ (by decide) ?_ ?_; (focus (first | omega | (simp only [World.size_alloc]; done) | (simp only [World.size_alloc]; omega) | (simp; done) | (simp; omega))); (focus (first | omega | (simp only [World.size_alloc]; done) | (simp only [World.size_alloc]; omega) | (simp; done) | (simp; omega))); (focus (first | omega | (simp only [World.size_alloc]; done) | (simp only [World.size_alloc]; omega) | (simp; done) | (simp; omega))); intro A2 c2 w2 ho2 hg2 hb2))))
        go_roundw
        case rel => exact ⟨k + 2, A2, m + 1, c2, l ++ [((k + 1 : Nat) : Int)], by omega, by go_num, by go_num, Lib.hid (by rw [HK.out, e1.out, List.append_assoc]; rfl), by omega, ho2, (hb.alloc hsz _).trans hb2⟩
        case measure => simp [intOf]; omega
      · have e1 := Lib.hid (sws_stay hlt hs)
        have hs2 : hasI (plsOf c) ((k : Int) + 1) = true := hpc.out.trans hs
        go_wp2_with (first | (go_at_call 163; refine (slices_ContainsInt rfl hS.out hpz).mono ?_; rintro e w' ⟨rfl, rfl⟩))
        go_roundw
        case rel => exact ⟨k + 1, A', m, c', l, by omega, by go_num, rfl, Lib.hid (by rw [HK.out, e1.out]), by omega, HO.out, by (repeat' (first | (with_reducible exact Below.refl _ _) | (with_reducible assumption) | (with_reducible refine below_drewN ?_ _) | (with_reducible refine Below.drew ?_) | (with_reducible refine below_alloc ?_ _) | (with_reducible refine Below.alloc ?_ ?_ _) | (with_reducible refine Below.setCell ?_ ?_ _) | (with_reducible refine below_go ?_ (by with_reducible assumption)) | (with_reducible refine below_then (by with_reducible assumption) ?_ ?_) | go_size))⟩
        case measure => simp [intOf]; omega
    · have e1 := Lib.hid (show swaps n c = l by rw [HK.out, sws_end hlt, List.append_nil])
      have hl := HO.out.len
      go_wp2
      go_ret
      rw [e1.out, hl]
      exact ⟨_, _, rfl, HO.out.base_le hsz1, below_go hb1 hb⟩
def signR (n : Int) (c : ByteArray) : Bool := goodChange n c && evenSwaps n.toNat c
end Go.Proofs.Ytmdmnjjlpefigaa
