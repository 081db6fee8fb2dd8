/- The laws' own conversions of methods and calls: copying, comparing, counting, marking. -/
import Derived.Test.YtmdmnjjlpefigaaCstrs
import Derived.Test.YtmdmnjjlpefigaaP6s
namespace Go.Proofs.Ytmdmnjjlpefigaa
set_option linter.unusedVariables false
set_option linter.unusedSimpArgs false
open Go.ChangeShapes Go.WideShapes Go.ChangeAt Go.RowKit Go.Deep
set_option maxHeartbeats 1000000 in
theorem laws_toMethod {A : Option Addr} {n c : Nat} {nm : ByteArray} {st : Int} {l : List ByteArray} {w : World} (hn : l.length = n) (h : Strs w A l) (hz : n ≤ 1048576) :
    Calls Try.prog 30 #[.agg #[.string nm, .int .i64 st, .slice A n c]] w fun e w' => ∃ g, e = .returned (.agg #[.string nm, .int .i64 st, .slice (some ⟨g, 0, none⟩) n n]) ∧ Owned strE 1 9 w' w.heap.size (some ⟨g, 0, none⟩) n n l ∧ Below w.heap.size w w' := by
  have b0 : Below w.heap.size w (((w.alloc (.cells ⟨[.string nm, .int .i64 st, .slice A n c]⟩ 36)).alloc (.cells ⟨[.string { data := #[] }, .int .i64 0, .slice none 0 0]⟩ 42)).alloc (.cells ⟨[.string nm, .int .i64 st, .slice none 0 0]⟩ 42)) := by (repeat' (first | (with_reducible exact Below.refl _ _) | (with_reducible assumption) | (with_reducible refine below_drewN ?_ _) | (with_reducible refine Below.drew ?_) | (with_reducible refine below_alloc ?_ _) | (with_reducible refine Below.alloc ?_ ?_ _) | (with_reducible refine Below.setCell ?_ ?_ _) | (with_reducible refine below_go ?_ (by with_reducible assumption)) | (with_reducible refine below_then (by with_reducible assumption) ?_ ?_) | go_size))
  have K1 := (Blk.at_ (w.alloc (.cells ⟨[.string nm, .int .i64 st, .slice A n c]⟩ 36)) 42 [.string { data := #[] }, .int .i64 0, .slice none 0 0] (b := w.heap.size + 1) (by simp)).alloc (.cells ⟨[.string nm, .int .i64 st, .slice none 0 0]⟩ 42)
  have K2 := Blk.at_ ((w.alloc (.cells ⟨[.string nm, .int .i64 st, .slice A n c]⟩ 36)).alloc (.cells ⟨[.string { data := #[] }, .int .i64 0, .slice none 0 0]⟩ 42)) 42 [.string nm, .int .i64 st, .slice none 0 0] (b := w.heap.size + 1 + 1) (by simp)
  go_in
  go_wp2_with fail
  obtain ⟨w0, hw0⟩ : ∃ u, u = (((w.alloc (.cells #[.string nm, .int .i64 st, .slice A n c] 36)).alloc (.cells #[.string { data := #[] }, .int .i64 0, .slice none 0 0] 42)).alloc (.cells #[.string nm, .int .i64 st, .slice none 0 0] 42)) := ⟨_, rfl⟩
  rw [← hw0] at b0 K1 K2 ⊢
  have sz0 : w.heap.size + 3 ≤ w0.heap.size := by rw [hw0]; simp
  clear hw0
  refine (laws_toStringS _ _ _ _ _ hn (h.up b0) hz).mono ?_; rintro e w1 ⟨g, rfl, ho, hb1⟩
  have L1 := K1.up hb1; have L2 := K2.up hb1
  have q0 := L1.cell 0; have q1 := L1.cell 1; have q2 := L1.cell 2
  have f0 := L1.frozen 0; have f1 := L1.frozen 1; have f2 := L1.frozen 2
  have r0 := L2.cell 0; have r1 := L2.cell 1; have r2 := L2.cell 2
  have t2 := L2.frozen 2
  simp only [List.getElem?_cons_zero, List.getElem?_cons_succ] at q0 q1 q2 r0 r1 r2
  have hg := ho.at_own
  go_wp2
  refine bodyPost_ret (v := .agg #[.string nm, .int .i64 st, .slice (some ⟨g, 0, none⟩) n n]) (by simp [results, Try.results30, go_sem, World.cell?_setCell_same, q0, q1, q2]) rfl ?_
  have gg : w1.grownBy ((((w1.setCell ⟨w.heap.size + 1 + 1, 2, none⟩ (.slice (some ⟨g, 0, none⟩) n n)).setCell ⟨w.heap.size + 1, 0, none⟩ (.string nm)).setCell ⟨w.heap.size + 1, 1, none⟩ (.int .i64 st)).setCell ⟨w.heap.size + 1, 2, none⟩ (.slice (some ⟨g, 0, none⟩) n n)) (some 0) ∨ True := .inr trivial
  have o1 := ho.past (only_set w1 (p := ⟨w.heap.size + 1 + 1, 2, none⟩) (.slice (some ⟨g, 0, none⟩) n n)) (by show w.heap.size + 1 + 1 < w0.heap.size; omega)
  have o2 := o1.past (only_set _ (p := ⟨w.heap.size + 1, 0, none⟩) (.string nm)) (by show w.heap.size + 1 < w0.heap.size; omega)
  have o3 := o2.past (only_set _ (p := ⟨w.heap.size + 1, 1, none⟩) (.int .i64 st)) (by show w.heap.size + 1 < w0.heap.size; omega)
  have o4 := o3.past (only_set _ (p := ⟨w.heap.size + 1, 2, none⟩) (.slice (some ⟨g, 0, none⟩) n n)) (by show w.heap.size + 1 < w0.heap.size; omega)
  have B1 := below_go b0 hb1
  exact ⟨g, rfl, o4.base_le (by omega), (((B1.setCell (p := ⟨w.heap.size + 1 + 1, 2, none⟩) (by show w.heap.size ≤ w.heap.size + 1 + 1; omega) _).setCell (p := ⟨w.heap.size + 1, 0, none⟩) (Nat.le_succ _) _).setCell (p := ⟨w.heap.size + 1, 1, none⟩) (Nat.le_succ _) _).setCell (p := ⟨w.heap.size + 1, 2, none⟩) (Nat.le_succ _) _⟩
theorem laws_toCalls {kb ks : ByteArray} {w : World} :
    Calls Try.prog 31 #[.agg #[.string kb, .string ks]] w fun e w' => e = .returned (.agg #[.string kb, .string ks]) ∧ Below w.heap.size w w' := by
  go_in
  go_wp2
  go_returns
  exact ⟨rfl, by (repeat' (first | (with_reducible exact Below.refl _ _) | (with_reducible assumption) | (with_reducible refine below_drewN ?_ _) | (with_reducible refine Below.drew ?_) | (with_reducible refine below_alloc ?_ _) | (with_reducible refine Below.alloc ?_ ?_ _) | (with_reducible refine Below.setCell ?_ ?_ _) | (with_reducible refine below_go ?_ (by with_reducible assumption)) | (with_reducible refine below_then (by with_reducible assumption) ?_ ?_) | go_size))⟩
/-- The bytes of a method. -/
def szM (nm : ByteArray) (l : List ByteArray) : Int := (nm.size : Int) + szS l
def szK (kb ks : ByteArray) : Int := (kb.size : Int) + (ks.size : Int)
def leftV (left z : Int) : Int := if z ≤ left then left - z else -1
theorem leftV_t {left z : Int} (h : z ≤ left) : leftV left z = left - z := by rw [leftV, if_pos h]
theorem leftV_f {left z : Int} (h : left < z) : leftV left z = -1 := by rw [leftV, if_neg (by omega)]
theorem szS_nonneg (l : List ByteArray) : 0 ≤ szS l := by have := szS_len l; omega
theorem laws_szMethod {A : Option Addr} {n c : Nat} {nm : ByteArray} {st : Int} {l : List ByteArray} {left : Int} {w : World} (hn : l.length = n) (h : Strs w A l) (h1 : left ≤ 1048576) (h0 : 0 ≤ left) (hm : l.length ≤ 9223372036854775807) (hs : ∀ s ∈ l, s.size ≤ maxLen) (hnm : nm.size ≤ maxLen) :
    Calls Try.prog 27 #[.agg #[.string nm, .int .i64 st, .slice A n c], .int .i64 left] w fun e w' => e = .returned (.int .i64 (leftV left (szM nm l))) ∧ Below w.heap.size w w' := by
  have b0 : Below w.heap.size w (w.alloc (.cells ⟨[.string nm, .int .i64 st, .slice A n c]⟩ 36)) := by (repeat' (first | (with_reducible exact Below.refl _ _) | (with_reducible assumption) | (with_reducible refine below_drewN ?_ _) | (with_reducible refine Below.drew ?_) | (with_reducible refine below_alloc ?_ _) | (with_reducible refine Below.alloc ?_ ?_ _) | (with_reducible refine Below.setCell ?_ ?_ _) | (with_reducible refine below_go ?_ (by with_reducible assumption)) | (with_reducible refine below_then (by with_reducible assumption) ?_ ?_) | go_size))
  have hsn := szS_nonneg l
  have hZ : Hid (szM nm l = (nm.size : Int) + szS l) := Lib.hid rfl
  unfold maxLen at hnm
  by_cases hc1 : (nm.size : Int) ≤ left
  · have hI : ¬ left - (nm.size : Int) < 0 := by omega
    by_cases hc2 : szS l ≤ left - (nm.size : Int)
    · have e1 := Lib.hid (show leftV left (szM nm l) = left - (nm.size : Int) - szS l by rw [leftV_t (by rw [hZ.out]; omega), hZ.out]; omega)
      have hJ : ¬ left - (nm.size : Int) - szS l < 0 := by omega
      go_in
      go_wp2_with fail
      refine (laws_szStringS_ok _ _ _ _ _ _ hn (h.up b0) (by omega) (by omega) hm hs hc2).mono ?_; rintro e w' ⟨rfl, rfl⟩
      go_wp2
      go_ret
      rw [e1.out]
      exact ⟨rfl, b0⟩
    · have e1 := Lib.hid (show leftV left (szM nm l) = -1 from leftV_f (by rw [hZ.out]; omega))
      go_in
      go_wp2_with fail
      refine (laws_szStringS_no _ _ _ _ _ _ hn (h.up b0) (by omega) (by omega) hm hs (by omega)).mono ?_; rintro e w' ⟨rfl, rfl⟩
      go_wp2
      go_ret
      rw [e1.out]
      exact ⟨rfl, b0⟩
  · have hI : left - (nm.size : Int) < 0 := by omega
    have e1 := Lib.hid (show leftV left (szM nm l) = -1 from leftV_f (by rw [hZ.out]; omega))
    go_in
    go_wp2
    go_ret
    rw [e1.out]
    exact ⟨rfl, b0⟩
theorem laws_szCalls {kb ks : ByteArray} {left : Int} {w : World} (h1 : left ≤ 1048576) (h0 : 0 ≤ left) (hkb : kb.size ≤ maxLen) (hks : ks.size ≤ maxLen) :
    Calls Try.prog 28 #[.agg #[.string kb, .string ks], .int .i64 left] w fun e w' => e = .returned (.int .i64 (leftV left (szK kb ks))) ∧ Below w.heap.size w w' := by
  have b0 : Below w.heap.size w (w.alloc (.cells ⟨[.string kb, .string ks]⟩ 38)) := by (repeat' (first | (with_reducible exact Below.refl _ _) | (with_reducible assumption) | (with_reducible refine below_drewN ?_ _) | (with_reducible refine Below.drew ?_) | (with_reducible refine below_alloc ?_ _) | (with_reducible refine Below.alloc ?_ ?_ _) | (with_reducible refine Below.setCell ?_ ?_ _) | (with_reducible refine below_go ?_ (by with_reducible assumption)) | (with_reducible refine below_then (by with_reducible assumption) ?_ ?_) | go_size))
  have hZ : Hid (szK kb ks = (kb.size : Int) + (ks.size : Int)) := Lib.hid rfl
  unfold maxLen at hkb hks
  by_cases hc1 : (kb.size : Int) ≤ left
  · have hI : ¬ left - (kb.size : Int) < 0 := by omega
    by_cases hc2 : (ks.size : Int) ≤ left - (kb.size : Int)
    · have e1 := Lib.hid (show leftV left (szK kb ks) = left - (kb.size : Int) - (ks.size : Int) by rw [leftV_t (by rw [hZ.out]; omega), hZ.out]; omega)
      have hJ : ¬ left - (kb.size : Int) - (ks.size : Int) < 0 := by omega
      go_in
      go_wp2
      go_ret
      rw [e1.out]
      exact ⟨rfl, b0⟩
    · have e1 := Lib.hid (show leftV left (szK kb ks) = -1 from leftV_f (by rw [hZ.out]; omega))
      have hJ : left - (kb.size : Int) - (ks.size : Int) < 0 := by omega
      go_in
      go_wp2
      go_ret
      rw [e1.out]
      exact ⟨rfl, b0⟩
  · have hI : left - (kb.size : Int) < 0 := by omega
    have e1 := Lib.hid (show leftV left (szK kb ks) = -1 from leftV_f (by rw [hZ.out]; omega))
    go_in
    go_wp2
    go_ret
    rw [e1.out]
    exact ⟨rfl, b0⟩
theorem laws_eqMethod {A B : Option Addr} {n c d : Nat} {nm : ByteArray} {st : Int} {l : List ByteArray} {w : World} (hn : l.length = n) (h : Strs w A l) (g : Strs w B l) (hz : n ≤ 16777216) :
    Calls Try.prog 33 #[.agg #[.string nm, .int .i64 st, .slice A n c], .agg #[.string nm, .int .i64 st, .slice B n d]] w fun e w' => e = .returned (.bool true) ∧ Below w.heap.size w w' := by
  have b0 : Below w.heap.size w ((w.alloc (.cells ⟨[.string nm, .int .i64 st, .slice A n c]⟩ 42)).alloc (.cells ⟨[.string nm, .int .i64 st, .slice B n d]⟩ 42)) := by (repeat' (first | (with_reducible exact Below.refl _ _) | (with_reducible assumption) | (with_reducible refine below_drewN ?_ _) | (with_reducible refine Below.drew ?_) | (with_reducible refine below_alloc ?_ _) | (with_reducible refine Below.alloc ?_ ?_ _) | (with_reducible refine Below.setCell ?_ ?_ _) | (with_reducible refine below_go ?_ (by with_reducible assumption)) | (with_reducible refine below_then (by with_reducible assumption) ?_ ?_) | go_size))
  go_in
  go_wp2_with fail
  refine (laws_eqStringS _ _ _ _ _ _ _ _ _ hn hn (h.up b0) (g.up b0) hz hz).mono ?_; rw [decide_eq_true (rfl : l = l)]; rintro e w1 ⟨rfl, hb1⟩
  go_wp2
  go_ret
  exact ⟨rfl, below_go b0 hb1⟩
theorem laws_markMethod {A : Option Addr} {n c base : Nat} {nm : ByteArray} {st k0 : Int} {l : List ByteArray} {w : World} (h : Owned strE 1 9 w base A n c l) (hb : base ≤ w.heap.size) (hz : n ≤ 16777216) (hk : 1 ≤ k0 ∧ k0 ≤ 1099511627776) :
    Calls Try.prog 37 #[.agg #[.string nm, .int .i64 st, .slice A n c], .int .i64 k0] w fun e w' => e = .returned (.int .i64 (k0 + (n : Int))) ∧ w.grownBy w' (Value.slice A n c).ownBlock ∧ Below base w w' := by
  have b0 : Below w.heap.size w (w.alloc (.cells ⟨[.string nm, .int .i64 st, .slice A n c]⟩ 42)) := by (repeat' (first | (with_reducible exact Below.refl _ _) | (with_reducible assumption) | (with_reducible refine below_drewN ?_ _) | (with_reducible refine Below.drew ?_) | (with_reducible refine below_alloc ?_ _) | (with_reducible refine Below.alloc ?_ ?_ _) | (with_reducible refine Below.setCell ?_ ?_ _) | (with_reducible refine below_go ?_ (by with_reducible assumption)) | (with_reducible refine below_then (by with_reducible assumption) ?_ ?_) | go_size))
  go_in
  go_wp2_with fail
  refine (laws_markStringS _ _ _ _ _ _ _ (h.alloc _) (by simp; omega) hz hk).mono ?_; rintro e w1 ⟨rfl, hm, hg, hb1⟩
  go_wp2
  go_ret
  exact ⟨rfl, grownBy_trans (grown_any b0 _) hg, ((Below.refl _ _).alloc hb _).trans hb1⟩
end Go.Proofs.Ytmdmnjjlpefigaa
