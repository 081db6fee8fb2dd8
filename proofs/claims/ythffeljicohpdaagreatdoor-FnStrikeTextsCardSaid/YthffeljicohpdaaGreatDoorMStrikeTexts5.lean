/- Texts 5 of 5 that the claim leans on: plain laws and the walks' contracts, in order. -/
import Derived.Test.YthffeljicohpdaaGreatDoorMStrikeTexts4
import Derived.BigRegion
import Derived.Deep.RegionHeld3
import Derived.Lib.AppendZerosOnto
import Derived.Test.YthffeljicohpdaaGreatDoorTie
import Derived.LaidMore
import Derived.Lib.LaidTab
import Derived.Lib.ItoaNum
import Derived.Stop.Joined
/- The walk through the library's exchange of two ranges, at strikes. -/
namespace Go.Proofs.YthffeljicohpdaaGreatDoor
set_option linter.unusedVariables false
set_option linter.unusedSimpArgs false
open Go.ChangeShapes Go.WideShapes Go.ChangeAt Go.RowKit Go.Deep
/-- Two elements exchanged. -/
def swL (D : List (Int × Int)) (i j : Nat) : List (Int × Int) := (D.set i (D.getD j (0, 0))).set j (D.getD i (0, 0))
def swR (D : List (Int × Int)) (a b : Nat) : Nat → List (Int × Int)
  | 0 => D
  | k + 1 => swL (swR D a b k) (a + k) (b + k)
theorem swL_len (D : List (Int × Int)) (i j : Nat) : (swL D i j).length = D.length := by rw [swL, List.length_set, List.length_set]
theorem swR_len (D : List (Int × Int)) (a b : Nat) : ∀ k, (swR D a b k).length = D.length
  | 0 => rfl
  | k + 1 => by rw [swR, swL_len, swR_len D a b k]
theorem own_sw {E : TypeId} {w : World} {g base n c i j : Nat} {D : List (Int × Int)} {x y : Int × Int} (hO : Owned strikeE 2 E w base (some ⟨g, 0, none⟩) n c D) (hb : base ≤ g) (hs : g < w.heap.size) (hx : D[i]? = some x) (hy : D[j]? = some y) (hij : i ≠ j) :
    Owned strikeE 2 E ((((w.setCell ⟨g, i * 2, none⟩ (.int .i64 y.1)).setCell ⟨g, i * 2 + 1, none⟩ (.int .i64 y.2)).setCell ⟨g, j * 2, none⟩ (.int .i64 x.1)).setCell ⟨g, j * 2 + 1, none⟩ (.int .i64 x.2)) base (some ⟨g, 0, none⟩) n c (swL D i j) ∧
    Below base w ((((w.setCell ⟨g, i * 2, none⟩ (.int .i64 y.1)).setCell ⟨g, i * 2 + 1, none⟩ (.int .i64 y.2)).setCell ⟨g, j * 2, none⟩ (.int .i64 x.1)).setCell ⟨g, j * 2 + 1, none⟩ (.int .i64 x.2)) := by
  have hi := (List.getElem?_eq_some_iff.1 hx).1
  have hj := (List.getElem?_eq_some_iff.1 hy).1
  have gb : ∀ k, some g = some k → base ≤ k := fun k hk => by injection hk with hk; omega
  obtain ⟨o1, g1⟩ := hO.put (k := i) (j := 0) (x := (y.1, x.2)) (u := .int .i64 y.1) hx (by decide) rfl
  have e1 : (D.set i (y.1, x.2))[i]? = some (y.1, x.2) := by rw [List.getElem?_set_self hi]
  obtain ⟨o2, g2⟩ := o1.put (k := i) (j := 1) (x := y) (u := .int .i64 y.2) e1 (by decide) rfl
  rw [List.set_set] at o2
  have e2 : (D.set i y)[j]? = some y := by rw [List.getElem?_set_ne hij, hy]
  obtain ⟨o3, g3⟩ := o2.put (k := j) (j := 0) (x := (x.1, y.2)) (u := .int .i64 x.1) e2 (by decide) rfl
  have e3 : ((D.set i y).set j (x.1, y.2))[j]? = some (x.1, y.2) := by rw [List.getElem?_set_self (by rw [List.length_set]; exact hj)]
  obtain ⟨o4, g4⟩ := o3.put (k := j) (j := 1) (x := x) (u := .int .i64 x.2) e3 (by decide) rfl
  rw [List.set_set] at o4
  simp only [Nat.add_zero] at o4 g1 g2 g3 g4
  refine ⟨?_, ?_⟩
  · rw [swL, List.getD, List.getD, hx, hy]; exact o4
  · have s1 := g1.size; have s2 := g2.size; have s3 := g3.size
    exact (((((Below.refl base w).grown g1 (by omega) gb).grown g2 (by omega) gb).grown g3 (by omega) gb).grown g4 (by omega) gb)
set_option maxHeartbeats 1000000 in
set_option maxRecDepth 100000 in
theorem sl_swapRange {A : Option Addr} {n c base a b k : Nat} {D : List (Int × Int)} {F : Value} {w : World} (hO : Owned strikeE 2 41 w base A n c D) (hz : n ≤ 16777216) (hab : a + k ≤ b) (hbn : b + k ≤ n) :
    Calls Tryz.prog 91 #[.slice A n c, .int .i64 a, .int .i64 b, .int .i64 k, F] w fun e w' => e = .returned (.tuple #[]) ∧ Owned strikeE 2 41 w' base A n c (swR D a b k) ∧ Below base w w' := by
  go_in
  go_wp2
  go_loopw [10] (fun i wr => ∃ m : Nat, m ≤ k ∧ i = .int .i64 m ∧ Hid (Owned strikeE 2 41 wr base A n c (swR D a b m)) ∧ Below base w wr) (fun i _ => k - (intOf i).toNat)
  case atStart => exact ⟨0, Nat.zero_le _, rfl, Lib.hid hO, Below.refl _ _⟩
  case round =>
    obtain ⟨m, hm, rfl, HO, hb⟩ := hrel
    rename World => wr
    by_cases hlt : m < k
    · have hI : (m : Int) < (k : Int) := by omega
      have hL := HO.out.len
      obtain ⟨x, hx⟩ := some_of_lt (l := swR D a b m) (k := a + m) (by omega)
      obtain ⟨y, hy⟩ := some_of_lt (l := swR D a b m) (k := b + m) (by omega)
      obtain ⟨f, rfl, f0, f1, fc, ff⟩ := HO.out.at_ (by omega)
      have x0 := fc _ x 0 _ hx rfl
      have x1 := fc _ x 1 _ hx rfl
      have y0 := fc _ y 0 _ hy rfl
      have y1 := fc _ y 1 _ hy rfl
      simp only [Nat.add_zero] at x0 y0
      have g0 := ff ((a + m) * 2)
      have g1 := ff ((a + m) * 2 + 1)
      have g2 := ff ((b + m) * 2)
      have g3 := ff ((b + m) * 2 + 1)
      have n1 : ¬ (a + m) * 2 = (b + m) * 2 := by omega
      have n2 : ¬ (b + m) * 2 = (a + m) * 2 := by omega
      have HX := Lib.hid hx
      have HY := Lib.hid hy
      clear fc ff hx hy
      go_wp2
      go_region
      have HF := own_sw HO.out f0 f1 HX.out HY.out (by omega)
      have HFO := Lib.hid HF.1.drew
      have HFB := Lib.hid (hb.trans HF.2).drew
      clear HF
      go_wp2
      go_roundw
      case rel => exact ⟨m + 1, by omega, by go_num, HFO, HFB.out⟩
      case measure => simp [intOf]; omega
    · have hI : ¬ (m : Int) < (k : Int) := by omega
      obtain rfl : m = k := by omega
      go_wp2
      go_end0
      exact ⟨rfl, HO.out, hb⟩
end Go.Proofs.YthffeljicohpdaaGreatDoor
/- The walk through the library's rotation, at strikes. -/
namespace Go.Proofs.YthffeljicohpdaaGreatDoor
set_option linter.unusedVariables false
set_option linter.unusedSimpArgs false
open Go.ChangeShapes Go.WideShapes Go.ChangeAt Go.RowKit Go.Deep
theorem swL_at {D : List (Int × Int)} {i j t : Nat} (hi : i < D.length) (hj : j < D.length) (hij : i ≠ j) : (swL D i j)[t]? = if t = i then D[j]? else if t = j then D[i]? else D[t]? := by
  rw [swL, List.getElem?_set, List.getElem?_set, List.length_set, List.getD, List.getD, List.getElem?_eq_getElem hi, List.getElem?_eq_getElem hj]
  simp only [Option.getD_some]
  by_cases h1 : t = i
  · subst h1
    rw [if_neg (fun e => hij e.symm), if_pos rfl, if_pos hi, if_pos rfl]
  · by_cases h2 : t = j
    · subst h2
      rw [if_pos rfl, if_pos hj, if_neg h1, if_pos rfl]
    · rw [if_neg (fun e => h2 e.symm), if_neg (fun e => h1 e.symm), if_neg h1, if_neg h2]
theorem swR_at {D : List (Int × Int)} {a b : Nat} : ∀ (k : Nat), a + k ≤ b → b + k ≤ D.length → ∀ t, (swR D a b k)[t]? = if a ≤ t ∧ t < a + k then D[t - a + b]? else if b ≤ t ∧ t < b + k then D[t - b + a]? else D[t]?
  | 0, _, _, t => by rw [swR, if_neg (by omega), if_neg (by omega)]
  | k + 1, h1, h2, t => by
    have ih := swR_at (D := D) (a := a) (b := b) k (by omega) (by omega)
    rw [swR, swL_at (by rw [swR_len]; omega) (by rw [swR_len]; omega) (by omega), ih, ih, ih]
    by_cases c1 : t = a + k
    · subst c1
      rw [if_pos rfl, if_neg (by omega), if_neg (by omega), if_pos (by omega), show a + k - a + b = b + k by omega]
    · rw [if_neg c1]
      by_cases c2 : t = b + k
      · subst c2
        rw [if_pos rfl, if_neg (by omega), if_neg (by omega), if_neg (by omega), if_pos (by omega), show b + k - b + a = a + k by omega]
      · rw [if_neg c2]
        by_cases c3 : a ≤ t ∧ t < a + k
        · rw [if_pos c3, if_pos (by omega)]
        · by_cases c4 : b ≤ t ∧ t < b + k
          · rw [if_neg c3, if_pos c4, if_neg (by omega), if_pos (by omega)]
          · rw [if_neg c3, if_neg c4, if_neg (by omega), if_neg (by omega)]
theorem swR_blocks {P X M Y Q : List (Int × Int)} {a b k : Nat} (hP : P.length = a) (hX : X.length = k) (hY : Y.length = k) (hb : a + k + M.length = b) : swR (P ++ (X ++ (M ++ (Y ++ Q)))) a b k = P ++ (Y ++ (M ++ (X ++ Q))) := by
  apply List.ext_getElem?
  intro t
  rw [swR_at k (by omega) (by simp; omega)]
  simp only [List.getElem?_append, hP, hX, hY]
  by_cases c1 : t < a
  · rw [if_neg (by omega), if_neg (by omega), if_pos c1, if_pos c1]
  · by_cases c2 : t < a + k
    · rw [if_pos (by omega), if_neg (by omega), if_neg (by omega), if_neg (by omega), if_pos (by omega), if_neg c1, if_pos (by omega)]
      rw [show t - a + b - a - k - M.length = t - a by omega]
    · rw [if_neg (by omega)]
      by_cases c3 : t < b
      · rw [if_neg (by omega), if_neg c1, if_neg (by omega), if_pos (by omega), if_neg c1, if_neg (by omega), if_pos (by omega)]
      · by_cases c4 : t < b + k
        · rw [if_pos (by omega), if_neg (by omega), if_pos (by omega), if_neg c1, if_neg (by omega), if_neg (by omega), if_pos (by omega)]
          rw [show t - b + a - a = t - a - k - M.length by omega]
        · rw [if_neg (by omega), if_neg c1, if_neg (by omega), if_neg (by omega), if_neg (by omega), if_neg c1, if_neg (by omega), if_neg (by omega), if_neg (by omega)]
theorem cut_at {α : Type} {l : List α} {k : Nat} (h : k ≤ l.length) : ∃ a b, l = a ++ b ∧ a.length = k ∧ b.length = l.length - k := ⟨l.take k, l.drop k, (List.take_append_drop ..).symm, by simp; omega, by simp⟩
set_option maxHeartbeats 2000000 in
set_option maxRecDepth 100000 in
theorem sl_rotate {A : Option Addr} {n c base a m b : Nat} {P X Y Q : List (Int × Int)} {F : Value} {w : World} (hO : Owned strikeE 2 41 w base A n c (P ++ (X ++ (Y ++ Q)))) (hz : n ≤ 16777216) (ha : P.length = a) (hm : a + X.length = m) (hb : m + Y.length = b) (hx0 : 0 < X.length) (hy0 : 0 < Y.length) (hbase : base ≤ w.heap.size) :
    Calls Tryz.prog 76 #[.slice A n c, .int .i64 a, .int .i64 m, .int .i64 b, F] w fun e w' => e = .returned (.tuple #[]) ∧ Owned strikeE 2 41 w' base A n c (P ++ (Y ++ (X ++ Q))) ∧ Below base w w' := by
  have hL := hO.len
  have hL' : a + X.length + Y.length + Q.length = n := by rw [← hL]; simp; omega
  have HA := Lib.hid ha
  obtain ⟨i0, hi0⟩ : ∃ i, i = X.length := ⟨_, rfl⟩
  obtain ⟨j0, hj0⟩ : ∃ j, j = Y.length := ⟨_, rfl⟩
  have HI := Lib.hid hi0
  have HJ := Lib.hid hj0
  have hbn : b ≤ n := by omega
  have hma : a ≤ m := by omega
  have hmb : m ≤ b := by omega
  have e1 : (m : Int) - (a : Int) = (i0 : Int) := by omega
  have e2 : (b : Int) - (m : Int) = (j0 : Int) := by omega
  have hmi : a + i0 = m := by omega
  have HMI := Lib.hid hmi
  have h1 : 0 < i0 := by omega
  have h2 : 0 < j0 := by omega
  have hsum : i0 + j0 ≤ 16777216 := by omega
  have HM := Lib.hid hm
  have HB := Lib.hid hb
  have HLN := Lib.hid hL'
  clear hL hL' hi0 hj0 hm hb hmi ha hx0 hy0
  go_in
  go_wp2
  go_loopw [10, 11] (fun vi vj wr => ∃ (i j : Nat) (P' X' Y' Q' : List (Int × Int)), vi = .int .i64 i ∧ vj = .int .i64 j ∧ 0 < i ∧ 0 < j ∧ i + j ≤ 16777216 ∧ Hid (X'.length = i ∧ Y'.length = j ∧ P'.length + i = m ∧ P' ++ (Y' ++ (X' ++ Q')) = P ++ (Y ++ (X ++ Q))) ∧ Hid (Owned strikeE 2 41 wr base A n c (P' ++ (X' ++ (Y' ++ Q')))) ∧ Below base w wr) (fun vi vj _ => (intOf vi).toNat + (intOf vj).toNat)
  case atStart => exact ⟨i0, j0, P, X, Y, Q, by go_num, by go_num, h1, h2, hsum, Lib.hid ⟨HI.out.symm, HJ.out.symm, by rw [HA.out]; exact HMI.out, rfl⟩, Lib.hid hO, Below.refl _ _⟩
  case round =>
    obtain ⟨i, j, P', X', Y', Q', rfl, rfl, hi, hj, hij, HR, HO, hbw⟩ := hrel
    rename World => wr
    have hLw := HO.out.len
    have hln : m + j ≤ n := by have := HR.out; simp at hLw; omega
    have him : i ≤ m := by have := HR.out; omega
    have hsw : base ≤ wr.heap.size := Nat.le_trans hbase hbw.size
    clear hLw
    rcases Nat.lt_trichotomy i j with hlt | heq | hgt
    · have hI : ((i : Int) != (j : Int)) = true := bne_iff_ne.2 (by omega)
      have hI2 : ¬ (j : Int) < (i : Int) := by omega
      have q1 : (m : Int) - (i : Int) = ((m - i : Nat) : Int) := by omega
      have q2 : (m : Int) + (j : Int) - (i : Int) = ((m + j - i : Nat) : Int) := by omega
      obtain ⟨Y1, Y2, hY, hY1, hY2⟩ := cut_at (l := Y') (k := j - i) (by have := HR.out; omega)
      have HYY := Lib.hid hY
      have HY1 := Lib.hid hY1
      have HY2 : Hid (Y2.length = i) := Lib.hid (by have := HR.out; omega)
      clear hY hY1 hY2
      have HO2 : Hid (Owned strikeE 2 41 wr base A n c (P' ++ (X' ++ (Y1 ++ (Y2 ++ Q'))))) := Lib.hid (by have := HO.out; rw [HYY.out, List.append_assoc] at this; exact this)
      have q3 : (j : Int) - (i : Int) = ((j - i : Nat) : Int) := by omega
      have hPl : P'.length = m - i := by have := HR.out; omega
      have HPL := Lib.hid hPl
      clear hPl
      go_wp2_with fail
      refine (sl_swapRange (a := m - i) (b := m + j - i) (k := i) HO2.out hz (by omega) (by omega)).mono ?_; rintro e w2 ⟨rfl, ho2, hb2⟩
      rw [swR_blocks HPL.out HR.out.1 HY2.out (by rw [HY1.out]; omega)] at ho2
      have HO3 := Lib.hid ho2
      have HR3 : Hid (Y2.length = i ∧ Y1.length = j - i ∧ P'.length + i = m ∧ P' ++ (Y1 ++ (Y2 ++ (X' ++ Q'))) = P ++ (Y ++ (X ++ Q))) := Lib.hid ⟨HY2.out, HY1.out, HR.out.2.2.1, by rw [← HR.out.2.2.2, HYY.out, List.append_assoc]⟩
      have HB3 := Lib.hid (hbw.trans hb2)
      clear ho2 hb2 hI hI2
      go_wp2
      go_roundw
      case rel => exact ⟨i, j - i, P', Y2, Y1, X' ++ Q', rfl, by go_num, hi, by omega, by omega, HR3, HO3, HB3.out⟩
      case measure => simp [intOf]; omega
    · subst heq
      have hI : ((i : Int) != (i : Int)) = false := by simp
      have q1 : (m : Int) - (i : Int) = ((m - i : Nat) : Int) := by omega
      have hPl : P'.length = m - i := by have := HR.out; omega
      have HPL := Lib.hid hPl
      have HO2 : Hid (Owned strikeE 2 41 wr base A n c (P' ++ (X' ++ ([] ++ (Y' ++ Q'))))) := Lib.hid (by rw [List.nil_append]; exact HO.out)
      clear hPl
      go_wp2_with fail
      refine (sl_swapRange (a := m - i) (b := m) (k := i) HO2.out hz (by omega) (by omega)).mono ?_; rintro e w2 ⟨rfl, ho2, hb2⟩
      rw [swR_blocks HPL.out HR.out.1 HR.out.2.1 (by simp; omega), List.nil_append, HR.out.2.2.2] at ho2
      go_wp2
      go_end0
      exact ⟨rfl, ho2, hbw.trans hb2⟩
    · have hI : ((i : Int) != (j : Int)) = true := bne_iff_ne.2 (by omega)
      have hI2 : (j : Int) < (i : Int) := by omega
      have q1 : (m : Int) - (i : Int) = ((m - i : Nat) : Int) := by omega
      have q3 : (i : Int) - (j : Int) = ((i - j : Nat) : Int) := by omega
      obtain ⟨X1, X2, hX, hX1, hX2⟩ := cut_at (l := X') (k := j) (by have := HR.out; omega)
      have HXX := Lib.hid hX
      have HX1 := Lib.hid hX1
      have HX2 : Hid (X2.length = i - j) := Lib.hid (by have := HR.out; omega)
      clear hX hX1 hX2
      have HO2 : Hid (Owned strikeE 2 41 wr base A n c (P' ++ (X1 ++ (X2 ++ (Y' ++ Q'))))) := Lib.hid (by have := HO.out; rw [HXX.out, List.append_assoc] at this; exact this)
      have hPl : P'.length = m - i := by have := HR.out; omega
      have HPL := Lib.hid hPl
      clear hPl
      go_wp2_with fail
      refine (sl_swapRange (a := m - i) (b := m) (k := j) HO2.out hz (by omega) (by omega)).mono ?_; rintro e w2 ⟨rfl, ho2, hb2⟩
      rw [swR_blocks HPL.out HX1.out HR.out.2.1 (by rw [HX2.out]; omega), ← List.append_assoc P'] at ho2
      have HO3 := Lib.hid ho2
      have HR3 : Hid (X2.length = i - j ∧ X1.length = j ∧ (P' ++ Y').length + (i - j) = m ∧ (P' ++ Y') ++ (X1 ++ (X2 ++ Q')) = P ++ (Y ++ (X ++ Q))) := Lib.hid ⟨HX2.out, HX1.out, by have := HR.out; simp; omega, by rw [← HR.out.2.2.2, HXX.out]; simp⟩
      have HB3 := Lib.hid (hbw.trans hb2)
      clear ho2 hb2 hI hI2
      go_wp2
      go_roundw
      case rel => exact ⟨i - j, j, P' ++ Y', X2, X1, Q', by go_num, rfl, by omega, hj, by omega, HR3, HO3, HB3.out⟩
      case measure => simp [intOf]; omega
end Go.Proofs.YthffeljicohpdaaGreatDoor
/- The walks through the comparison of strikes and the library's sort by insertion. -/
namespace Go.Proofs.YthffeljicohpdaaGreatDoor
set_option linter.unusedVariables false
set_option linter.unusedSimpArgs false
open Go.ChangeShapes Go.WideShapes Go.ChangeAt Go.RowKit Go.Deep
theorem wrap_predT {k : Nat} (h0 : 0 < k) (h1 : k ≤ 16777216) : IntKind.i64.wrap ((k : Int) - 1) = ((k - 1 : Nat) : Int) := by
  rw [PlainAid.i64_is]; unfold wrap64; omega
def midT (l : List (Int × Int)) : Prop := ∀ s ∈ l, -1000000000000 ≤ s.2 ∧ s.2 ≤ 1000000000000
theorem swL_adj {P R : List (Int × Int)} {x y : Int × Int} {j : Nat} (h : P.length + 1 = j) : swL (P ++ (y :: x :: R)) j (j - 1) = P ++ (x :: y :: R) := by
  subst h
  apply List.ext_getElem?
  intro t
  rw [swL_at (by simp) (by simp) (by omega)]
  simp only [List.getElem?_append, Nat.add_sub_cancel]
  by_cases c1 : t < P.length
  · rw [if_neg (by omega), if_neg (by omega), if_pos c1, if_pos c1]
  · by_cases c2 : t = P.length
    · subst c2
      simp
    · by_cases c3 : t = P.length + 1
      · subst c3
        simp
      · rw [if_neg c3, if_neg c2, if_neg c1, if_neg c1]
        obtain ⟨q, hq⟩ : ∃ q, t - P.length = q + 2 := ⟨t - P.length - 2, by omega⟩
        rw [hq]; rfl
set_option maxRecDepth 100000 in
theorem impl_cmp {x y : Int × Int} {w : World} (hx : -1000000000000 ≤ x.2 ∧ x.2 ≤ 1000000000000) (hy : -1000000000000 ≤ y.2 ∧ y.2 ≤ 1000000000000) :
    Calls Tryz.prog 36 #[.agg #[.int .i64 x.1, .int .i64 x.2], .agg #[.int .i64 y.1, .int .i64 y.2]] w fun e w' => e = .returned (.int .i64 (x.2 - y.2)) ∧ Below w.heap.size w w' := by
  obtain ⟨x1, x2⟩ := x
  obtain ⟨y1, y2⟩ := y
  have hw : IntKind.i64.wrap (x2 - y2) = x2 - y2 := by rw [PlainAid.i64_is]; unfold wrap64; dsimp only at hx hy; omega
  clear hx hy
  go_in
  go_wp2
  go_ret
  exact ⟨rfl, by (repeat' (first | (with_reducible exact Below.refl _ _) | (with_reducible assumption) | (with_reducible refine below_drewN ?_ _) | (with_reducible refine Below.drew ?_) | (with_reducible refine below_alloc ?_ _) | (with_reducible refine Below.alloc ?_ ?_ _) | (with_reducible refine Below.setCell ?_ ?_ _) | (with_reducible refine below_go ?_ (by with_reducible assumption)) | (with_reducible refine below_then (by with_reducible assumption) ?_ ?_) | go_size))⟩
theorem ins_done {X S1 S2 : List (Int × Int)} {m : Nat} {x : Int × Int} (h : stT (X.take m) = S1 ++ S2) (hx : X[m]? = some x) (h1 : ∀ s ∈ S1, s.2 ≤ x.2) (h2 : ∀ s ∈ S2, x.2 < s.2) : stT (X.take (m + 1)) = S1 ++ x :: S2 := by
  rw [take_succ_some hx, stT_snoc, h, mgT_last h1 h2]
theorem ins_le {l S1 S2 : List (Int × Int)} {x y : Int × Int} (h : stT l = (S1 ++ [y]) ++ S2) (hy : y.2 ≤ x.2) : ∀ s ∈ S1 ++ [y], s.2 ≤ x.2 := fun s hs => by
  have h1 := stT_srt l
  rw [h, srtT, List.pairwise_append] at h1
  have h2 := (List.pairwise_append.1 h1.1).2.2
  rcases List.mem_append.1 hs with q | q
  · exact Int.le_trans (h2 s q y (List.mem_singleton.2 rfl)) hy
  · rw [List.mem_singleton.1 q]; exact hy
theorem stT_mem : ∀ {l : List (Int × Int)} {x : Int × Int}, x ∈ stT l → x ∈ l
  | y :: l, x, h => by
    rw [stT, mgT_mem] at h
    rcases h with h | h
    · rw [List.mem_singleton.1 h]; exact List.mem_cons_self ..
    · exact List.mem_cons_of_mem _ (stT_mem h)
set_option maxHeartbeats 2000000 in
set_option maxRecDepth 100000 in
theorem sl_insertion {A : Option Addr} {n c base a b : Nat} {P X Q : List (Int × Int)} {w : World} (hO : Owned strikeE 2 41 w base A n c (P ++ (X ++ Q))) (hz : n ≤ 16777216) (ha : P.length = a) (hb : a + X.length = b) (hbase : base ≤ w.heap.size) (hT : midT X) :
    Calls Tryz.prog 59 #[.slice A n c, .int .i64 a, .int .i64 b, .func (.func 36) #[] #[]] w fun e w' => e = .returned (.tuple #[]) ∧ Owned strikeE 2 41 w' base A n c (P ++ (stT X ++ Q)) ∧ Below base w w' := by
  have hL := hO.len
  have hbn : b ≤ n := by rw [← hL]; simp; omega
  have HA := Lib.hid ha
  have HB := Lib.hid hb
  have HT := Lib.hid hT
  have hab : a ≤ b := by omega
  have H1 : Hid (stT (X.take 1) = X.take 1) := Lib.hid (by
    rcases X with _ | ⟨x, X⟩
    · rfl
    · exact stT_one x)
  clear hL ha hb hT
  go_in
  go_wp2
  go_loopw [8] (fun v wr => ∃ i : Nat, v = .int .i64 i ∧ a < i ∧ (i ≤ b ∨ i = a + 1) ∧ Hid (Owned strikeE 2 41 wr base A n c (P ++ (stT (X.take (i - a)) ++ (X.drop (i - a) ++ Q)))) ∧ Below base w wr) (fun v _ => b + 1 - (intOf v).toNat)
  case atStart => exact ⟨a + 1, by go_num, by omega, .inr rfl, Lib.hid (by rw [show a + 1 - a = 1 by omega, H1.out, ← List.append_assoc (X.take 1), List.take_append_drop]; exact hO), Below.refl _ _⟩
  case round =>
    obtain ⟨i, rfl, hia, hib, HO, hbw⟩ := hrel
    rename World => wr
    by_cases hlt : i < b
    · have hI : (i : Int) < (b : Int) := by omega
      obtain ⟨x, hx⟩ := some_of_lt (l := X) (k := i - a) (by have := HB.out; omega)
      have HX := Lib.hid hx
      have HS : Hid (X.drop (i - a) = x :: X.drop (i - a + 1)) := Lib.hid (by rw [List.drop_eq_getElem_cons (by have := HB.out; omega)]; congr 1; have := (List.getElem?_eq_some_iff.1 hx).2; exact this)
      clear hx
      go_wp2
      go_loopw [9] (fun v wr => ∃ (j : Nat) (S1 S2 : List (Int × Int)), v = .int .i64 j ∧ a ≤ j ∧ j ≤ i ∧ Hid (a + S1.length = j ∧ stT (X.take (i - a)) = S1 ++ S2 ∧ ∀ s ∈ S2, x.2 < s.2) ∧ Hid (Owned strikeE 2 41 wr base A n c (P ++ (S1 ++ (x :: (S2 ++ (X.drop (i - a + 1) ++ Q)))))) ∧ Below base w wr) (fun v _ => (intOf v).toNat)
      case atStart => exact ⟨i, stT (X.take (i - a)), [], rfl, by omega, Nat.le_refl _, Lib.hid ⟨by rw [stT_len, List.length_take]; have := HB.out; omega, by simp, fun s hs => by cases hs⟩, Lib.hid (by have := HO.out; rw [HS.out] at this; exact this), hbw⟩
      case round =>
        clear HO hbw
        obtain ⟨j, S1, S2, rfl, haj, hji, HR, HO, hbw⟩ := hrel
        rename World => wr
        by_cases hj : a < j
        · have hJ : (a : Int) < (j : Int) := by omega
          obtain ⟨S1', y, hS1⟩ : ∃ t y, S1 = t ++ [y] := by
            rcases List.eq_nil_or_concat S1 with h | ⟨t, y, h⟩
            · have := HR.out.1; rw [h] at this; simp at this; omega
            · exact ⟨t, y, by simpa using h⟩
          subst hS1
          have hj1 : (P ++ S1').length + 1 = j := by have := HR.out.1; have := HA.out; simp at *; omega
          have HJ1 := Lib.hid hj1
          have hjn : j < n := by omega
          have hjn1 : j - 1 < n := by omega
          have hwj := wrap_predT (k := j) (by omega) (by omega)
          have HO : Hid (Owned strikeE 2 41 wr base A n c ((P ++ S1') ++ (y :: x :: (S2 ++ (X.drop (i - a + 1) ++ Q))))) := Lib.hid (by have := HO.out; simpa using this)
          have hxj : ((P ++ S1') ++ (y :: x :: (S2 ++ (X.drop (i - a + 1) ++ Q))))[j]? = some x := by rw [← HJ1.out, List.getElem?_append_right (by omega), Nat.add_sub_cancel_left]; rfl
          have hyj : ((P ++ S1') ++ (y :: x :: (S2 ++ (X.drop (i - a + 1) ++ Q))))[j - 1]? = some y := by rw [← HJ1.out, List.getElem?_append_right (by omega), show (P ++ S1').length + 1 - 1 - (P ++ S1').length = 0 by omega]; rfl
          have hxt := HT.out x (List.mem_of_getElem? HX.out)
          have hyt := HT.out y (List.mem_of_mem_take (stT_mem (l := X.take (i - a)) (by rw [HR.out.2.1]; simp)))
          have HXT := Lib.hid hxt
          have HYT := Lib.hid hyt
          obtain ⟨f, rfl, f0, f1, fc, ff⟩ := HO.out.at_ (by omega)
          have x0 := fc _ x 0 _ hxj rfl
          have x1 := fc _ x 1 _ hxj rfl
          have y0 := fc _ y 0 _ hyj rfl
          have y1 := fc _ y 1 _ hyj rfl
          simp only [Nat.add_zero] at x0 y0
          have HXJ := Lib.hid hxj
          have HYJ := Lib.hid hyj
          have hsw : base ≤ wr.heap.size := Nat.le_trans hbase hbw.size
          clear fc ff hxj hyj hj1 hxt hyt
          go_wp2
          go_region_held3 (fun u => u.cell? ⟨f, j * 2, none⟩ = some (.int .i64 x.1) ∧ u.cell? ⟨f, j * 2 + 1, none⟩ = some (.int .i64 x.2) ∧ u.cell? ⟨f, (j - 1) * 2, none⟩ = some (.int .i64 y.1) ∧ u.cell? ⟨f, (j - 1) * 2 + 1, none⟩ = some (.int .i64 y.2)) (first | exact ⟨by assumption, by assumption, by assumption, by assumption⟩) (first | (refine (impl_cmp (x := x) (y := y) HXT.out HYT.out).mono ?_; rintro e w2 ⟨rfl, hbd⟩; have hb2 := below_of_drew hbd; have x0' := (hb2.cell (p := ⟨f, j * 2, none⟩) f1).trans x0; have x1' := (hb2.cell (p := ⟨f, j * 2 + 1, none⟩) f1).trans x1; have y0' := (hb2.cell (p := ⟨f, (j - 1) * 2, none⟩) f1).trans y0; have y1' := (hb2.cell (p := ⟨f, (j - 1) * 2 + 1, none⟩) f1).trans y1))
          have HO2 := Lib.hid (HO.out.up hb2)
          have hbw2 : Below base w w2 := hbw.trans (hb2.mono hsw)
          have hf2 : f < w2.heap.size := Nat.lt_of_lt_of_le f1 hb2.size
          by_cases hxy : x.2 - y.2 < 0
          · obtain ⟨g, e, _, _, _, ff⟩ := HO2.out.at_ (by omega)
            injection e with e
            injection e with e
            subst e
            have g0 := ff (j * 2)
            have g1 := ff (j * 2 + 1)
            have g2 := ff ((j - 1) * 2)
            have g3 := ff ((j - 1) * 2 + 1)
            have n1 : ¬ j * 2 = (j - 1) * 2 := by omega
            have n2 : ¬ (j - 1) * 2 = j * 2 := by omega
            have hcd : decide (x.2 - y.2 < 0) = true := decide_eq_true hxy
            have HSW := own_sw HO2.out f0 hf2 HXJ.out HYJ.out (by omega)
            rw [swL_adj HJ1.out] at HSW
            have HSO : Hid (Owned strikeE 2 41 _ base _ n c (P ++ (S1' ++ (x :: ((y :: S2) ++ (X.drop (i - a + 1) ++ Q)))))) := Lib.hid (by have := HSW.1.drew; simpa using this)
            have HSB := Lib.hid (hbw2.trans HSW.2).drew
            have HR5 : Hid (a + S1'.length = j - 1 ∧ stT (X.take (i - a)) = S1' ++ (y :: S2) ∧ ∀ s ∈ y :: S2, x.2 < s.2) := Lib.hid ⟨by have := HR.out.1; simp at this; omega, by rw [HR.out.2.1]; simp, fun s hs => by
              rcases List.mem_cons.1 hs with q | q
              · rw [q]; omega
              · exact HR.out.2.2 s q⟩
            clear ff HSW hbd hb2 x0 x1 y0 y1 hbw hbw2
            go_wp2
            go_region
            go_wp2
            go_roundw
            case rel => exact ⟨j - 1, S1', y :: S2, by go_num, by omega, by omega, HR5, HSO, HSB.out⟩
            case measure => simp [intOf]; omega
          · have hcd : decide (x.2 - y.2 < 0) = false := decide_eq_false hxy
            have HD := Lib.hid (ins_done HR.out.2.1 HX.out (ins_le HR.out.2.1 (by omega)) HR.out.2.2)
            have HO5 : Hid (Owned strikeE 2 41 w2 base (some ⟨f, 0, none⟩) n c (P ++ (stT (X.take (i + 1 - a)) ++ (X.drop (i + 1 - a) ++ Q)))) := Lib.hid (by rw [show i + 1 - a = i - a + 1 by omega, HD.out]; have := HO2.out; simpa using this)
            clear hbd hb2 x0 x1 y0 y1 x0' x1' y0' y1'
            go_wp2
            go_roundw
            case rel => exact ⟨i + 1, by go_num, by omega, by omega, HO5, hbw2⟩
            case measure => simp [intOf]; omega
        · have hJ : ¬ (a : Int) < (j : Int) := by omega
          obtain rfl : a = j := by omega
          have hS : S1 = [] := List.eq_nil_of_length_eq_zero (by have := HR.out.1; omega)
          subst hS
          have HD := Lib.hid (ins_done HR.out.2.1 HX.out (fun s hs => by cases hs) HR.out.2.2)
          have HO5 : Hid (Owned strikeE 2 41 wr base A n c (P ++ (stT (X.take (i + 1 - a)) ++ (X.drop (i + 1 - a) ++ Q)))) := Lib.hid (by rw [show i + 1 - a = i - a + 1 by omega, HD.out]; have := HO.out; simpa using this)
          go_wp2
          go_quiet (fail)
          go_wp2
          go_roundw
          case rel => exact ⟨i + 1, by go_num, by omega, by omega, Lib.hid (HO5.out.drewN _), below_drewN hbw _⟩
          case measure => simp [intOf]; omega
    · have hI : ¬ (i : Int) < (b : Int) := by omega
      have HF : Hid (Owned strikeE 2 41 wr base A n c (P ++ (stT X ++ Q))) := Lib.hid (by
        have := HO.out
        rw [List.take_of_length_le (by have := HB.out; omega), List.drop_of_length_le (by have := HB.out; omega)] at this
        exact this)
      go_wp2
      go_end0
      exact ⟨rfl, HF.out, hbw⟩
end Go.Proofs.YthffeljicohpdaaGreatDoor
/- Merging by symmetric comparisons, in plain Lean: where the halves are cut. -/
namespace Go.Proofs.YthffeljicohpdaaGreatDoor
set_option linter.unusedVariables false
set_option linter.unusedSimpArgs false
open Go.ChangeShapes Go.WideShapes Go.ChangeAt Go.RowKit Go.Deep
theorem srtT_le {l : List (Int × Int)} (h : srtT l) {i j : Nat} {x y : Int × Int} (hij : i ≤ j) (hx : l[i]? = some x) (hy : l[j]? = some y) : x.2 ≤ y.2 := by
  rcases Nat.lt_or_ge i j with hlt | hge
  · obtain ⟨h1, e1⟩ := List.getElem?_eq_some_iff.1 hx
    obtain ⟨h2, e2⟩ := List.getElem?_eq_some_iff.1 hy
    have := (List.pairwise_iff_getElem.1 h) i j h1 h2 hlt
    rw [e1, e2] at this; exact this
  · obtain rfl : i = j := by omega
    rw [hx] at hy; injection hy with hy; rw [hy]; exact Int.le_refl _
theorem take_mem {l : List (Int × Int)} {k : Nat} {x : Int × Int} (h : x ∈ l.take k) : ∃ i, i < k ∧ l[i]? = some x := by
  obtain ⟨i, hi⟩ := List.mem_iff_getElem?.1 h
  rw [List.getElem?_take] at hi
  by_cases hk : i < k
  · rw [if_pos hk] at hi; exact ⟨i, hk, hi⟩
  · rw [if_neg hk] at hi; cases hi
theorem drop_mem {l : List (Int × Int)} {k : Nat} {x : Int × Int} (h : x ∈ l.drop k) : ∃ i, k ≤ i ∧ l[i]? = some x := by
  obtain ⟨i, hi⟩ := List.mem_iff_getElem?.1 h
  rw [List.getElem?_drop] at hi
  exact ⟨k + i, by omega, hi⟩
theorem sym_first {LB : List (Int × Int)} {x : Int × Int} {k : Nat} (h1 : ∀ t (s : Int × Int), t < k → LB[t]? = some s → s.2 < x.2) (h2 : ∀ t (s : Int × Int), k ≤ t → LB[t]? = some s → x.2 ≤ s.2) : List.merge [x] LB leT = LB.take k ++ x :: LB.drop k := by
  have := mgT_first (x := x) (B1 := LB.take k) (B2 := LB.drop k) (fun y hy => by
    obtain ⟨i, hi, e⟩ := take_mem hy
    exact h1 i y hi e) (fun y hy => by
    obtain ⟨i, hi, e⟩ := drop_mem hy
    exact h2 i y hi e)
  rw [List.take_append_drop] at this
  exact this
theorem sym_last {LA : List (Int × Int)} {x : Int × Int} {k : Nat} (h1 : ∀ t (s : Int × Int), t < k → LA[t]? = some s → s.2 ≤ x.2) (h2 : ∀ t (s : Int × Int), k ≤ t → LA[t]? = some s → x.2 < s.2) : List.merge LA [x] leT = LA.take k ++ x :: LA.drop k := by
  have := mgT_last (x := x) (A1 := LA.take k) (A2 := LA.drop k) (fun y hy => by
    obtain ⟨i, hi, e⟩ := take_mem hy
    exact h1 i y hi e) (fun y hy => by
    obtain ⟨i, hi, e⟩ := drop_mem hy
    exact h2 i y hi e)
  rw [List.take_append_drop] at this
  exact this
def symI (LA LB : List (Int × Int)) (k h : Nat) : Prop := k = 0 ∨ h = LB.length ∨ ∃ x y : Int × Int, LA[k - 1]? = some x ∧ LB[h]? = some y ∧ x.2 ≤ y.2
def symJ (LA LB : List (Int × Int)) (k h : Nat) : Prop := k = LA.length ∨ h = 0 ∨ ∃ x y : Int × Int, LA[k]? = some x ∧ LB[h - 1]? = some y ∧ y.2 < x.2
theorem sym_cut {LA LB : List (Int × Int)} {k h : Nat} (hA : srtT LA) (hB : srtT LB) (h1 : symI LA LB k h) (h2 : symJ LA LB k h) : List.merge LA LB leT = List.merge (LA.take k) (LB.take h) leT ++ List.merge (LA.drop k) (LB.drop h) leT := by
  have := mgT_cut _ (LA.take k) (LB.take h) (LA.drop k) (LB.drop h) (Nat.le_refl _) (fun x hx y hy => by
    obtain ⟨i, hi, ei⟩ := take_mem hx
    obtain ⟨j, hj, ej⟩ := drop_mem hy
    have hj2 := (List.getElem?_eq_some_iff.1 ej).1
    rcases h1 with h1 | h1 | ⟨x', y', ex, ey, hxy⟩
    · omega
    · omega
    · have a1 := srtT_le hA (show i ≤ k - 1 by omega) ei ex
      have a2 := srtT_le hB hj ey ej
      omega) (fun x hx y hy => by
    obtain ⟨i, hi, ei⟩ := drop_mem hx
    obtain ⟨j, hj, ej⟩ := take_mem hy
    have hi2 := (List.getElem?_eq_some_iff.1 ei).1
    rcases h2 with h2 | h2 | ⟨x', y', ex, ey, hxy⟩
    · omega
    · omega
    · have a1 := srtT_le hA hi ex ei
      have a2 := srtT_le hB (show j ≤ h - 1 by omega) ej ey
      omega)
  rw [List.take_append_drop, List.take_append_drop] at this
  exact this
theorem srtT_take {l : List (Int × Int)} (h : srtT l) (k : Nat) : srtT (l.take k) := List.Pairwise.sublist (List.take_sublist k l) h
theorem srtT_drop {l : List (Int × Int)} (h : srtT l) (k : Nat) : srtT (l.drop k) := List.Pairwise.sublist (List.drop_sublist k l) h
theorem midT_take {l : List (Int × Int)} (h : midT l) (k : Nat) : midT (l.take k) := fun s hs => h s (List.mem_of_mem_take hs)
theorem midT_drop {l : List (Int × Int)} (h : midT l) (k : Nat) : midT (l.drop k) := fun s hs => h s (List.mem_of_mem_drop hs)
theorem midT_merge {a b : List (Int × Int)} (ha : midT a) (hb : midT b) : midT (List.merge a b leT) := fun s hs => by
  rcases mgT_mem.1 hs with h | h
  · exact ha s h
  · exact hb s h
theorem midT_stT {l : List (Int × Int)} (h : midT l) : midT (stT l) := fun s hs => h s (stT_mem hs)
theorem swL_adj2 {P R : List (Int × Int)} {x y : Int × Int} {j : Nat} (h : P.length = j) : swL (P ++ (x :: y :: R)) j (j + 1) = P ++ (y :: x :: R) := by
  subst h
  apply List.ext_getElem?
  intro t
  rw [swL_at (by simp) (by simp) (by omega)]
  simp only [List.getElem?_append]
  by_cases c1 : t < P.length
  · rw [if_neg (by omega), if_neg (by omega), if_pos c1, if_pos c1]
  · by_cases c2 : t = P.length
    · subst c2
      simp
    · by_cases c3 : t = P.length + 1
      · subst c3
        simp
      · rw [if_neg c2, if_neg c3, if_neg c1, if_neg c1]
        obtain ⟨q, hq⟩ : ∃ q, t - P.length = q + 2 := ⟨t - P.length - 2, by omega⟩
        rw [hq]; rfl
end Go.Proofs.YthffeljicohpdaaGreatDoor
/- The walk through the library's merging in place, at strikes: one element against many. -/
namespace Go.Proofs.YthffeljicohpdaaGreatDoor
set_option linter.unusedVariables false
set_option linter.unusedSimpArgs false
open Go.ChangeShapes Go.WideShapes Go.ChangeAt Go.RowKit Go.Deep
set_option maxHeartbeats 2000000 in
set_option maxRecDepth 100000 in
theorem sl_symOne {A : Option Addr} {n c base a m b : Nat} {P LB Q : List (Int × Int)} {x : Int × Int} {w : World} (hO : Owned strikeE 2 41 w base A n c (P ++ (x :: (LB ++ Q)))) (hz : n ≤ 16777216) (ha : P.length = a) (hm : a + 1 = m) (hb : m + LB.length = b) (hbase : base ≤ w.heap.size) (hT : midT (x :: LB)) (hS : srtT LB) :
    Calls Tryz.prog 60 #[.slice A n c, .int .i64 a, .int .i64 m, .int .i64 b, .func (.func 36) #[] #[]] w fun e w' => e = .returned (.tuple #[]) ∧ Owned strikeE 2 41 w' base A n c (P ++ (List.merge [x] LB leT ++ Q)) ∧ Below base w w' := by
  have hL := hO.len
  have hbn : b ≤ n := by rw [← hL]; simp; omega
  have HA := Lib.hid ha
  have HM := Lib.hid hm
  have HB := Lib.hid hb
  have HT := Lib.hid hT
  have HS := Lib.hid hS
  have hmb : m ≤ b := by omega
  have ham : a < m := by omega
  have e1 : (m : Int) - (a : Int) = 1 := by omega
  have hpos : 0 < n := by omega
  have han : a < n := by omega
  have HXA : Hid ((P ++ (x :: (LB ++ Q)))[a]? = some x) := Lib.hid (by rw [← ha, List.getElem?_append_right (Nat.le_refl _), Nat.sub_self]; rfl)
  clear hL ha hm hb hT hS
  go_in
  go_wp2
  go_loopw [10, 11] (fun v u wr => ∃ i j : Nat, v = .int .i64 i ∧ u = .int .i64 j ∧ m ≤ i ∧ i ≤ j ∧ j ≤ b ∧ Hid ((∀ t (s : Int × Int), t < i - m → LB[t]? = some s → s.2 < x.2) ∧ ∀ t (s : Int × Int), j - m ≤ t → LB[t]? = some s → x.2 ≤ s.2) ∧ Hid (Owned strikeE 2 41 wr base A n c (P ++ (x :: (LB ++ Q)))) ∧ Below base w wr) (fun v u _ => (intOf u).toNat - (intOf v).toNat)
  case atStart => exact ⟨m, b, rfl, rfl, Nat.le_refl _, hmb, Nat.le_refl _, Lib.hid ⟨fun t s ht _ => absurd ht (by omega), fun t s ht hs => by
    have := (List.getElem?_eq_some_iff.1 hs).1
    have := HB.out
    omega⟩, Lib.hid hO, Below.refl _ _⟩
  case round =>
    obtain ⟨i, j, rfl, rfl, hmi, hij, hjb, HR, HO, hbw⟩ := hrel
    rename World => wr
    by_cases hlt : i < j
    · have hI : (i : Int) < (j : Int) := by omega
      obtain ⟨k, hk⟩ : ∃ k, k = (i + j) / 2 := ⟨_, rfl⟩
      have hik : i ≤ k := by omega
      have hkj : k < j := by omega
      have hkI : ((i : Int) + (j : Int)) / 2 = (k : Int) := by omega
      have hkn : k < n := by omega
      clear hk
      obtain ⟨y, hy⟩ := some_of_lt (l := LB) (k := k - m) (by have := HB.out; omega)
      have HY := Lib.hid hy
      have HYD : Hid ((P ++ (x :: (LB ++ Q)))[k]? = some y) := Lib.hid (by
        have hlk := (List.getElem?_eq_some_iff.1 hy).1
        have e := HA.out
        have e' := HM.out
        rw [List.getElem?_append_right (by omega), show k - P.length = (k - m) + 1 by omega, List.getElem?_cons_succ, List.getElem?_append_left hlk]; exact hy)
      have hxt := HT.out x (List.mem_cons_self ..)
      have hyt := HT.out y (List.mem_cons_of_mem _ (List.mem_of_getElem? hy))
      have HXT := Lib.hid hxt
      have HYT := Lib.hid hyt
      obtain ⟨f, rfl, f0, f1, fc, ff⟩ := HO.out.at_ hpos
      have x0 := fc _ x 0 _ HXA.out rfl
      have x1 := fc _ x 1 _ HXA.out rfl
      have y0 := fc _ y 0 _ HYD.out rfl
      have y1 := fc _ y 1 _ HYD.out rfl
      simp only [Nat.add_zero] at x0 y0
      have hsw : base ≤ wr.heap.size := Nat.le_trans hbase hbw.size
      clear fc ff hy hxt hyt
      go_wp2
      go_region_held3 (fun u => u.cell? ⟨f, a * 2, none⟩ = some (.int .i64 x.1) ∧ u.cell? ⟨f, a * 2 + 1, none⟩ = some (.int .i64 x.2) ∧ u.cell? ⟨f, k * 2, none⟩ = some (.int .i64 y.1) ∧ u.cell? ⟨f, k * 2 + 1, none⟩ = some (.int .i64 y.2)) (first | exact ⟨by assumption, by assumption, by assumption, by assumption⟩) (first | (refine (impl_cmp (x := y) (y := x) HYT.out HXT.out).mono ?_; rintro e w2 ⟨rfl, hbd⟩; have hb2 := below_of_drew hbd; have x0' := (hb2.cell (p := ⟨f, a * 2, none⟩) f1).trans x0; have x1' := (hb2.cell (p := ⟨f, a * 2 + 1, none⟩) f1).trans x1; have y0' := (hb2.cell (p := ⟨f, k * 2, none⟩) f1).trans y0; have y1' := (hb2.cell (p := ⟨f, k * 2 + 1, none⟩) f1).trans y1))
      have HO2 := Lib.hid (HO.out.up hb2)
      have hbw2 : Below base w w2 := hbw.trans (hb2.mono hsw)
      by_cases hxy : y.2 - x.2 < 0
      · have hcd : decide (y.2 - x.2 < 0) = true := decide_eq_true hxy
        have HR2 : Hid ((∀ t (s : Int × Int), t < k + 1 - m → LB[t]? = some s → s.2 < x.2) ∧ ∀ t (s : Int × Int), j - m ≤ t → LB[t]? = some s → x.2 ≤ s.2) := Lib.hid ⟨fun t s ht hs => by
          have := srtT_le HS.out (show t ≤ k - m by omega) hs HY.out
          omega, HR.out.2⟩
        clear hbd hb2 x0 x1 y0 y1 x0' x1' y0' y1'
        go_wp2
        go_roundw
        case rel => exact ⟨k + 1, j, by go_num, rfl, by omega, by omega, hjb, HR2, HO2, hbw2⟩
        case measure => simp [intOf]; omega
      · have hcd : decide (y.2 - x.2 < 0) = false := decide_eq_false hxy
        have HR2 : Hid ((∀ t (s : Int × Int), t < i - m → LB[t]? = some s → s.2 < x.2) ∧ ∀ t (s : Int × Int), k - m ≤ t → LB[t]? = some s → x.2 ≤ s.2) := Lib.hid ⟨HR.out.1, fun t s ht hs => by
          have := srtT_le HS.out ht HY.out hs
          omega⟩
        clear hbd hb2 x0 x1 y0 y1 x0' x1' y0' y1'
        go_wp2
        go_roundw
        case rel => exact ⟨i, k, rfl, rfl, hmi, hik, by omega, HR2, HO2, hbw2⟩
        case measure => simp [intOf]; omega
    · have hI : ¬ (i : Int) < (j : Int) := by omega
      obtain rfl : i = j := by omega
      have HF : Hid (List.merge [x] LB leT = LB.take (i - m) ++ x :: LB.drop (i - m)) := Lib.hid (sym_first HR.out.1 HR.out.2)
      have hin : i ≤ n := by omega
      have HO0 : Hid (Owned strikeE 2 41 wr base A n c (P ++ ([] ++ (x :: (LB.take (i - m) ++ (LB.drop (i - m) ++ Q)))))) := Lib.hid (by
        have := HO.out
        rw [← List.append_assoc (LB.take (i - m)), List.take_append_drop, List.nil_append]; exact this)
      have hwi := wrap_predT (k := i) (by omega) (by omega)
      clear HO
      go_wp2
      go_loopw [13] (fun v wr => ∃ (k : Nat) (C1 C2 : List (Int × Int)), v = .int .i64 k ∧ a ≤ k ∧ k + 1 ≤ i ∧ Hid (a + C1.length = k ∧ C1 ++ C2 = LB.take (i - m)) ∧ Hid (Owned strikeE 2 41 wr base A n c (P ++ (C1 ++ (x :: (C2 ++ (LB.drop (i - m) ++ Q)))))) ∧ Below base w wr) (fun v _ => i - (intOf v).toNat)
      case atStart => exact ⟨a, [], LB.take (i - m), rfl, Nat.le_refl _, by omega, Lib.hid ⟨rfl, rfl⟩, HO0, hbw⟩
      case round =>
        clear HO0 hbw
        obtain ⟨k, C1, C2, rfl, hak, hki, HR, HO, hbw⟩ := hrel
        rename World => wr
        have hlC : C1.length + C2.length = i - m := by
          have := congrArg List.length HR.out.2
          rw [List.length_append, List.length_take] at this
          have := HB.out
          omega
        have HLC := Lib.hid hlC
        clear hlC
        by_cases hk : k < i - 1
        · have hK : (k : Int) < ((i - 1 : Nat) : Int) := by omega
          obtain ⟨y, C2', hC2⟩ : ∃ y t, C2 = y :: t := by
            rcases C2 with _ | ⟨y, t⟩
            · have := HLC.out
              have := HR.out.1
              have := HM.out
              simp at *; omega
            · exact ⟨y, t, rfl⟩
          subst hC2
          have HPL : Hid ((P ++ C1).length = k) := Lib.hid (by have := HR.out.1; have := HA.out; simp at *; omega)
          have hkn : k < n := by omega
          have hkn1 : k + 1 < n := by omega
          have HO : Hid (Owned strikeE 2 41 wr base A n c ((P ++ C1) ++ (x :: y :: (C2' ++ (LB.drop (i - m) ++ Q))))) := Lib.hid (by have := HO.out; simpa using this)
          have HXJ : Hid (((P ++ C1) ++ (x :: y :: (C2' ++ (LB.drop (i - m) ++ Q))))[k]? = some x) := Lib.hid (by rw [← HPL.out, List.getElem?_append_right (Nat.le_refl _), Nat.sub_self]; rfl)
          have HYJ : Hid (((P ++ C1) ++ (x :: y :: (C2' ++ (LB.drop (i - m) ++ Q))))[k + 1]? = some y) := Lib.hid (by rw [← HPL.out, List.getElem?_append_right (by omega), Nat.add_sub_cancel_left]; rfl)
          obtain ⟨f, rfl, f0, f1, fc, ff⟩ := HO.out.at_ hpos
          have x0 := fc _ x 0 _ HXJ.out rfl
          have x1 := fc _ x 1 _ HXJ.out rfl
          have y0 := fc _ y 0 _ HYJ.out rfl
          have y1 := fc _ y 1 _ HYJ.out rfl
          simp only [Nat.add_zero] at x0 y0
          have g0 := ff (k * 2)
          have g1 := ff (k * 2 + 1)
          have g2 := ff ((k + 1) * 2)
          have g3 := ff ((k + 1) * 2 + 1)
          have n1 : ¬ k * 2 = (k + 1) * 2 := by omega
          have n2 : ¬ (k + 1) * 2 = k * 2 := by omega
          have HSW := own_sw HO.out f0 f1 HXJ.out HYJ.out (by omega)
          rw [swL_adj2 HPL.out] at HSW
          have HSO : Hid (Owned strikeE 2 41 _ base _ n c (P ++ ((C1 ++ [y]) ++ (x :: (C2' ++ (LB.drop (i - m) ++ Q)))))) := Lib.hid (by have := HSW.1.drew; simpa using this)
          have HSB := Lib.hid (hbw.trans HSW.2).drew
          have HR2 : Hid (a + (C1 ++ [y]).length = k + 1 ∧ (C1 ++ [y]) ++ C2' = LB.take (i - m)) := Lib.hid ⟨by have := HR.out.1; simp; omega, by rw [← HR.out.2]; simp⟩
          clear fc ff HSW
          go_wp2
          go_region
          go_wp2
          go_roundw
          case rel => exact ⟨k + 1, C1 ++ [y], C2', by go_num, by omega, by omega, HR2, HSO, HSB.out⟩
          case measure => simp [intOf]; omega
        · have hK : ¬ (k : Int) < ((i - 1 : Nat) : Int) := by omega
          have HE : Hid (Owned strikeE 2 41 wr base A n c (P ++ (List.merge [x] LB leT ++ Q))) := Lib.hid (by
            have := HO.out
            have hc : C2 = [] := List.eq_nil_of_length_eq_zero (by have := HLC.out; have := HR.out.1; have := HM.out; omega)
            rw [HF.out, ← HR.out.2, hc]
            rw [hc] at this
            simpa using this)
          go_wp2
          (try simp only [Exit.inBlock, Exit.then]); refine bodyPost_ret (results_none rfl _ _ _) rfl ?_
          exact ⟨rfl, HE.out, hbw⟩
end Go.Proofs.YthffeljicohpdaaGreatDoor
/- The walk through the library's merging in place, at strikes: many against one element. -/
namespace Go.Proofs.YthffeljicohpdaaGreatDoor
set_option linter.unusedVariables false
set_option linter.unusedSimpArgs false
open Go.ChangeShapes Go.WideShapes Go.ChangeAt Go.RowKit Go.Deep
set_option maxHeartbeats 2000000 in
set_option maxRecDepth 100000 in
theorem sl_symLast {A : Option Addr} {n c base a m b : Nat} {P LA Q : List (Int × Int)} {x : Int × Int} {w : World} (hO : Owned strikeE 2 41 w base A n c (P ++ (LA ++ (x :: Q)))) (hz : n ≤ 16777216) (ha : P.length = a) (hm : a + LA.length = m) (hb : m + 1 = b) (h2 : 2 ≤ LA.length) (hbase : base ≤ w.heap.size) (hT : midT LA) (hTx : midT [x]) (hS : srtT LA) :
    Calls Tryz.prog 60 #[.slice A n c, .int .i64 a, .int .i64 m, .int .i64 b, .func (.func 36) #[] #[]] w fun e w' => e = .returned (.tuple #[]) ∧ Owned strikeE 2 41 w' base A n c (P ++ (List.merge LA [x] leT ++ Q)) ∧ Below base w w' := by
  have hL := hO.len
  have hbn : b ≤ n := by rw [← hL]; simp; omega
  have HA := Lib.hid ha
  have HM := Lib.hid hm
  have HT := Lib.hid hT
  have HS := Lib.hid hS
  have hmb : m < b := by omega
  have ham : a ≤ m := by omega
  have e0 : ((m : Int) - (a : Int) == 1) = false := by rw [beq_eq_false_iff_ne]; omega
  have e1 : (b : Int) - (m : Int) = 1 := by omega
  have hpos : 0 < n := by omega
  have hmn : m < n := by omega
  have HXA : Hid ((P ++ (LA ++ (x :: Q)))[m]? = some x) := Lib.hid (by rw [← hm, ← ha, List.getElem?_append_right (by omega), Nat.add_sub_cancel_left, List.getElem?_append_right (Nat.le_refl _), Nat.sub_self]; rfl)
  have HXT := Lib.hid (hTx x (List.mem_singleton.2 rfl))
  clear hL ha hm hb hT hS hTx h2
  go_in
  go_wp2
  go_loopw [14, 15] (fun v u wr => ∃ i j : Nat, v = .int .i64 i ∧ u = .int .i64 j ∧ a ≤ i ∧ i ≤ j ∧ j ≤ m ∧ Hid ((∀ t (s : Int × Int), t < i - a → LA[t]? = some s → s.2 ≤ x.2) ∧ ∀ t (s : Int × Int), j - a ≤ t → LA[t]? = some s → x.2 < s.2) ∧ Hid (Owned strikeE 2 41 wr base A n c (P ++ (LA ++ (x :: Q)))) ∧ Below base w wr) (fun v u _ => (intOf u).toNat - (intOf v).toNat)
  case atStart => exact ⟨a, m, rfl, rfl, Nat.le_refl _, ham, Nat.le_refl _, Lib.hid ⟨fun t s ht _ => absurd ht (by omega), fun t s ht hs => by
    have := (List.getElem?_eq_some_iff.1 hs).1
    have := HM.out
    omega⟩, Lib.hid hO, Below.refl _ _⟩
  case round =>
    obtain ⟨i, j, rfl, rfl, hmi, hij, hjb, HR, HO, hbw⟩ := hrel
    rename World => wr
    by_cases hlt : i < j
    · have hI : (i : Int) < (j : Int) := by omega
      obtain ⟨k, hk⟩ : ∃ k, k = (i + j) / 2 := ⟨_, rfl⟩
      have hik : i ≤ k := by omega
      have hkj : k < j := by omega
      have hkI : ((i : Int) + (j : Int)) / 2 = (k : Int) := by omega
      have hkn : k < n := by omega
      clear hk
      obtain ⟨y, hy⟩ := some_of_lt (l := LA) (k := k - a) (by have := HM.out; omega)
      have HY := Lib.hid hy
      have HYD : Hid ((P ++ (LA ++ (x :: Q)))[k]? = some y) := Lib.hid (by
        have hlk := (List.getElem?_eq_some_iff.1 hy).1
        have e := HA.out
        rw [List.getElem?_append_right (by omega), show k - P.length = (k - a) by omega, List.getElem?_append_left hlk]; exact hy)
      have HYT := Lib.hid (HT.out y (List.mem_of_getElem? hy))
      obtain ⟨f, rfl, f0, f1, fc, ff⟩ := HO.out.at_ hpos
      have x0 := fc _ x 0 _ HXA.out rfl
      have x1 := fc _ x 1 _ HXA.out rfl
      have y0 := fc _ y 0 _ HYD.out rfl
      have y1 := fc _ y 1 _ HYD.out rfl
      simp only [Nat.add_zero] at x0 y0
      have hsw : base ≤ wr.heap.size := Nat.le_trans hbase hbw.size
      clear fc ff hy
      go_wp2
      go_region_held3 (fun u => u.cell? ⟨f, m * 2, none⟩ = some (.int .i64 x.1) ∧ u.cell? ⟨f, m * 2 + 1, none⟩ = some (.int .i64 x.2) ∧ u.cell? ⟨f, k * 2, none⟩ = some (.int .i64 y.1) ∧ u.cell? ⟨f, k * 2 + 1, none⟩ = some (.int .i64 y.2)) (first | exact ⟨by assumption, by assumption, by assumption, by assumption⟩) (first | (refine (impl_cmp (x := x) (y := y) HXT.out HYT.out).mono ?_; rintro e w2 ⟨rfl, hbd⟩; have hb2 := below_of_drew hbd; have x0' := (hb2.cell (p := ⟨f, m * 2, none⟩) f1).trans x0; have x1' := (hb2.cell (p := ⟨f, m * 2 + 1, none⟩) f1).trans x1; have y0' := (hb2.cell (p := ⟨f, k * 2, none⟩) f1).trans y0; have y1' := (hb2.cell (p := ⟨f, k * 2 + 1, none⟩) f1).trans y1))
      have HO2 := Lib.hid (HO.out.up hb2)
      have hbw2 : Below base w w2 := hbw.trans (hb2.mono hsw)
      by_cases hxy : x.2 - y.2 < 0
      · have hcd : (!decide (x.2 - y.2 < 0)) = false := by rw [decide_eq_true hxy]; rfl
        have HR2 : Hid ((∀ t (s : Int × Int), t < i - a → LA[t]? = some s → s.2 ≤ x.2) ∧ ∀ t (s : Int × Int), k - a ≤ t → LA[t]? = some s → x.2 < s.2) := Lib.hid ⟨HR.out.1, fun t s ht hs => by
          have := srtT_le HS.out ht HY.out hs
          omega⟩
        clear hbd hb2 x0 x1 y0 y1 x0' x1' y0' y1'
        go_wp2
        all_goals (try (rename_i hbad; rw [hcd] at hbad; exact absurd hbad (by decide)))
        go_roundw
        case rel => exact ⟨i, k, rfl, rfl, hmi, hik, by omega, HR2, HO2, hbw2⟩
        case measure => simp [intOf]; omega
      · have hcd : (!decide (x.2 - y.2 < 0)) = true := by rw [decide_eq_false hxy]; rfl
        have HR2 : Hid ((∀ t (s : Int × Int), t < k + 1 - a → LA[t]? = some s → s.2 ≤ x.2) ∧ ∀ t (s : Int × Int), j - a ≤ t → LA[t]? = some s → x.2 < s.2) := Lib.hid ⟨fun t s ht hs => by
          have := srtT_le HS.out (show t ≤ k - a by omega) hs HY.out
          omega, HR.out.2⟩
        clear hbd hb2 x0 x1 y0 y1 x0' x1' y0' y1'
        go_wp2
        all_goals (try (rename_i hbad; rw [hcd] at hbad; exact absurd hbad (by decide)))
        go_roundw
        case rel => exact ⟨k + 1, j, by go_num, rfl, by omega, by omega, hjb, HR2, HO2, hbw2⟩
        case measure => simp [intOf]; omega
    · have hI : ¬ (i : Int) < (j : Int) := by omega
      obtain rfl : i = j := by omega
      have HF : Hid (List.merge LA [x] leT = LA.take (i - a) ++ x :: LA.drop (i - a)) := Lib.hid (sym_last HR.out.1 HR.out.2)
      have HPT : Hid ((P ++ LA.take (i - a)).length = i) := Lib.hid (by have := HA.out; have := HM.out; simp; omega)
      have HO0 : Hid (Owned strikeE 2 41 wr base A n c ((P ++ LA.take (i - a)) ++ (LA.drop (i - a) ++ (x :: ([] ++ Q))))) := Lib.hid (by
        have := HO.out
        rw [List.append_assoc, ← List.append_assoc (LA.take (i - a)), List.take_append_drop, List.nil_append]; exact this)
      clear HO
      go_wp2
      go_loopw [17] (fun v wr => ∃ (k : Nat) (C1 C2 : List (Int × Int)), v = .int .i64 k ∧ i ≤ k ∧ k ≤ m ∧ Hid (i + C1.length = k ∧ C1 ++ C2 = LA.drop (i - a)) ∧ Hid (Owned strikeE 2 41 wr base A n c ((P ++ LA.take (i - a)) ++ (C1 ++ (x :: (C2 ++ Q))))) ∧ Below base w wr) (fun v _ => (intOf v).toNat)
      case atStart => exact ⟨m, LA.drop (i - a), [], rfl, by omega, Nat.le_refl _, Lib.hid ⟨by rw [List.length_drop]; have := HM.out; omega, by simp⟩, HO0, hbw⟩
      case round =>
        clear HO0 hbw
        obtain ⟨k, C1, C2, rfl, hak, hki, HR, HO, hbw⟩ := hrel
        rename World => wr
        by_cases hk : i < k
        · have hK : (k : Int) > (i : Int) := by omega
          obtain ⟨C1', y, hC1⟩ : ∃ t y, C1 = t ++ [y] := by
            rcases List.eq_nil_or_concat C1 with h | ⟨t, y, h⟩
            · have := HR.out.1; rw [h] at this; simp at this; omega
            · exact ⟨t, y, by simpa using h⟩
          subst hC1
          have hj1 : ((P ++ LA.take (i - a)) ++ C1').length + 1 = k := by have e1 := HR.out.1; have e2 := HPT.out; rw [List.length_append] at e1; rw [List.length_append, e2]; simp at e1; omega
          have HJ1 := Lib.hid hj1
          have hkn : k < n := by omega
          have hkn1 : k - 1 < n := by omega
          have hwj := wrap_predT (k := k) (by omega) (by omega)
          have HO : Hid (Owned strikeE 2 41 wr base A n c (((P ++ LA.take (i - a)) ++ C1') ++ (y :: x :: (C2 ++ Q)))) := Lib.hid (by have := HO.out; simpa using this)
          have HXJ : Hid ((((P ++ LA.take (i - a)) ++ C1') ++ (y :: x :: (C2 ++ Q)))[k]? = some x) := Lib.hid (by rw [← HJ1.out, List.getElem?_append_right (by omega), Nat.add_sub_cancel_left]; rfl)
          have HYJ : Hid ((((P ++ LA.take (i - a)) ++ C1') ++ (y :: x :: (C2 ++ Q)))[k - 1]? = some y) := Lib.hid (by rw [← HJ1.out, List.getElem?_append_right (by omega), Nat.add_sub_cancel, Nat.sub_self]; rfl)
          obtain ⟨f, rfl, f0, f1, fc, ff⟩ := HO.out.at_ hpos
          have x0 := fc _ x 0 _ HXJ.out rfl
          have x1 := fc _ x 1 _ HXJ.out rfl
          have y0 := fc _ y 0 _ HYJ.out rfl
          have y1 := fc _ y 1 _ HYJ.out rfl
          simp only [Nat.add_zero] at x0 y0
          have g0 := ff (k * 2)
          have g1 := ff (k * 2 + 1)
          have g2 := ff ((k - 1) * 2)
          have g3 := ff ((k - 1) * 2 + 1)
          have n1 : ¬ k * 2 = (k - 1) * 2 := by omega
          have n2 : ¬ (k - 1) * 2 = k * 2 := by omega
          have HSW := own_sw HO.out f0 f1 HXJ.out HYJ.out (by omega)
          rw [swL_adj HJ1.out] at HSW
          have HSO : Hid (Owned strikeE 2 41 _ base _ n c ((P ++ LA.take (i - a)) ++ (C1' ++ (x :: ((y :: C2) ++ Q))))) := Lib.hid (by have := HSW.1.drew; simpa using this)
          have HSB := Lib.hid (hbw.trans HSW.2).drew
          have HR2 : Hid (i + C1'.length = k - 1 ∧ C1' ++ (y :: C2) = LA.drop (i - a)) := Lib.hid ⟨by have := HR.out.1; simp at this; omega, by rw [← HR.out.2]; simp⟩
          clear fc ff HSW hj1
          go_wp2
          go_region
          go_wp2
          go_roundw
          case rel => exact ⟨k - 1, C1', y :: C2, by go_num, by omega, by omega, HR2, HSO, HSB.out⟩
          case measure => simp [intOf]; omega
        · have hK : ¬ (k : Int) > (i : Int) := by omega
          have HE : Hid (Owned strikeE 2 41 wr base A n c (P ++ (List.merge LA [x] leT ++ Q))) := Lib.hid (by
            have := HO.out
            have hc : C1 = [] := List.eq_nil_of_length_eq_zero (by have := HR.out.1; omega)
            rw [HF.out, ← HR.out.2, hc]
            rw [hc] at this
            simpa using this)
          go_wp2
          (try simp only [Exit.inBlock, Exit.then]); refine bodyPost_ret (results_none rfl _ _ _) rfl ?_
          exact ⟨rfl, HE.out, hbw⟩
end Go.Proofs.YthffeljicohpdaaGreatDoor
/- The walk through the library's merging in place, at strikes. -/
namespace Go.Proofs.YthffeljicohpdaaGreatDoor
set_option linter.unusedVariables false
set_option linter.unusedSimpArgs false
open Go.ChangeShapes Go.WideShapes Go.ChangeAt Go.RowKit Go.Deep
theorem mg_eq {A B : List (Int × Int)} (h : A = [] ∨ B = []) : List.merge A B leT = A ++ B := by
  rcases h with rfl | rfl <;> simp
theorem sym_parts {LA LB : List (Int × Int)} {k h : Nat} (hk : k ≤ LA.length) (hh : h ≤ LB.length) (hA : srtT LA) (hB : srtT LB) (tA : midT LA) (tB : midT LB) (h1 : symI LA LB k h) (h2 : symJ LA LB k h) : ∃ A1 A2 B1 B2 : List (Int × Int), (LA = A1 ++ A2 ∧ LB = B1 ++ B2) ∧ (A1.length = k ∧ A2.length = LA.length - k ∧ B1.length = h ∧ B2.length = LB.length - h) ∧ List.merge LA LB leT = List.merge A1 B1 leT ++ List.merge A2 B2 leT ∧ (srtT A1 ∧ srtT A2 ∧ srtT B1 ∧ srtT B2) ∧ (midT A1 ∧ midT A2 ∧ midT B1 ∧ midT B2) :=
  ⟨LA.take k, LA.drop k, LB.take h, LB.drop h, ⟨(List.take_append_drop ..).symm, (List.take_append_drop ..).symm⟩, ⟨by simp; omega, by simp, by simp; omega, by simp⟩, sym_cut hA hB h1 h2, ⟨srtT_take hA k, srtT_drop hA k, srtT_take hB h, srtT_drop hB h⟩, ⟨midT_take tA k, midT_drop tA k, midT_take tB h, midT_drop tB h⟩⟩
set_option maxHeartbeats 4000000 in
set_option maxRecDepth 100000 in
theorem sl_symMerge (N : Nat) : ∀ (A : Option Addr) (n c base a m b : Nat) (P LA LB Q : List (Int × Int)) (w : World) (_ : Owned strikeE 2 41 w base A n c (P ++ (LA ++ (LB ++ Q)))) (_ : n ≤ 16777216) (_ : P.length = a) (_ : a + LA.length = m) (_ : m + LB.length = b) (_ : 0 < LA.length) (_ : 0 < LB.length) (_ : base ≤ w.heap.size) (_ : midT LA) (_ : midT LB) (_ : srtT LA) (_ : srtT LB) (_ : LA.length + LB.length ≤ N),
    Calls Tryz.prog 60 #[.slice A n c, .int .i64 a, .int .i64 m, .int .i64 b, .func (.func 36) #[] #[]] w fun e w' => e = .returned (.tuple #[]) ∧ Owned strikeE 2 41 w' base A n c (P ++ (List.merge LA LB leT ++ Q)) ∧ Below base w w' := by
  induction N with
  | zero => intro A n c base a m b P LA LB Q w hO hz ha hm hb h1 h2; omega
  | succ N ih =>
    intro A n c base a m b P LA LB Q w hO hz ha hm hb h1 h2 hbase hTA hTB hSA hSB hN
    by_cases hA1 : LA.length = 1
    · obtain ⟨x, rfl⟩ := List.length_eq_one_iff.1 hA1
      exact sl_symOne hO hz ha (by simpa using hm) hb hbase (fun s hs => by
        rcases List.mem_cons.1 hs with q | q
        · exact hTA s (q ▸ List.mem_singleton.2 rfl)
        · exact hTB s q) hSB
    by_cases hB1 : LB.length = 1
    · obtain ⟨x, rfl⟩ := List.length_eq_one_iff.1 hB1
      exact sl_symLast hO hz ha hm (by simpa using hb) (by omega) hbase hTA hTB hSA
    have hL := hO.len
    have hbn : b ≤ n := by rw [← hL]; simp; omega
    have HA := Lib.hid ha
    have HM := Lib.hid hm
    have HB := Lib.hid hb
    have HTA := Lib.hid hTA
    have HTB := Lib.hid hTB
    have HSA := Lib.hid hSA
    have HSB := Lib.hid hSB
    have IH := Lib.hid ih
    have HN := Lib.hid hN
    have e0 : ((m : Int) - (a : Int) == 1) = false := by rw [beq_eq_false_iff_ne]; omega
    have e1 : ((b : Int) - (m : Int) == 1) = false := by rw [beq_eq_false_iff_ne]; omega
    have hpos : 0 < n := by omega
    have ham : a + 2 ≤ m := by omega
    have hmb : m + 2 ≤ b := by omega
    obtain ⟨mid, hmid⟩ : ∃ k, k = (a + b) / 2 := ⟨_, rfl⟩
    have hmI : ((a : Int) + (b : Int)) / 2 = (mid : Int) := by omega
    have hm1 : a + b ≤ 2 * mid + 1 := by omega
    have hm2 : 2 * mid ≤ a + b := by omega
    obtain ⟨p, hp⟩ : ∃ p, p + 1 = mid + m := ⟨mid + m - 1, by omega⟩
    have hpI : (mid : Int) + (m : Int) - 1 = (p : Int) := by omega
    have HP := Lib.hid hp
    obtain ⟨s0, r0, hcase⟩ : ∃ s0 r0 : Nat, (mid < m ∧ mid + m = s0 + b ∧ mid = r0) ∨ (m ≤ mid ∧ a = s0 ∧ m = r0) := by
      by_cases h : mid < m
      · exact ⟨mid + m - b, mid, .inl ⟨h, by omega, rfl⟩⟩
      · exact ⟨a, m, .inr ⟨by omega, rfl, rfl⟩⟩
    have HST : Hid (a ≤ s0 ∧ s0 ≤ r0 ∧ r0 ≤ mid ∧ r0 ≤ m ∧ mid ≤ s0 + LB.length ∧ symI LA LB (s0 - a) (mid - s0) ∧ symJ LA LB (r0 - a) (mid - r0)) := Lib.hid (by
      rcases hcase with ⟨q1, q2, q3⟩ | ⟨q1, q2, q3⟩
      · exact ⟨by omega, by omega, by omega, by omega, by omega, .inr (.inl (by omega)), .inr (.inl (by omega))⟩
      · exact ⟨by omega, by omega, by omega, by omega, by omega, .inl (by omega), .inl (by omega)⟩)
    have hc1 : (mid : Int) + (m : Int) ≤ 33554432 := by omega
    have hcd : ((m : Int) > (mid : Int) ∧ ((mid : Int) + (m : Int) - (b : Int) = (s0 : Int)) ∧ mid = r0) ∨ (¬ (m : Int) > (mid : Int) ∧ a = s0 ∧ m = r0) := by omega
    clear hL ha hm hb hmid h1 h2 hTA hTB hSA hSB ih hN hA1 hB1 hp hcase
    rcases hcd with ⟨q1, q2, q3⟩ | ⟨q1, q2, q3⟩
    all_goals subst q3
    rotate_left
    subst q2
    rotate_left
    all_goals
      go_in
      go_wp2
      go_loopw [20, 21] (fun v u wr => ∃ s r : Nat, v = .int .i64 s ∧ u = .int .i64 r ∧ a ≤ s ∧ s ≤ r ∧ r ≤ mid ∧ r ≤ m ∧ Hid (mid ≤ s + LB.length ∧ symI LA LB (s - a) (mid - s) ∧ symJ LA LB (r - a) (mid - r)) ∧ Hid (Owned strikeE 2 41 wr base A n c (P ++ (LA ++ (LB ++ Q)))) ∧ Below base w wr) (fun v u _ => (intOf u).toNat - (intOf v).toNat)
      case atStart => exact ⟨_, _, rfl, rfl, HST.out.1, HST.out.2.1, HST.out.2.2.1, HST.out.2.2.2.1, Lib.hid HST.out.2.2.2.2, Lib.hid hO, Below.refl _ _⟩
      case round =>
        obtain ⟨s, r, rfl, rfl, has, hsr, hrmid, hrm, HR, HO, hbw⟩ := hrel
        rename World => wr
        have hsw : base ≤ wr.heap.size := Nat.le_trans hbase hbw.size
        by_cases hlt : s < r
        · have hI : (s : Int) < (r : Int) := by omega
          obtain ⟨k, hk⟩ : ∃ k, k = (s + r) / 2 := ⟨_, rfl⟩
          have hsk : s ≤ k := by omega
          have hkr : k < r := by omega
          have hkI : ((s : Int) + (r : Int)) / 2 = (k : Int) := by omega
          have hkn : k < n := by omega
          clear hk
          obtain ⟨q, hq⟩ : ∃ q, q + k = p := ⟨p - k, by have := HP.out; omega⟩
          have hwq : IntKind.i64.wrap ((p : Int) - (k : Int)) = (q : Int) := by rw [PlainAid.i64_is]; unfold wrap64; have := HP.out; omega
          have hqn : q < n := by have := HP.out; have := HR.out.1; have := HB.out; omega
          have hlA : k - a < LA.length := by have := HM.out; omega
          have hlB : mid - 1 - k < LB.length := by have := HR.out.1; omega
          obtain ⟨x, hx⟩ := some_of_lt hlA
          obtain ⟨y, hy⟩ := some_of_lt hlB
          have HX := Lib.hid hx
          have HY := Lib.hid hy
          have HXD : Hid ((P ++ (LA ++ (LB ++ Q)))[k]? = some x) := Lib.hid (by
            have e := HA.out
            rw [List.getElem?_append_right (by omega), show k - P.length = k - a by omega, List.getElem?_append_left hlA]; exact hx)
          have HYD : Hid ((P ++ (LA ++ (LB ++ Q)))[q]? = some y) := Lib.hid (by
            have e := HA.out
            have e2 := HM.out
            have e3 := HP.out
            rw [List.getElem?_append_right (by omega), List.getElem?_append_right (by omega), show q - P.length - LA.length = mid - 1 - k by omega, List.getElem?_append_left hlB]; exact hy)
          have HXT := Lib.hid (HTA.out x (List.mem_of_getElem? hx))
          have HYT := Lib.hid (HTB.out y (List.mem_of_getElem? hy))
          have HQ := Lib.hid hq
          obtain ⟨f, rfl, f0, f1, fc, ff⟩ := HO.out.at_ hpos
          have x0 := fc _ x 0 _ HXD.out rfl
          have x1 := fc _ x 1 _ HXD.out rfl
          have y0 := fc _ y 0 _ HYD.out rfl
          have y1 := fc _ y 1 _ HYD.out rfl
          simp only [Nat.add_zero] at x0 y0
          clear fc ff hx hy hlA hlB hq
          go_wp2
          go_region_held3 (fun u => u.cell? ⟨f, q * 2, none⟩ = some (.int .i64 y.1) ∧ u.cell? ⟨f, q * 2 + 1, none⟩ = some (.int .i64 y.2) ∧ u.cell? ⟨f, k * 2, none⟩ = some (.int .i64 x.1) ∧ u.cell? ⟨f, k * 2 + 1, none⟩ = some (.int .i64 x.2)) (first | exact ⟨by assumption, by assumption, by assumption, by assumption⟩) (first | (refine (impl_cmp (x := y) (y := x) HYT.out HXT.out).mono ?_; rintro e w2 ⟨rfl, hbd⟩; have hb2 := below_of_drew hbd; have x0' := (hb2.cell (p := ⟨f, q * 2, none⟩) f1).trans y0; have x1' := (hb2.cell (p := ⟨f, q * 2 + 1, none⟩) f1).trans y1; have y0' := (hb2.cell (p := ⟨f, k * 2, none⟩) f1).trans x0; have y1' := (hb2.cell (p := ⟨f, k * 2 + 1, none⟩) f1).trans x1))
          have HO2 := Lib.hid (HO.out.up hb2)
          have hbw2 : Below base w w2 := hbw.trans (hb2.mono hsw)
          by_cases hxy : y.2 - x.2 < 0
          · have hcd : (!decide (y.2 - x.2 < 0)) = false := by rw [decide_eq_true hxy]; rfl
            have HR2 : Hid (mid ≤ s + LB.length ∧ symI LA LB (s - a) (mid - s) ∧ symJ LA LB (k - a) (mid - k)) := Lib.hid ⟨HR.out.1, HR.out.2.1, .inr (.inr ⟨x, y, HX.out, by rw [show mid - k - 1 = mid - 1 - k by omega]; exact HY.out, by omega⟩)⟩
            clear hbd hb2 x0 x1 y0 y1 x0' x1' y0' y1'
            go_wp2
            all_goals (try (rename_i hbad; rw [hcd] at hbad; exact absurd hbad (by decide)))
            go_roundw
            case rel => exact ⟨s, k, rfl, rfl, has, hsk, by omega, by omega, HR2, HO2, hbw2⟩
            case measure => simp [intOf]; omega
          · have hcd : (!decide (y.2 - x.2 < 0)) = true := by rw [decide_eq_false hxy]; rfl
            have HR2 : Hid (mid ≤ k + 1 + LB.length ∧ symI LA LB (k + 1 - a) (mid - (k + 1)) ∧ symJ LA LB (r - a) (mid - r)) := Lib.hid ⟨by have := HR.out.1; omega, .inr (.inr ⟨x, y, by rw [show k + 1 - a - 1 = k - a by omega]; exact HX.out, by rw [show mid - (k + 1) = mid - 1 - k by omega]; exact HY.out, by omega⟩), HR.out.2.2⟩
            clear hbd hb2 x0 x1 y0 y1 x0' x1' y0' y1'
            go_wp2
            all_goals (try (rename_i hbad; rw [hcd] at hbad; exact absurd hbad (by decide)))
            go_roundw
            case rel => exact ⟨k + 1, r, by go_num, rfl, by omega, by omega, hrmid, hrm, HR2, HO2, hbw2⟩
            case measure => simp [intOf]; omega
        · have hI : ¬ (s : Int) < (r : Int) := by omega
          obtain rfl : s = r := by omega
          obtain ⟨en, hen⟩ : ∃ en, en + s = mid + m := ⟨mid + m - s, by omega⟩
          have heI : (mid : Int) + (m : Int) - (s : Int) = (en : Int) := by omega
          have HE := Lib.hid hen
          obtain ⟨A1, A2, B1, B2, hcut, hlen, hmg, hsrt, hmidT⟩ := sym_parts (LA := LA) (LB := LB) (k := s - a) (h := mid - s) (by have := HM.out; omega) (by have := HR.out.1; omega) HSA.out HSB.out HTA.out HTB.out HR.out.2.1 HR.out.2.2
          have HLE : Hid (P.length = a ∧ a + A1.length = s ∧ s + A2.length = m ∧ m + B1.length = en ∧ en + B2.length = b ∧ s + B1.length = mid ∧ mid + A2.length = en ∧ A1.length + A2.length + B1.length + B2.length ≤ N + 1) := Lib.hid (by
            have := HA.out
            have := HM.out
            have := HB.out
            have := HN.out
            have := HR.out.1
            omega)
          have HMG := Lib.hid hmg
          have HSS := Lib.hid hsrt
          have HTT := Lib.hid hmidT
          have HO1 : Hid (Owned strikeE 2 41 wr base A n c ((P ++ A1) ++ (A2 ++ (B1 ++ (B2 ++ Q))))) := Lib.hid (by
            have := HO.out
            rw [hcut.1, hcut.2] at this
            simpa using this)
          have hmen : mid ≤ en := by omega
          have henb : en ≤ b := by have := HLE.out; omega
          clear hen hcut hlen hmg hsrt hmidT HO
          by_cases hc1' : s < m ∧ m < en
          · have k1 : (s : Int) < (m : Int) := by omega
            have k2 : (m : Int) < (en : Int) := by omega
            go_wp2_with fail
            refine (sl_rotate (a := s) (m := m) (b := en) HO1.out hz (by have := HLE.out; rw [List.length_append]; omega) (by have := HLE.out; omega) (by have := HLE.out; omega) (by have := HLE.out; omega) (by have := HLE.out; omega) hsw).mono ?_; rintro e w7 ⟨rfl, ho7, hb7⟩
            have HO7 : Hid (Owned strikeE 2 41 w7 base A n c (P ++ (A1 ++ (B1 ++ (A2 ++ (B2 ++ Q)))))) := Lib.hid (by simpa using ho7)
            have hbw7 : Below base w w7 := hbw.trans hb7
            have hsw7 : base ≤ w7.heap.size := Nat.le_trans hsw hb7.size
            clear ho7 hb7
            by_cases hc2 : a < s ∧ s < mid
            · have j1 : (a : Int) < (s : Int) := by omega
              have j2 : (s : Int) < (mid : Int) := by omega
              go_wp2_with fail
              refine (IH.out A n c base a s mid P A1 B1 (A2 ++ (B2 ++ Q)) w7 HO7.out hz (by have := HLE.out; omega) (by have := HLE.out; omega) (by have := HLE.out; omega) (by have := HLE.out; omega) (by have := HLE.out; omega) hsw7 HTT.out.1 HTT.out.2.2.1 HSS.out.1 HSS.out.2.2.1 (by have := HLE.out; omega)).mono ?_; rintro e w8 ⟨rfl, ho8, hb8⟩
              have HO8 : Hid (Owned strikeE 2 41 w8 base A n c ((P ++ List.merge A1 B1 leT) ++ (A2 ++ (B2 ++ Q)))) := Lib.hid (by simpa using ho8)
              have hbw8 : Below base w w8 := hbw7.trans hb8
              have hsw8 : base ≤ w8.heap.size := Nat.le_trans hsw7 hb8.size
              clear ho8 hb8
              by_cases hc3 : mid < en ∧ en < b
              · have i1 : (mid : Int) < (en : Int) := by omega
                have i2 : (en : Int) < (b : Int) := by omega
                first | (exfalso; omega) | (go_wp2_with fail
                                            refine (IH.out A n c base mid en b (P ++ List.merge A1 B1 leT) A2 B2 Q w8 HO8.out hz (by have := HLE.out; rw [List.length_append, mgT_len]; omega) (by have := HLE.out; omega) (by have := HLE.out; omega) (by have := HLE.out; omega) (by have := HLE.out; omega) hsw8 HTT.out.2.1 HTT.out.2.2.2 HSS.out.2.1 HSS.out.2.2.2 (by have := HLE.out; omega)).mono ?_; rintro e w9 ⟨rfl, ho9, hb9⟩
                                            have HF : Hid (Owned strikeE 2 41 w9 base A n c (P ++ (List.merge LA LB leT ++ Q))) := Lib.hid (by rw [HMG.out]; simpa using ho9)
                                            have HFB := Lib.hid (hbw8.trans hb9)
                                            clear ho9 hb9
                                            go_wp2
                                            go_end0
                                            exact ⟨rfl, HF.out, HFB.out⟩)
              · have HF : Hid (Owned strikeE 2 41 w8 base A n c (P ++ (List.merge LA LB leT ++ Q))) := Lib.hid (by
                  have e3 := mg_eq (A := A2) (B := B2) (by
                    have := HLE.out
                    by_cases hq : mid < en
                    · exact .inr (List.eq_nil_of_length_eq_zero (by omega))
                    · exact .inl (List.eq_nil_of_length_eq_zero (by omega)))
                  rw [HMG.out, e3]; have := HO8.out; simpa using this)
                by_cases hc4 : mid < en
                · have i1 : (mid : Int) < (en : Int) := by omega
                  have i2 : ¬ (en : Int) < (b : Int) := by omega
                  first | (exfalso; omega) | (go_wp2; go_end0; exact ⟨rfl, HF.out, hbw8⟩)
                · have i1 : ¬ (mid : Int) < (en : Int) := by omega
                  first | (exfalso; omega) | (go_wp2; go_end0; exact ⟨rfl, HF.out, hbw8⟩)
            · have HO8 : Hid (Owned strikeE 2 41 w7 base A n c ((P ++ List.merge A1 B1 leT) ++ (A2 ++ (B2 ++ Q)))) := Lib.hid (by
                have e3 := mg_eq (A := A1) (B := B1) (by
                  have := HLE.out
                  by_cases hq : a < s
                  · exact .inr (List.eq_nil_of_length_eq_zero (by omega))
                  · exact .inl (List.eq_nil_of_length_eq_zero (by omega)))
                rw [e3]; have := HO7.out; simpa using this)
              have hj : ¬ (a : Int) < (s : Int) ∨ ((a : Int) < (s : Int) ∧ ¬ (s : Int) < (mid : Int)) := by omega
              rcases hj with j1 | ⟨j1, j2⟩
              · skip
                by_cases hc3 : mid < en ∧ en < b
                · have i1 : (mid : Int) < (en : Int) := by omega
                  have i2 : (en : Int) < (b : Int) := by omega
                  first | (exfalso; omega) | (go_wp2_with fail
                                              refine (IH.out A n c base mid en b (P ++ List.merge A1 B1 leT) A2 B2 Q w7 HO8.out hz (by have := HLE.out; rw [List.length_append, mgT_len]; omega) (by have := HLE.out; omega) (by have := HLE.out; omega) (by have := HLE.out; omega) (by have := HLE.out; omega) hsw7 HTT.out.2.1 HTT.out.2.2.2 HSS.out.2.1 HSS.out.2.2.2 (by have := HLE.out; omega)).mono ?_; rintro e w9 ⟨rfl, ho9, hb9⟩
                                              have HF : Hid (Owned strikeE 2 41 w9 base A n c (P ++ (List.merge LA LB leT ++ Q))) := Lib.hid (by rw [HMG.out]; simpa using ho9)
                                              have HFB := Lib.hid (hbw7.trans hb9)
                                              clear ho9 hb9
                                              go_wp2
                                              go_end0
                                              exact ⟨rfl, HF.out, HFB.out⟩)
                · have HF : Hid (Owned strikeE 2 41 w7 base A n c (P ++ (List.merge LA LB leT ++ Q))) := Lib.hid (by
                    have e3 := mg_eq (A := A2) (B := B2) (by
                      have := HLE.out
                      by_cases hq : mid < en
                      · exact .inr (List.eq_nil_of_length_eq_zero (by omega))
                      · exact .inl (List.eq_nil_of_length_eq_zero (by omega)))
                    rw [HMG.out, e3]; have := HO8.out; simpa using this)
                  by_cases hc4 : mid < en
                  · have i1 : (mid : Int) < (en : Int) := by omega
                    have i2 : ¬ (en : Int) < (b : Int) := by omega
                    first | (exfalso; omega) | (go_wp2; go_end0; exact ⟨rfl, HF.out, hbw7⟩)
                  · have i1 : ¬ (mid : Int) < (en : Int) := by omega
                    first | (exfalso; omega) | (go_wp2; go_end0; exact ⟨rfl, HF.out, hbw7⟩)
              · skip
                by_cases hc3 : mid < en ∧ en < b
                · have i1 : (mid : Int) < (en : Int) := by omega
                  have i2 : (en : Int) < (b : Int) := by omega
                  first | (exfalso; omega) | (go_wp2_with fail
                                              refine (IH.out A n c base mid en b (P ++ List.merge A1 B1 leT) A2 B2 Q w7 HO8.out hz (by have := HLE.out; rw [List.length_append, mgT_len]; omega) (by have := HLE.out; omega) (by have := HLE.out; omega) (by have := HLE.out; omega) (by have := HLE.out; omega) hsw7 HTT.out.2.1 HTT.out.2.2.2 HSS.out.2.1 HSS.out.2.2.2 (by have := HLE.out; omega)).mono ?_; rintro e w9 ⟨rfl, ho9, hb9⟩
                                              have HF : Hid (Owned strikeE 2 41 w9 base A n c (P ++ (List.merge LA LB leT ++ Q))) := Lib.hid (by rw [HMG.out]; simpa using ho9)
                                              have HFB := Lib.hid (hbw7.trans hb9)
                                              clear ho9 hb9
                                              go_wp2
                                              go_end0
                                              exact ⟨rfl, HF.out, HFB.out⟩)
                · have HF : Hid (Owned strikeE 2 41 w7 base A n c (P ++ (List.merge LA LB leT ++ Q))) := Lib.hid (by
                    have e3 := mg_eq (A := A2) (B := B2) (by
                      have := HLE.out
                      by_cases hq : mid < en
                      · exact .inr (List.eq_nil_of_length_eq_zero (by omega))
                      · exact .inl (List.eq_nil_of_length_eq_zero (by omega)))
                    rw [HMG.out, e3]; have := HO8.out; simpa using this)
                  by_cases hc4 : mid < en
                  · have i1 : (mid : Int) < (en : Int) := by omega
                    have i2 : ¬ (en : Int) < (b : Int) := by omega
                    first | (exfalso; omega) | (go_wp2; go_end0; exact ⟨rfl, HF.out, hbw7⟩)
                  · have i1 : ¬ (mid : Int) < (en : Int) := by omega
                    first | (exfalso; omega) | (go_wp2; go_end0; exact ⟨rfl, HF.out, hbw7⟩)
          · have HO7 : Hid (Owned strikeE 2 41 wr base A n c (P ++ (A1 ++ (B1 ++ (A2 ++ (B2 ++ Q)))))) := Lib.hid (by
              have e3 : A2 ++ (B1 ++ (B2 ++ Q)) = B1 ++ (A2 ++ (B2 ++ Q)) := by
                have := HLE.out
                by_cases hq : s < m
                · rw [List.eq_nil_of_length_eq_zero (show B1.length = 0 by omega), List.nil_append, List.nil_append]
                · rw [List.eq_nil_of_length_eq_zero (show A2.length = 0 by omega), List.nil_append, List.nil_append]
              have := HO1.out
              rw [e3] at this; simpa using this)
            have hj : ¬ (s : Int) < (m : Int) ∨ ((s : Int) < (m : Int) ∧ ¬ (m : Int) < (en : Int)) := by omega
            rcases hj with k1 | ⟨k1, k2⟩
            · skip
              by_cases hc2 : a < s ∧ s < mid
              · have j1 : (a : Int) < (s : Int) := by omega
                have j2 : (s : Int) < (mid : Int) := by omega
                go_wp2_with fail
                refine (IH.out A n c base a s mid P A1 B1 (A2 ++ (B2 ++ Q)) wr HO7.out hz (by have := HLE.out; omega) (by have := HLE.out; omega) (by have := HLE.out; omega) (by have := HLE.out; omega) (by have := HLE.out; omega) hsw HTT.out.1 HTT.out.2.2.1 HSS.out.1 HSS.out.2.2.1 (by have := HLE.out; omega)).mono ?_; rintro e w8 ⟨rfl, ho8, hb8⟩
                have HO8 : Hid (Owned strikeE 2 41 w8 base A n c ((P ++ List.merge A1 B1 leT) ++ (A2 ++ (B2 ++ Q)))) := Lib.hid (by simpa using ho8)
                have hbw8 : Below base w w8 := hbw.trans hb8
                have hsw8 : base ≤ w8.heap.size := Nat.le_trans hsw hb8.size
                clear ho8 hb8
                by_cases hc3 : mid < en ∧ en < b
                · have i1 : (mid : Int) < (en : Int) := by omega
                  have i2 : (en : Int) < (b : Int) := by omega
                  first | (exfalso; omega) | (go_wp2_with fail
                                              refine (IH.out A n c base mid en b (P ++ List.merge A1 B1 leT) A2 B2 Q w8 HO8.out hz (by have := HLE.out; rw [List.length_append, mgT_len]; omega) (by have := HLE.out; omega) (by have := HLE.out; omega) (by have := HLE.out; omega) (by have := HLE.out; omega) hsw8 HTT.out.2.1 HTT.out.2.2.2 HSS.out.2.1 HSS.out.2.2.2 (by have := HLE.out; omega)).mono ?_; rintro e w9 ⟨rfl, ho9, hb9⟩
                                              have HF : Hid (Owned strikeE 2 41 w9 base A n c (P ++ (List.merge LA LB leT ++ Q))) := Lib.hid (by rw [HMG.out]; simpa using ho9)
                                              have HFB := Lib.hid (hbw8.trans hb9)
                                              clear ho9 hb9
                                              go_wp2
                                              go_end0
                                              exact ⟨rfl, HF.out, HFB.out⟩)
                · have HF : Hid (Owned strikeE 2 41 w8 base A n c (P ++ (List.merge LA LB leT ++ Q))) := Lib.hid (by
                    have e3 := mg_eq (A := A2) (B := B2) (by
                      have := HLE.out
                      by_cases hq : mid < en
                      · exact .inr (List.eq_nil_of_length_eq_zero (by omega))
                      · exact .inl (List.eq_nil_of_length_eq_zero (by omega)))
                    rw [HMG.out, e3]; have := HO8.out; simpa using this)
                  by_cases hc4 : mid < en
                  · have i1 : (mid : Int) < (en : Int) := by omega
                    have i2 : ¬ (en : Int) < (b : Int) := by omega
                    first | (exfalso; omega) | (go_wp2; go_end0; exact ⟨rfl, HF.out, hbw8⟩)
                  · have i1 : ¬ (mid : Int) < (en : Int) := by omega
                    first | (exfalso; omega) | (go_wp2; go_end0; exact ⟨rfl, HF.out, hbw8⟩)
              · have HO8 : Hid (Owned strikeE 2 41 wr base A n c ((P ++ List.merge A1 B1 leT) ++ (A2 ++ (B2 ++ Q)))) := Lib.hid (by
                  have e3 := mg_eq (A := A1) (B := B1) (by
                    have := HLE.out
                    by_cases hq : a < s
                    · exact .inr (List.eq_nil_of_length_eq_zero (by omega))
                    · exact .inl (List.eq_nil_of_length_eq_zero (by omega)))
                  rw [e3]; have := HO7.out; simpa using this)
                have hj : ¬ (a : Int) < (s : Int) ∨ ((a : Int) < (s : Int) ∧ ¬ (s : Int) < (mid : Int)) := by omega
                rcases hj with j1 | ⟨j1, j2⟩
                · skip
                  by_cases hc3 : mid < en ∧ en < b
                  · have i1 : (mid : Int) < (en : Int) := by omega
                    have i2 : (en : Int) < (b : Int) := by omega
                    first | (exfalso; omega) | (go_wp2_with fail
                                                refine (IH.out A n c base mid en b (P ++ List.merge A1 B1 leT) A2 B2 Q wr HO8.out hz (by have := HLE.out; rw [List.length_append, mgT_len]; omega) (by have := HLE.out; omega) (by have := HLE.out; omega) (by have := HLE.out; omega) (by have := HLE.out; omega) hsw HTT.out.2.1 HTT.out.2.2.2 HSS.out.2.1 HSS.out.2.2.2 (by have := HLE.out; omega)).mono ?_; rintro e w9 ⟨rfl, ho9, hb9⟩
                                                have HF : Hid (Owned strikeE 2 41 w9 base A n c (P ++ (List.merge LA LB leT ++ Q))) := Lib.hid (by rw [HMG.out]; simpa using ho9)
                                                have HFB := Lib.hid (hbw.trans hb9)
                                                clear ho9 hb9
                                                go_wp2
                                                go_end0
                                                exact ⟨rfl, HF.out, HFB.out⟩)
                  · have HF : Hid (Owned strikeE 2 41 wr base A n c (P ++ (List.merge LA LB leT ++ Q))) := Lib.hid (by
                      have e3 := mg_eq (A := A2) (B := B2) (by
                        have := HLE.out
                        by_cases hq : mid < en
                        · exact .inr (List.eq_nil_of_length_eq_zero (by omega))
                        · exact .inl (List.eq_nil_of_length_eq_zero (by omega)))
                      rw [HMG.out, e3]; have := HO8.out; simpa using this)
                    by_cases hc4 : mid < en
                    · have i1 : (mid : Int) < (en : Int) := by omega
                      have i2 : ¬ (en : Int) < (b : Int) := by omega
                      first | (exfalso; omega) | (go_wp2; go_end0; exact ⟨rfl, HF.out, hbw⟩)
                    · have i1 : ¬ (mid : Int) < (en : Int) := by omega
                      first | (exfalso; omega) | (go_wp2; go_end0; exact ⟨rfl, HF.out, hbw⟩)
                · skip
                  by_cases hc3 : mid < en ∧ en < b
                  · have i1 : (mid : Int) < (en : Int) := by omega
                    have i2 : (en : Int) < (b : Int) := by omega
                    first | (exfalso; omega) | (go_wp2_with fail
                                                refine (IH.out A n c base mid en b (P ++ List.merge A1 B1 leT) A2 B2 Q wr HO8.out hz (by have := HLE.out; rw [List.length_append, mgT_len]; omega) (by have := HLE.out; omega) (by have := HLE.out; omega) (by have := HLE.out; omega) (by have := HLE.out; omega) hsw HTT.out.2.1 HTT.out.2.2.2 HSS.out.2.1 HSS.out.2.2.2 (by have := HLE.out; omega)).mono ?_; rintro e w9 ⟨rfl, ho9, hb9⟩
                                                have HF : Hid (Owned strikeE 2 41 w9 base A n c (P ++ (List.merge LA LB leT ++ Q))) := Lib.hid (by rw [HMG.out]; simpa using ho9)
                                                have HFB := Lib.hid (hbw.trans hb9)
                                                clear ho9 hb9
                                                go_wp2
                                                go_end0
                                                exact ⟨rfl, HF.out, HFB.out⟩)
                  · have HF : Hid (Owned strikeE 2 41 wr base A n c (P ++ (List.merge LA LB leT ++ Q))) := Lib.hid (by
                      have e3 := mg_eq (A := A2) (B := B2) (by
                        have := HLE.out
                        by_cases hq : mid < en
                        · exact .inr (List.eq_nil_of_length_eq_zero (by omega))
                        · exact .inl (List.eq_nil_of_length_eq_zero (by omega)))
                      rw [HMG.out, e3]; have := HO8.out; simpa using this)
                    by_cases hc4 : mid < en
                    · have i1 : (mid : Int) < (en : Int) := by omega
                      have i2 : ¬ (en : Int) < (b : Int) := by omega
                      first | (exfalso; omega) | (go_wp2; go_end0; exact ⟨rfl, HF.out, hbw⟩)
                    · have i1 : ¬ (mid : Int) < (en : Int) := by omega
                      first | (exfalso; omega) | (go_wp2; go_end0; exact ⟨rfl, HF.out, hbw⟩)
            · skip
              by_cases hc2 : a < s ∧ s < mid
              · have j1 : (a : Int) < (s : Int) := by omega
                have j2 : (s : Int) < (mid : Int) := by omega
                go_wp2_with fail
                refine (IH.out A n c base a s mid P A1 B1 (A2 ++ (B2 ++ Q)) wr HO7.out hz (by have := HLE.out; omega) (by have := HLE.out; omega) (by have := HLE.out; omega) (by have := HLE.out; omega) (by have := HLE.out; omega) hsw HTT.out.1 HTT.out.2.2.1 HSS.out.1 HSS.out.2.2.1 (by have := HLE.out; omega)).mono ?_; rintro e w8 ⟨rfl, ho8, hb8⟩
                have HO8 : Hid (Owned strikeE 2 41 w8 base A n c ((P ++ List.merge A1 B1 leT) ++ (A2 ++ (B2 ++ Q)))) := Lib.hid (by simpa using ho8)
                have hbw8 : Below base w w8 := hbw.trans hb8
                have hsw8 : base ≤ w8.heap.size := Nat.le_trans hsw hb8.size
                clear ho8 hb8
                by_cases hc3 : mid < en ∧ en < b
                · have i1 : (mid : Int) < (en : Int) := by omega
                  have i2 : (en : Int) < (b : Int) := by omega
                  first | (exfalso; omega) | (go_wp2_with fail
                                              refine (IH.out A n c base mid en b (P ++ List.merge A1 B1 leT) A2 B2 Q w8 HO8.out hz (by have := HLE.out; rw [List.length_append, mgT_len]; omega) (by have := HLE.out; omega) (by have := HLE.out; omega) (by have := HLE.out; omega) (by have := HLE.out; omega) hsw8 HTT.out.2.1 HTT.out.2.2.2 HSS.out.2.1 HSS.out.2.2.2 (by have := HLE.out; omega)).mono ?_; rintro e w9 ⟨rfl, ho9, hb9⟩
                                              have HF : Hid (Owned strikeE 2 41 w9 base A n c (P ++ (List.merge LA LB leT ++ Q))) := Lib.hid (by rw [HMG.out]; simpa using ho9)
                                              have HFB := Lib.hid (hbw8.trans hb9)
                                              clear ho9 hb9
                                              go_wp2
                                              go_end0
                                              exact ⟨rfl, HF.out, HFB.out⟩)
                · have HF : Hid (Owned strikeE 2 41 w8 base A n c (P ++ (List.merge LA LB leT ++ Q))) := Lib.hid (by
                    have e3 := mg_eq (A := A2) (B := B2) (by
                      have := HLE.out
                      by_cases hq : mid < en
                      · exact .inr (List.eq_nil_of_length_eq_zero (by omega))
                      · exact .inl (List.eq_nil_of_length_eq_zero (by omega)))
                    rw [HMG.out, e3]; have := HO8.out; simpa using this)
                  by_cases hc4 : mid < en
                  · have i1 : (mid : Int) < (en : Int) := by omega
                    have i2 : ¬ (en : Int) < (b : Int) := by omega
                    first | (exfalso; omega) | (go_wp2; go_end0; exact ⟨rfl, HF.out, hbw8⟩)
                  · have i1 : ¬ (mid : Int) < (en : Int) := by omega
                    first | (exfalso; omega) | (go_wp2; go_end0; exact ⟨rfl, HF.out, hbw8⟩)
              · have HO8 : Hid (Owned strikeE 2 41 wr base A n c ((P ++ List.merge A1 B1 leT) ++ (A2 ++ (B2 ++ Q)))) := Lib.hid (by
                  have e3 := mg_eq (A := A1) (B := B1) (by
                    have := HLE.out
                    by_cases hq : a < s
                    · exact .inr (List.eq_nil_of_length_eq_zero (by omega))
                    · exact .inl (List.eq_nil_of_length_eq_zero (by omega)))
                  rw [e3]; have := HO7.out; simpa using this)
                have hj : ¬ (a : Int) < (s : Int) ∨ ((a : Int) < (s : Int) ∧ ¬ (s : Int) < (mid : Int)) := by omega
                rcases hj with j1 | ⟨j1, j2⟩
                · skip
                  by_cases hc3 : mid < en ∧ en < b
                  · have i1 : (mid : Int) < (en : Int) := by omega
                    have i2 : (en : Int) < (b : Int) := by omega
                    first | (exfalso; omega) | (go_wp2_with fail
                                                refine (IH.out A n c base mid en b (P ++ List.merge A1 B1 leT) A2 B2 Q wr HO8.out hz (by have := HLE.out; rw [List.length_append, mgT_len]; omega) (by have := HLE.out; omega) (by have := HLE.out; omega) (by have := HLE.out; omega) (by have := HLE.out; omega) hsw HTT.out.2.1 HTT.out.2.2.2 HSS.out.2.1 HSS.out.2.2.2 (by have := HLE.out; omega)).mono ?_; rintro e w9 ⟨rfl, ho9, hb9⟩
                                                have HF : Hid (Owned strikeE 2 41 w9 base A n c (P ++ (List.merge LA LB leT ++ Q))) := Lib.hid (by rw [HMG.out]; simpa using ho9)
                                                have HFB := Lib.hid (hbw.trans hb9)
                                                clear ho9 hb9
                                                go_wp2
                                                go_end0
                                                exact ⟨rfl, HF.out, HFB.out⟩)
                  · have HF : Hid (Owned strikeE 2 41 wr base A n c (P ++ (List.merge LA LB leT ++ Q))) := Lib.hid (by
                      have e3 := mg_eq (A := A2) (B := B2) (by
                        have := HLE.out
                        by_cases hq : mid < en
                        · exact .inr (List.eq_nil_of_length_eq_zero (by omega))
                        · exact .inl (List.eq_nil_of_length_eq_zero (by omega)))
                      rw [HMG.out, e3]; have := HO8.out; simpa using this)
                    by_cases hc4 : mid < en
                    · have i1 : (mid : Int) < (en : Int) := by omega
                      have i2 : ¬ (en : Int) < (b : Int) := by omega
                      first | (exfalso; omega) | (go_wp2; go_end0; exact ⟨rfl, HF.out, hbw⟩)
                    · have i1 : ¬ (mid : Int) < (en : Int) := by omega
                      first | (exfalso; omega) | (go_wp2; go_end0; exact ⟨rfl, HF.out, hbw⟩)
                · skip
                  by_cases hc3 : mid < en ∧ en < b
                  · have i1 : (mid : Int) < (en : Int) := by omega
                    have i2 : (en : Int) < (b : Int) := by omega
                    first | (exfalso; omega) | (go_wp2_with fail
                                                refine (IH.out A n c base mid en b (P ++ List.merge A1 B1 leT) A2 B2 Q wr HO8.out hz (by have := HLE.out; rw [List.length_append, mgT_len]; omega) (by have := HLE.out; omega) (by have := HLE.out; omega) (by have := HLE.out; omega) (by have := HLE.out; omega) hsw HTT.out.2.1 HTT.out.2.2.2 HSS.out.2.1 HSS.out.2.2.2 (by have := HLE.out; omega)).mono ?_; rintro e w9 ⟨rfl, ho9, hb9⟩
                                                have HF : Hid (Owned strikeE 2 41 w9 base A n c (P ++ (List.merge LA LB leT ++ Q))) := Lib.hid (by rw [HMG.out]; simpa using ho9)
                                                have HFB := Lib.hid (hbw.trans hb9)
                                                clear ho9 hb9
                                                go_wp2
                                                go_end0
                                                exact ⟨rfl, HF.out, HFB.out⟩)
                  · have HF : Hid (Owned strikeE 2 41 wr base A n c (P ++ (List.merge LA LB leT ++ Q))) := Lib.hid (by
                      have e3 := mg_eq (A := A2) (B := B2) (by
                        have := HLE.out
                        by_cases hq : mid < en
                        · exact .inr (List.eq_nil_of_length_eq_zero (by omega))
                        · exact .inl (List.eq_nil_of_length_eq_zero (by omega)))
                      rw [HMG.out, e3]; have := HO8.out; simpa using this)
                    by_cases hc4 : mid < en
                    · have i1 : (mid : Int) < (en : Int) := by omega
                      have i2 : ¬ (en : Int) < (b : Int) := by omega
                      first | (exfalso; omega) | (go_wp2; go_end0; exact ⟨rfl, HF.out, hbw⟩)
                    · have i1 : ¬ (mid : Int) < (en : Int) := by omega
                      first | (exfalso; omega) | (go_wp2; go_end0; exact ⟨rfl, HF.out, hbw⟩)
end Go.Proofs.YthffeljicohpdaaGreatDoor
/- Blocks put in order one by one, in plain Lean. -/
namespace Go.Proofs.YthffeljicohpdaaGreatDoor
set_option linter.unusedVariables false
set_option linter.unusedSimpArgs false
open Go.ChangeShapes Go.WideShapes Go.ChangeAt Go.RowKit Go.Deep
/-- A list whose blocks of s elements each are put in order (the last block may be shorter). -/
inductive BlkT (s : Nat) : List (Int × Int) → List (Int × Int) → Prop
  | last {l : List (Int × Int)} (h : l.length ≤ s) : BlkT s l (stT l)
  | cons {X l d : List (Int × Int)} (hX : X.length = s) (h : BlkT s l d) : BlkT s (X ++ l) (stT X ++ d)
/-- The same of whole blocks alone. -/
inductive FullT (s : Nat) : List (Int × Int) → List (Int × Int) → Prop
  | nil : FullT s [] []
  | snoc {X l d : List (Int × Int)} (h : FullT s l d) (hX : X.length = s) : FullT s (l ++ X) (d ++ stT X)
theorem FullT.len {s : Nat} {l d : List (Int × Int)} (h : FullT s l d) : d.length = l.length := by
  induction h with
  | nil => rfl
  | snoc _ _ ih => rw [List.length_append, List.length_append, ih, stT_len]
theorem BlkT.len {s : Nat} {l d : List (Int × Int)} (h : BlkT s l d) : d.length = l.length := by
  induction h with
  | last _ => exact stT_len _
  | cons _ _ ih => rw [List.length_append, List.length_append, ih, stT_len]
theorem FullT.join {s : Nat} {l d : List (Int × Int)} (h : FullT s l d) : ∀ {l' d' : List (Int × Int)}, BlkT s l' d' → BlkT s (l ++ l') (d ++ d') := by
  induction h with
  | nil => intro l' d' h'; exact h'
  | snoc _ hX ih => intro l' d' h'; rw [List.append_assoc, List.append_assoc]; exact ih (.cons hX h')
theorem BlkT.nil {s : Nat} : BlkT s [] [] := .last (Nat.zero_le _)
theorem BlkT.uncons {s : Nat} {L D : List (Int × Int)} (h : BlkT s L D) (hL : s ≤ L.length) : ∃ X l d, X.length = s ∧ L = X ++ l ∧ D = stT X ++ d ∧ BlkT s l d := by
  cases h with
  | last h1 => exact ⟨L, [], [], by omega, by simp, by simp, .nil⟩
  | cons hX h' => exact ⟨_, _, _, hX, rfl, rfl, h'⟩
theorem BlkT.small {s : Nat} {L D : List (Int × Int)} (h : BlkT s L D) (h0 : 0 < s) (hL : L.length ≤ s) : D = stT L := by
  cases h with
  | last h1 => rfl
  | @cons X l d hX h' =>
    have hl : l = [] := List.eq_nil_of_length_eq_zero (by rw [List.length_append] at hL; omega)
    subst hl
    have hd : d = [] := List.eq_nil_of_length_eq_zero h'.len
    rw [hd, List.append_nil, List.append_nil]
theorem midT_app {a b : List (Int × Int)} (h : midT (a ++ b)) : midT a ∧ midT b := ⟨fun s hs => h s (List.mem_append_left _ hs), fun s hs => h s (List.mem_append_right _ hs)⟩
end Go.Proofs.YthffeljicohpdaaGreatDoor
/- The walk through the library's stable sort, at strikes. -/
namespace Go.Proofs.YthffeljicohpdaaGreatDoor
set_option linter.unusedVariables false
set_option linter.unusedSimpArgs false
open Go.ChangeShapes Go.WideShapes Go.ChangeAt Go.RowKit Go.Deep
set_option maxHeartbeats 4000000 in
set_option maxRecDepth 100000 in
theorem sl_stable {A : Option Addr} {n c base : Nat} {L : List (Int × Int)} {w : World} (hO : Owned strikeE 2 41 w base A n c L) (hz : n ≤ 16777216) (hbase : base ≤ w.heap.size) (hT : midT L) :
    Calls Tryz.prog 50 #[.slice A n c, .int .i64 n, .func (.func 36) #[] #[]] w fun e w' => e = .returned (.tuple #[]) ∧ Owned strikeE 2 41 w' base A n c (stT L) ∧ Below base w w' := by
  have hL := hO.len
  have HL := Lib.hid hL
  have HT := Lib.hid hT
  clear hL hT
  go_in
  go_wp2
  go_loopw [7, 8] (fun v u wr => ∃ (a : Nat) (L1 L2 D1 : List (Int × Int)), v = .int .i64 a ∧ u = .int .i64 (a + 20 : Nat) ∧ a ≤ n ∧ Hid (L = L1 ++ L2 ∧ L1.length = a ∧ FullT 20 L1 D1) ∧ Hid (Owned strikeE 2 41 wr base A n c (D1 ++ L2)) ∧ Below base w wr) (fun v _ _ => n + 1 - (intOf v).toNat)
  case atStart => exact ⟨0, [], L, [], by go_num, by go_num, Nat.zero_le _, Lib.hid ⟨rfl, rfl, .nil⟩, Lib.hid hO, Below.refl _ _⟩
  case round =>
    obtain ⟨a, L1, L2, D1, rfl, rfl, han, HR, HO, hbw⟩ := hrel
    rename World => wr
    have hsw : base ≤ wr.heap.size := Nat.le_trans hbase hbw.size
    by_cases hlt : a + 20 ≤ n
    · have hI : ((a + 20 : Nat) : Int) ≤ (n : Int) := by omega
      obtain ⟨X, L3, hX, hX1, _⟩ := cut_at (l := L2) (k := 20) (by have := HL.out; rw [HR.out.1, List.length_append] at this; have := HR.out.2.1; omega)
      have HX := Lib.hid hX
      have HX1 := Lib.hid hX1
      have HO1 : Hid (Owned strikeE 2 41 wr base A n c (D1 ++ (X ++ L3))) := Lib.hid (by rw [← HX.out]; exact HO.out)
      have HD : Hid (D1.length = a) := Lib.hid (by rw [HR.out.2.2.len]; exact HR.out.2.1)
      have HTX : Hid (midT X) := Lib.hid (by have := HT.out; rw [HR.out.1, HX.out] at this; exact (midT_app (midT_app this).2).1)
      clear hX hX1
      go_wp2_with fail
      refine (sl_insertion HO1.out hz HD.out (by rw [HX1.out]) hsw HTX.out).mono ?_; rintro e w2 ⟨rfl, ho2, hb2⟩
      have HO2 : Hid (Owned strikeE 2 41 w2 base A n c ((D1 ++ stT X) ++ L3)) := Lib.hid (by rw [List.append_assoc]; exact ho2)
      have HR2 : Hid (L = (L1 ++ X) ++ L3 ∧ (L1 ++ X).length = a + 20 ∧ FullT 20 (L1 ++ X) (D1 ++ stT X)) := Lib.hid ⟨by rw [HR.out.1, HX.out, List.append_assoc], by rw [List.length_append, HR.out.2.1, HX1.out], .snoc HR.out.2.2 HX1.out⟩
      have HB2 := Lib.hid (hbw.trans hb2)
      clear ho2 hb2
      go_wp2
      go_roundw
      case rel => exact ⟨a + 20, L1 ++ X, L3, D1 ++ stT X, by go_num, by go_num, hlt, HR2, HO2, HB2.out⟩
      case measure => simp [intOf]; omega
    · have hI : ¬ ((a + 20 : Nat) : Int) ≤ (n : Int) := by omega
      have HD : Hid (D1.length = a) := Lib.hid (by rw [HR.out.2.2.len]; exact HR.out.2.1)
      have HN : Hid (a + L2.length = n) := Lib.hid (by have := HL.out; rw [HR.out.1, List.length_append, HR.out.2.1] at this; exact this)
      have HTX : Hid (midT L2) := Lib.hid (by have := HT.out; rw [HR.out.1] at this; exact (midT_app this).2)
      have HO1 : Hid (Owned strikeE 2 41 wr base A n c (D1 ++ (L2 ++ []))) := Lib.hid (by rw [List.append_nil]; exact HO.out)
      have HBK : Hid (BlkT 20 L (D1 ++ stT L2)) := Lib.hid (by rw [HR.out.1]; exact HR.out.2.2.join (.last (by have := HN.out; omega)))
      go_wp2_with fail
      refine (sl_insertion HO1.out hz HD.out HN.out hsw HTX.out).mono ?_; rintro e w2 ⟨rfl, ho2, hb2⟩
      have HO2 : Hid (Owned strikeE 2 41 w2 base A n c (D1 ++ stT L2)) := Lib.hid (by rw [List.append_nil] at ho2; exact ho2)
      have hbw2 := hbw.trans hb2
      clear ho2 hb2 HO HO1 hbw HD HTX hI hlt
      go_wp2
      go_loopw [6, 7, 8, 9] (fun v _ _ _ wr => ∃ (s : Nat) (D : List (Int × Int)), v = .int .i64 s ∧ 0 < s ∧ s ≤ 33554432 ∧ Hid (BlkT s L D) ∧ Hid (Owned strikeE 2 41 wr base A n c D) ∧ Below base w wr) (fun v _ _ _ _ => n - (intOf v).toNat)
      case atStart => exact ⟨20, _, by go_num, by omega, by omega, HBK, HO2, hbw2⟩
      case round =>
        clear HO2 hbw2 HBK
        obtain ⟨s, D, rfl, hs0, hs1, HBK, HO, hbw⟩ := hrel
        rename World => wo
        by_cases hsn : s < n
        · have hI : (s : Int) < (n : Int) := by omega
          have h2s : (2 : Int) * (s : Int) = ((2 * s : Nat) : Int) := by omega
          have hs2 : (s : Int) * 2 = ((2 * s : Nat) : Int) := by omega
          obtain ⟨z, hz2⟩ : ∃ z, z = 2 * s := ⟨_, rfl⟩
          rw [← hz2] at h2s hs2
          have HZ := Lib.hid hz2
          clear hz2
          go_wp2
          go_loopw [7, 8] (fun v u wr => ∃ (a b : Nat) (L1 L2 D1 D2 : List (Int × Int)), v = .int .i64 a ∧ u = .int .i64 b ∧ a + z = b ∧ a ≤ n ∧ Hid (L = L1 ++ L2 ∧ L1.length = a ∧ FullT z L1 D1 ∧ BlkT s L2 D2) ∧ Hid (Owned strikeE 2 41 wr base A n c (D1 ++ D2)) ∧ Below base w wr) (fun v _ _ => n + 1 - (intOf v).toNat)
          case atStart => exact ⟨0, z, [], L, [], D, by go_num, rfl, by omega, Nat.zero_le _, Lib.hid ⟨rfl, rfl, .nil, HBK.out⟩, HO, hbw⟩
          case round =>
            clear HO hbw HBK
            obtain ⟨a, b, L1, L2, D1, D2, rfl, rfl, hab, han2, HR2, HO, hbw⟩ := hrel
            rename World => wr
            have hsw : base ≤ wr.heap.size := Nat.le_trans hbase hbw.size
            have HAB := Lib.hid hab
            have hzs : z = 2 * s := HZ.out
            have HD : Hid (D1.length = a) := Lib.hid (by rw [HR2.out.2.2.1.len]; exact HR2.out.2.1)
            have HN2 : Hid (a + L2.length = n) := Lib.hid (by have := HL.out; rw [HR2.out.1, List.length_append, HR2.out.2.1] at this; exact this)
            by_cases hbn : b ≤ n
            · have hI : (b : Int) ≤ (n : Int) := by omega
              obtain ⟨X, l1, d1, hX, hl1, hd1, hB1⟩ := HR2.out.2.2.2.uncons (by have := HN2.out; omega)
              obtain ⟨Y, l2, d2, hY, hl2, hd2, hB2⟩ := hB1.uncons (by have := HN2.out; rw [hl1, List.length_append] at this; omega)
              have HX := Lib.hid hX
              have HY := Lib.hid hY
              have HLL : Hid (L2 = X ++ (Y ++ l2)) := Lib.hid (by rw [hl1, hl2])
              have HBB := Lib.hid hB2
              have HO1 : Hid (Owned strikeE 2 41 wr base A n c (D1 ++ (stT X ++ (stT Y ++ d2)))) := Lib.hid (by rw [← hd2, ← hd1]; exact HO.out)
              have HTX : Hid (midT X ∧ midT Y) := Lib.hid (by
                have := HT.out
                rw [HR2.out.1, HLL.out] at this
                have := (midT_app this).2
                exact ⟨(midT_app this).1, (midT_app (midT_app this).2).1⟩)
              obtain ⟨m, hm⟩ : ∃ m, a + s = m := ⟨_, rfl⟩
              have hmI : (a : Int) + (s : Int) = (m : Int) := by omega
              have HM := Lib.hid hm
              clear hX hY hl1 hl2 hd1 hd2 hB1 hB2 HO hm hab hzs
              go_wp2_with fail
              refine (sl_symMerge (s + s) A n c base a m b D1 (stT X) (stT Y) d2 wr HO1.out hz HD.out (by rw [stT_len, HX.out]; exact HM.out) (by have := HAB.out; have := HZ.out; have := HM.out; rw [stT_len, HY.out]; omega) (by rw [stT_len, HX.out]; exact hs0) (by rw [stT_len, HY.out]; exact hs0) hsw (midT_stT HTX.out.1) (midT_stT HTX.out.2) (stT_srt _) (stT_srt _) (by rw [stT_len, stT_len, HX.out, HY.out]; exact Nat.le_refl _)).mono ?_; rintro e w3 ⟨rfl, ho3, hb3⟩
              have HO3 : Hid (Owned strikeE 2 41 w3 base A n c ((D1 ++ stT (X ++ Y)) ++ d2)) := Lib.hid (by rw [stT_app, List.append_assoc]; exact ho3)
              have HR3 : Hid (L = (L1 ++ (X ++ Y)) ++ l2 ∧ (L1 ++ (X ++ Y)).length = b ∧ FullT z (L1 ++ (X ++ Y)) (D1 ++ stT (X ++ Y)) ∧ BlkT s l2 d2) := Lib.hid ⟨by rw [HR2.out.1, HLL.out]; simp, by rw [List.length_append, List.length_append, HR2.out.2.1, HX.out, HY.out]; have := HAB.out; have := HZ.out; omega, .snoc HR2.out.2.2.1 (by rw [List.length_append, HX.out, HY.out]; have := HZ.out; omega), HBB.out⟩
              have HB3 := Lib.hid (hbw.trans hb3)
              have hz0 : 0 < z := by have := HZ.out; omega
              have hab' : a < b := by have := HAB.out; omega
              clear ho3 hb3
              go_wp2
              go_roundw
              case rel => exact ⟨b, b + z, L1 ++ (X ++ Y), l2, D1 ++ stT (X ++ Y), d2, rfl, by go_num, rfl, hbn, HR3, HO3, HB3.out⟩
              case measure => simp [intOf]; omega
            · have hI : ¬ (b : Int) ≤ (n : Int) := by omega
              obtain ⟨m, hm⟩ : ∃ m, a + s = m := ⟨_, rfl⟩
              have hmI : (a : Int) + (s : Int) = (m : Int) := by omega
              have HM := Lib.hid hm
              by_cases hmn : m < n
              · have hJ : (m : Int) < (n : Int) := by omega
                obtain ⟨X, l1, d1, hX, hl1, hd1, hB1⟩ := HR2.out.2.2.2.uncons (by have := HN2.out; omega)
                have hll : X.length + l1.length = L2.length := by rw [hl1, List.length_append]
                have hd2 := hB1.small hs0 (by have := HN2.out; omega)
                have HX := Lib.hid hX
                have HLN : Hid (s + l1.length = L2.length) := Lib.hid (by rw [← hX]; exact hll)
                have HLL : Hid (L2 = X ++ l1) := Lib.hid hl1
                have HO1 : Hid (Owned strikeE 2 41 wr base A n c (D1 ++ (stT X ++ (stT l1 ++ [])))) := Lib.hid (by rw [← hd2, List.append_nil, ← hd1]; exact HO.out)
                have HTX : Hid (midT X ∧ midT l1) := Lib.hid (by
                  have := HT.out
                  rw [HR2.out.1, hl1] at this
                  exact midT_app (midT_app this).2)
                clear hX hl1 hd1 hd2 hB1 HO hm hab hzs hll
                go_wp2_with fail
                refine (sl_symMerge L2.length A n c base a m n D1 (stT X) (stT l1) [] wr HO1.out hz HD.out (by rw [stT_len, HX.out]; exact HM.out) (by have := HN2.out; have := HLN.out; have := HM.out; rw [stT_len]; omega) (by rw [stT_len, HX.out]; exact hs0) (by have := HN2.out; have := HLN.out; have := HM.out; rw [stT_len]; omega) hsw (midT_stT HTX.out.1) (midT_stT HTX.out.2) (stT_srt _) (stT_srt _) (by rw [stT_len, stT_len, HX.out, HLN.out]; exact Nat.le_refl _)).mono ?_; rintro e w3 ⟨rfl, ho3, hb3⟩
                have HO3 : Hid (Owned strikeE 2 41 w3 base A n c (D1 ++ stT L2)) := Lib.hid (by rw [HLL.out, stT_app]; rw [List.append_nil] at ho3; exact ho3)
                have HR3 : Hid (BlkT z L (D1 ++ stT L2)) := Lib.hid (by rw [HR2.out.1]; exact HR2.out.2.2.1.join (.last (by have := HN2.out; have := HAB.out; omega)))
                have HB3 := Lib.hid (hbw.trans hb3)
                have hz1 : s < z ∧ z ≤ 33554432 := by have := HZ.out; omega
                clear ho3 hb3
                go_wp2
                go_roundw
                case rel => exact ⟨z, _, rfl, by omega, by omega, HR3, HO3, HB3.out⟩
                case measure => simp [intOf]; omega
              · have hJ : ¬ (m : Int) < (n : Int) := by omega
                have hd2 := HR2.out.2.2.2.small hs0 (by have := HN2.out; omega)
                have HO3 : Hid (Owned strikeE 2 41 wr base A n c (D1 ++ stT L2)) := Lib.hid (by rw [← hd2]; exact HO.out)
                have HR3 : Hid (BlkT z L (D1 ++ stT L2)) := Lib.hid (by rw [HR2.out.1]; exact HR2.out.2.2.1.join (.last (by have := HN2.out; omega)))
                have hz1 : s < z ∧ z ≤ 33554432 := by have := HZ.out; omega
                clear hd2 hm hab hzs HO
                go_wp2
                go_roundw
                case rel => exact ⟨z, _, rfl, by omega, by omega, HR3, HO3, hbw⟩
                case measure => simp [intOf]; omega
        · have hI : ¬ (s : Int) < (n : Int) := by omega
          have HF : Hid (Owned strikeE 2 41 wo base A n c (stT L)) := Lib.hid (by
            have := HBK.out.small hs0 (by rw [HL.out]; omega)
            rw [← this]; exact HO.out)
          go_wp2
          go_end0
          exact ⟨rfl, HF.out, hbw⟩
end Go.Proofs.YthffeljicohpdaaGreatDoor
/- The walks through the library's growth, concatenation and stable sort, and both sides' merging of strikes. -/
namespace Go.Proofs.YthffeljicohpdaaGreatDoor
set_option linter.unusedVariables false
set_option linter.unusedSimpArgs false
open Go.ChangeShapes Go.WideShapes Go.ChangeAt Go.RowKit Go.Deep
def mrgOk (a b : List (Int × Int)) : Bool := goodStrikes a && goodStrikes b && decide (a.length + b.length ≤ 2000)
def mrgR (a b : List (Int × Int)) : List (Int × Int) := if mrgOk a b = true then List.merge a b leT else []
theorem mrgR_t {a b : List (Int × Int)} (h : mrgOk a b = true) : mrgR a b = List.merge a b leT := by rw [mrgR, if_pos h]
theorem mrgR_f {a b : List (Int × Int)} (h : mrgOk a b = false) : mrgR a b = [] := by rw [mrgR, if_neg (by rw [h]; simp)]
theorem mrgOk_t {a b : List (Int × Int)} (h : mrgOk a b = true) : goodStrikes a = true ∧ goodStrikes b = true ∧ a.length + b.length ≤ 2000 := by
  simp only [mrgOk, Bool.and_eq_true, decide_eq_true_eq] at h
  exact ⟨h.1.1, h.1.2, h.2⟩
theorem mrgR_len {a b : List (Int × Int)} : (mrgR a b).length ≤ 16777216 := by
  rcases h : mrgOk a b
  · rw [mrgR_f h]; exact Nat.zero_le _
  · rw [mrgR_t h, mgT_len]; have := (mrgOk_t h).2.2; omega
/-- Good strikes lie in order of time, and their times are small. -/
theorem good_srtT {l : List (Int × Int)} (h : goodStrikes l = true) : srtT l ∧ midT l := by
  simp only [goodStrikes, Bool.and_eq_true, decide_eq_true_eq, List.all_eq_true, List.mem_range] at h
  have hk : ∀ i, i < l.length → okStrike l i = true := fun i hi => h.1 i hi
  have hm : midT l := fun s hs => by
    obtain ⟨i, hi⟩ := List.mem_iff_getElem?.1 hs
    have hil := (List.getElem?_eq_some_iff.1 hi).1
    have := hk i hil
    simp only [okStrike, Bool.and_eq_true, List.getD, hi, Option.getD_some, inB, decide_eq_true_eq] at this
    omega
  refine ⟨?_, hm⟩
  have step : ∀ (i : Nat) (x y : Int × Int), l[i]? = some x → l[i + 1]? = some y → x.2 ≤ y.2 := fun i x y hx hy => by
    have := hk (i + 1) (List.getElem?_eq_some_iff.1 hy).1
    simp only [okStrike, Bool.and_eq_true, List.getD, hx, hy, Option.getD_some, inB, decide_eq_true_eq, Nat.add_sub_cancel, Bool.not_eq_true', Bool.and_eq_false_iff, decide_eq_false_iff_not] at this
    omega
  have all : ∀ (k i : Nat) (x y : Int × Int), l[i]? = some x → l[i + k]? = some y → x.2 ≤ y.2 := by
    intro k
    induction k with
    | zero => intro i x y hx hy; rw [Nat.add_zero, hx] at hy; injection hy with hy; rw [hy]; exact Int.le_refl _
    | succ k ih =>
      intro i x y hx hy
      have hl := (List.getElem?_eq_some_iff.1 hy).1
      obtain ⟨z, hz⟩ := some_of_lt (l := l) (k := i + k) (by omega)
      exact Int.le_trans (ih i x z hx hz) (step (i + k) z y hz hy)
  rw [srtT, List.pairwise_iff_getElem]
  intro i j hi hj hij
  exact all (j - i) i _ _ (List.getElem?_eq_getElem hi) (by rw [show i + (j - i) = j by omega]; exact List.getElem?_eq_getElem hj)
set_option maxRecDepth 100000 in
theorem sl_Grow {n : Nat} {w : World} (hn : n ≤ 4000) :
    Calls Tryz.prog 49 #[.slice none 0 0, .int .i64 n] w fun e w' => ∃ A c, e = .returned (.slice A 0 c) ∧ Owned strikeE 2 41 w' w.heap.size A 0 c [] ∧ Below w.heap.size w w' := by
  have h1 : ¬ ((n : Int) < 0) := by omega
  by_cases h0 : n = 0
  · subst h0
    go_in
    go_wp2
    go_ret
    exact ⟨none, 0, rfl, Owned.nil strikeE_len _ _ _, Below.refl _ _⟩
  · have hp : (n : Int) > 0 := by omega
    obtain ⟨i0, hi, hz0, hz1, hz2⟩ := info_parts Tryz.elStrike.info
    have hold : (Builtin.firstCells i0.size 0 (.slice none 0 0)).run Tryz.prog w.drew = .ok (#[] : Array Value) w.drew := run_firstCells_none w.drew i0.size 0 0 0
    have hG : 0 + n ≤ grownCap w (0 + n) 0 41 := grownCap_ge w _ _ _
    have hG2 := grownCap_le_maxLen w (0 + n) 0 41 (by unfold maxLen; omega)
    have hr : ∀ ty, (Builtin.append_ #[24, 3] ty #[.slice none 0 0, .int .i64 (n : Int)]).run Tryz.prog w = _ := fun ty =>
      Lib.run_append_grow_zeros w 24 3 ty 41 i0 _ .i64 .i64 Tryz.elStrike.under Tryz.underlying3 hi hz0 none 0 0 [] hold n (by omega) (by rw [hz1]; decide) (by omega) (by omega) (by rw [hz2]; omega) (growslice_fits (by omega) (by rw [hz2]; omega))
    simp only [Nat.zero_add] at hr hG hG2
    obtain ⟨G, hGe⟩ : ∃ G, G = grownCap w n 0 41 := ⟨_, rfl⟩
    rw [← hGe] at hr hG hG2
    have hG63 : G ≤ 9223372036854775807 := by unfold maxLen at hG2; exact hG2
    have HG2 := Lib.hid hG2
    clear hGe hG2 hold
    go_in
    go_wp2_with (at_builtin; refine Lib.wpList_append_run _ rfl _ _ _ _ rfl _ _ rfl rfl _ _ (hr _) ?_)
    all_goals go_ret
    have hcs : (Builtin.zeroCells #[Value.int IntKind.i64 0, Value.int IntKind.i64 0] n ++ Builtin.zeroCells #[Value.int IntKind.i64 0, Value.int IntKind.i64 0] (G - n)).size = G * 2 := by
      simp only [Array.size_append, size_zeroCells, List.size_toArray, List.length_cons, List.length_nil]
      omega
    refine ⟨some ⟨w.heap.size, 0, none⟩, G, rfl, Owned.drew ⟨strikeE_len, rfl, rfl, .inr ⟨w.heap.size, G, _, rfl, Nat.le_refl _, heap_alloc_new w _, Nat.zero_le _, HG2.out, hcs, rfl⟩⟩, Below.drew (below_alloc (Below.refl _ _) _)⟩
set_option maxHeartbeats 1000000 in
set_option maxRecDepth 100000 in
theorem sl_Concat {A B : Option Addr} {n c m d g : Nat} {l1 l2 : List (Int × Int)} {w : World} (hn : l1.length = n) (h : Recs strikeE 2 w A l1) (hm : l2.length = m) (hr : Recs strikeE 2 w B l2) (hz : n + m ≤ 4000) (hg : g < w.heap.size) (c0 : w.cell? ⟨g, 0, none⟩ = some (.slice A n c)) (c1 : w.cell? ⟨g, 1, none⟩ = some (.slice B m d)) :
    Calls Tryz.prog 34 #[.slice (some ⟨g, 0, none⟩) 2 2] w fun e w' => ∃ A' c', e = .returned (.slice A' (n + m) c') ∧ Owned strikeE 2 41 w' w.heap.size A' (n + m) c' (l1 ++ l2) ∧ Below w.heap.size w w' := by
  have HN := Lib.hid hn
  have HM := Lib.hid hm
  have HX := Lib.hid h
  have HY := Lib.hid hr
  have hn4 : n ≤ 4000 := by omega
  have hm4 : m ≤ 4000 := by omega
  clear hn hm h hr
  go_in
  go_wp2
  go_loopw [3, 5, 11] (fun v _ u wr => ∃ k s : Nat, v = .int .i64 s ∧ u = .int .i64 k ∧ ((k = 0 ∧ s = 0) ∨ (k = 1 ∧ s = n) ∨ (k = 2 ∧ s = n + m)) ∧ wr = w) (fun _ _ u _ => 2 - (intOf u).toNat)
  case atStart => exact ⟨0, 0, rfl, rfl, .inl ⟨rfl, rfl⟩, rfl⟩
  case round =>
    obtain ⟨k, s, rfl, rfl, hk, hww⟩ := hrel
    rename World => wr
    have hww' := hww.symm
    clear hww
    subst hww'
    rcases hk with ⟨rfl, rfl⟩ | ⟨rfl, rfl⟩ | ⟨rfl, rfl⟩
    · go_wp2
      go_roundw
      case rel => exact ⟨1, n, by go_num, by go_num, .inr (.inl ⟨rfl, rfl⟩), trivial⟩
      case measure => simp [intOf]
    · go_wp2
      go_roundw
      case rel => exact ⟨2, s + m, by go_num, by go_num, .inr (.inr ⟨rfl, rfl⟩), trivial⟩
      case measure => simp [intOf]
    · obtain ⟨q, hq⟩ : ∃ q, q = n + m := ⟨_, rfl⟩
      rw [← hq]
      have HQ := Lib.hid hq
      have hq4 : q ≤ 4000 := by omega
      clear hq
      go_wp2_with (go_at_call 49; refine (sl_Grow (n := q) hq4).mono ?_; rintro e w2 ⟨A2, c2, rfl, ho2, hb2⟩)
      have HO2 := Lib.hid ho2
      clear ho2
      go_loopw [6, 8, 27] (fun v _ u wr => ∃ (k s : Nat) (A' : Option Addr) (c' : Nat) (l' : List (Int × Int)), v = .slice A' s c' ∧ u = .int .i64 k ∧ ((k = 0 ∧ s = 0) ∨ (k = 1 ∧ s = n) ∨ (k = 2 ∧ s = q)) ∧ Hid ((k = 0 ∧ l' = []) ∨ (k = 1 ∧ l' = l1) ∨ (k = 2 ∧ l' = l1 ++ l2)) ∧ Hid (Owned strikeE 2 41 wr w.heap.size A' s c' l') ∧ Below w.heap.size w wr) (fun _ _ u _ => 2 - (intOf u).toNat)
      case atStart => exact ⟨0, 0, A2, c2, [], rfl, rfl, .inl ⟨rfl, rfl⟩, Lib.hid (.inl ⟨rfl, rfl⟩), HO2, hb2⟩
      case round =>
        clear HO2 hb2
        obtain ⟨k, s, A', c', l', rfl, rfl, hk, HL, HO, hb⟩ := hrel
        rename World => wr
        have hsz := hb.size
        have d0 := (hb.cell (p := ⟨g, 0, none⟩) hg).trans c0
        have d1 := (hb.cell (p := ⟨g, 1, none⟩) hg).trans c1
        clear c0 c1
        rcases hk with ⟨rfl, rfl⟩ | ⟨rfl, rfl⟩ | ⟨rfl, rfl⟩
        · have hl : l' = [] := by rcases HL.out with ⟨_, h⟩ | ⟨h, _⟩ | ⟨h, _⟩ <;> first | exact h | omega
          subst hl
          go_wp2_with (at_builtin; go_must ((refine wpList_append_recs Tryz.elStrike strikeE_one rfl (.tmp 31) (.tmp 32) rfl rfl HO.out rfl (HX.out.below hb (Nat.le_refl _)) HN.out ?_ (by decide) ?_ ?_; (focus (first | omega | (simp only [World.size_alloc]; done) | (simp only [World.size_alloc]; omega) | (simp; done) | (simp; omega))); (focus (first | omega | (simp only [World.size_alloc]; done) | (simp only [World.size_alloc]; omega) | (simp; done) | (simp; omega))); intro A4 c4 w4 ho4 hg4 hl4; have hb4 := hb.trans (grown_base hg4 hsz (fun k hk => (HO.out.blk hk).1)))))
          rw [Nat.zero_add, List.nil_append] at ho4
          have HO4 := Lib.hid ho4
          clear ho4
          go_roundw
          case rel => exact ⟨1, n, A4, c4, l1, by simp, by go_num, .inr (.inl ⟨rfl, rfl⟩), Lib.hid (.inr (.inl ⟨rfl, rfl⟩)), HO4, hb4⟩
          case measure => simp [intOf]
        · have hl : l' = l1 := by rcases HL.out with ⟨h, _⟩ | ⟨_, h⟩ | ⟨h, _⟩ <;> first | exact h | omega
          subst hl
          go_wp2_with (at_builtin; go_must ((refine wpList_append_recs Tryz.elStrike strikeE_one rfl (.tmp 31) (.tmp 32) rfl rfl HO.out rfl (HY.out.below hb (Nat.le_refl _)) HM.out ?_ (by decide) ?_ ?_; (focus (first | omega | (simp only [World.size_alloc]; done) | (simp only [World.size_alloc]; omega) | (simp; done) | (simp; omega))); (focus (first | omega | (simp only [World.size_alloc]; done) | (simp only [World.size_alloc]; omega) | (simp; done) | (simp; omega))); intro A4 c4 w4 ho4 hg4 hl4; have hb4 := hb.trans (grown_base hg4 hsz (fun k hk => (HO.out.blk hk).1)))))
          rw [← HQ.out] at ho4
          have HO4 := Lib.hid ho4
          have hq2 : s + m = q := HQ.out.symm
          clear ho4
          go_roundw
          case rel => exact ⟨2, q, A4, c4, l' ++ l2, by rw [hq2], by go_num, .inr (.inr ⟨rfl, rfl⟩), Lib.hid (.inr (.inr ⟨rfl, rfl⟩)), HO4, hb4⟩
          case measure => simp [intOf]
        · have hl : l' = l1 ++ l2 := by rcases HL.out with ⟨h, _⟩ | ⟨h, _⟩ | ⟨_, h⟩ <;> first | exact h | omega
          subst hl
          go_wp2
          go_ret
          rw [← HQ.out]
          exact ⟨A', c', rfl, HO.out, hb⟩
set_option maxRecDepth 100000 in
theorem sl_SortStable {A : Option Addr} {n c base : Nat} {L : List (Int × Int)} {w : World} (hO : Owned strikeE 2 41 w base A n c L) (hz : n ≤ 16777216) (hbase : base ≤ w.heap.size) (hT : midT L) :
    Calls Tryz.prog 35 #[.slice A n c, .func (.func 36) #[] #[]] w fun e w' => e = .returned (.tuple #[]) ∧ Owned strikeE 2 41 w' base A n c (stT L) ∧ Below base w w' := by
  have HO := Lib.hid hO
  have HT := Lib.hid hT
  clear hO hT
  go_in
  go_wp2_with fail
  refine (sl_stable HO.out hz hbase HT.out).mono ?_; rintro e w2 ⟨rfl, ho2, hb2⟩
  go_wp2
  go_end0
  exact ⟨rfl, ho2, hb2⟩
set_option maxHeartbeats 1000000 in
set_option maxRecDepth 100000 in
theorem spec_MergeStrikes {A B : Option Addr} {n m c d : Nat} {l1 l2 : List (Int × Int)} {w : World} (hn : l1.length = n) (h : Recs strikeE 2 w A l1) (hz : n ≤ 16777216) (hm : l2.length = m) (g : Recs strikeE 2 w B l2) (hz2 : m ≤ 16777216) (hnc : n ≤ c) (hmd : m ≤ d) (hc : c ≤ 9223372036854775807) (hd : d ≤ 9223372036854775807) :
    Calls Tryz.prog 16 #[.slice A n c, .slice B m d] w fun e w' => ∃ A' c', e = .returned (.tuple #[.slice A' (mrgR l1 l2).length c', .bool (mrgOk l1 l2)]) ∧ Owned strikeE 2 41 w' w.heap.size A' (mrgR l1 l2).length c' (mrgR l1 l2) ∧ (mrgR l1 l2).length ≤ 16777216 ∧ Below w.heap.size w w' := by
  have HL := Lib.hid (mrgR_len (a := l1) (b := l2))
  have E : Hid (mrgOk l1 l2 = (goodStrikes l1 && goodStrikes l2 && decide (l1.length + l2.length ≤ 2000))) := rfl
  have HH := Lib.hid h
  have HG := Lib.hid g
  have HN := Lib.hid hn
  have HM := Lib.hid hm
  clear h g hn hm
  rcases h1 : goodStrikes l1
  · have e0 : mrgOk l1 l2 = false := by rw [E.out, h1]; rfl
    rw [mrgR_f e0, e0]
    have H1 := Lib.hid h1
    go_in
    go_wp2_with fail
    refine (spec_l21Good HN.out HH.out hz).mono ?_; rintro e w1 ⟨rfl, hb1⟩
    rw [H1.out]
    go_wp2
    go_ret2
    exact ⟨none, 0, rfl, Owned.nil strikeE_len _ _ _, by decide, hb1⟩
  rcases h2 : goodStrikes l2
  · have e0 : mrgOk l1 l2 = false := by rw [E.out, h1, h2]; rfl
    rw [mrgR_f e0, e0]
    have H1 := Lib.hid h1
    have H2 := Lib.hid h2
    go_in
    go_wp2_with fail
    refine (spec_l21Good HN.out HH.out hz).mono ?_; rintro e w1 ⟨rfl, hb1⟩
    rw [H1.out]
    go_wp2_with fail
    refine (spec_l21Good HM.out (HG.out.below hb1 (Nat.le_refl _)) hz2).mono ?_; rintro e w2 ⟨rfl, hb2⟩
    rw [H2.out]
    go_wp2
    go_ret2
    exact ⟨none, 0, rfl, Owned.nil strikeE_len _ _ _, by decide, below_go hb1 hb2⟩
  by_cases h3 : n + m ≤ 2000
  · have e0 : mrgOk l1 l2 = true := by rw [E.out, h1, h2, HN.out, HM.out, decide_eq_true h3]; rfl
    have e1 : (mrgR l1 l2).length = n + m := by rw [mrgR_t e0, mgT_len, HN.out, HM.out]
    have e2 := mrgR_t e0
    rw [e1, e0, e2]
    have H1 := Lib.hid h1
    have H2 := Lib.hid h2
    have h4 : ¬ ((n : Int) + (m : Int)) > 2000 := by omega
    clear e0 e1 e2 h1 h2
    go_in
    go_wp2_with fail
    refine (spec_l21Good HN.out HH.out hz).mono ?_; rintro e w1 ⟨rfl, hb1⟩
    rw [H1.out]
    go_wp2_with fail
    refine (spec_l21Good HM.out (HG.out.below hb1 (Nat.le_refl _)) hz2).mono ?_; rintro e w2 ⟨rfl, hb2⟩
    rw [H2.out]
    have hb12 := below_go hb1 hb2
    have hsz := hb12.size
    go_wp2_with fail
    refine (spec_l21Merge HN.out (HH.out.below hb12 (Nat.le_refl _)) HM.out (HG.out.below hb12 (Nat.le_refl _)) (by omega) hnc hmd hc hd).mono ?_; rintro e w3 ⟨A3, c3, rfl, ho3, hb3⟩
    go_wp2
    go_ret2
    exact ⟨A3, c3, rfl, ho3.base_le hsz, by omega, below_go hb12 hb3⟩
  · have e0 : mrgOk l1 l2 = false := by rw [E.out, h1, h2, HN.out, HM.out, decide_eq_false h3]; rfl
    rw [mrgR_f e0, e0]
    have H1 := Lib.hid h1
    have H2 := Lib.hid h2
    have h4 : ((n : Int) + (m : Int)) > 2000 := by omega
    clear e0 h1 h2
    go_in
    go_wp2_with fail
    refine (spec_l21Good HN.out HH.out hz).mono ?_; rintro e w1 ⟨rfl, hb1⟩
    rw [H1.out]
    go_wp2_with fail
    refine (spec_l21Good HM.out (HG.out.below hb1 (Nat.le_refl _)) hz2).mono ?_; rintro e w2 ⟨rfl, hb2⟩
    rw [H2.out]
    go_wp2
    go_ret2
    exact ⟨none, 0, rfl, Owned.nil strikeE_len _ _ _, by decide, below_go hb1 hb2⟩
set_option maxHeartbeats 1000000 in
set_option maxRecDepth 100000 in
theorem impl_MergeStrikes {A B : Option Addr} {n m c d : Nat} {l1 l2 : List (Int × Int)} {w : World} (hn : l1.length = n) (h : Recs strikeE 2 w A l1) (hz : n ≤ 16777216) (hm : l2.length = m) (g : Recs strikeE 2 w B l2) (hz2 : m ≤ 16777216) :
    Calls Tryz.prog 15 #[.slice A n c, .slice B m d] w fun e w' => ∃ A' c', e = .returned (.tuple #[.slice A' (mrgR l1 l2).length c', .bool (mrgOk l1 l2)]) ∧ Owned strikeE 2 41 w' w.heap.size A' (mrgR l1 l2).length c' (mrgR l1 l2) ∧ (mrgR l1 l2).length ≤ 16777216 ∧ Below w.heap.size w w' := by
  have HL := Lib.hid (mrgR_len (a := l1) (b := l2))
  have E : Hid (mrgOk l1 l2 = (goodStrikes l1 && goodStrikes l2 && decide (l1.length + l2.length ≤ 2000))) := rfl
  have HH := Lib.hid h
  have HG := Lib.hid g
  have HN := Lib.hid hn
  have HM := Lib.hid hm
  clear h g hn hm
  rcases h1 : goodStrikes l1
  · have e0 : mrgOk l1 l2 = false := by rw [E.out, h1]; rfl
    rw [mrgR_f e0, e0]
    have H1 := Lib.hid h1
    go_in
    go_wp2_with fail
    refine (impl_GoodStrikes HN.out HH.out hz).mono ?_; rintro e w1 ⟨rfl, hb1⟩
    rw [H1.out]
    go_wp2
    go_ret2
    exact ⟨none, 0, rfl, Owned.nil strikeE_len _ _ _, by decide, hb1⟩
  rcases h2 : goodStrikes l2
  · have e0 : mrgOk l1 l2 = false := by rw [E.out, h1, h2]; rfl
    rw [mrgR_f e0, e0]
    have H1 := Lib.hid h1
    have H2 := Lib.hid h2
    go_in
    go_wp2_with fail
    refine (impl_GoodStrikes HN.out HH.out hz).mono ?_; rintro e w1 ⟨rfl, hb1⟩
    rw [H1.out]
    go_wp2_with fail
    refine (impl_GoodStrikes HM.out (HG.out.below hb1 (Nat.le_refl _)) hz2).mono ?_; rintro e w2 ⟨rfl, hb2⟩
    rw [H2.out]
    go_wp2
    go_ret2
    exact ⟨none, 0, rfl, Owned.nil strikeE_len _ _ _, by decide, below_go hb1 hb2⟩
  by_cases h3 : n + m ≤ 2000
  · have e0 : mrgOk l1 l2 = true := by rw [E.out, h1, h2, HN.out, HM.out, decide_eq_true h3]; rfl
    have e1 : (mrgR l1 l2).length = n + m := by rw [mrgR_t e0, mgT_len, HN.out, HM.out]
    have e2 := mrgR_t e0
    rw [e1, e0, e2]
    have H1 := Lib.hid h1
    have H2 := Lib.hid h2
    have h4 : ¬ ((n : Int) + (m : Int)) > 2000 := by omega
    clear e0 e1 e2 h1 h2
    go_in
    go_wp2_with fail
    refine (impl_GoodStrikes HN.out HH.out hz).mono ?_; rintro e w1 ⟨rfl, hb1⟩
    rw [H1.out]
    go_wp2_with fail
    refine (impl_GoodStrikes HM.out (HG.out.below hb1 (Nat.le_refl _)) hz2).mono ?_; rintro e w2 ⟨rfl, hb2⟩
    rw [H2.out]
    have hb12 := below_go hb1 hb2
    have hsz := hb12.size
    go_wp2_with fail
    have hbA : Below w2.heap.size w2 (w2.alloc (.cells #[.slice A n c, .slice B m d] 24)) := below_alloc (Below.refl _ _) _
    refine (sl_Concat (g := w2.heap.size) (A := A) (B := B) (c := c) (d := d) HN.out ((HH.out.below hb12 (Nat.le_refl _)).up hbA) HM.out ((HG.out.below hb12 (Nat.le_refl _)).up hbA) (by omega) (by simp) ((Blk.at_ w2 _ [_, _] rfl).cell 0) ((Blk.at_ w2 _ [_, _] rfl).cell 1)).mono ?_
    rintro e w3 ⟨A3, c3, rfl, ho3, hb3⟩
    have hbw3 : Below w.heap.size w w3 := below_go (below_go hb12 hbA) hb3
    have hs3 : w.heap.size ≤ w3.heap.size := hbw3.size
    have HO3 : Hid (Owned strikeE 2 41 w3 w.heap.size A3 (n + m) c3 (l1 ++ l2)) := Lib.hid (ho3.base_le (Nat.le_trans hsz hbA.size))
    have HT : Hid (midT (l1 ++ l2)) := Lib.hid (fun s hs => by
      rcases List.mem_append.1 hs with q | q
      · exact (good_srtT H1.out).2 s q
      · exact (good_srtT H2.out).2 s q)
    have HE : Hid (List.merge l1 l2 leT = stT (l1 ++ l2)) := Lib.hid (stT_merge (good_srtT H1.out).1 (good_srtT H2.out).1).symm
    clear hb3 ho3 hbA hb1 hb2 hb12
    obtain ⟨q, hq⟩ : ∃ q, q = n + m := ⟨_, rfl⟩
    rw [← hq] at HO3 ⊢
    have HQ := Lib.hid hq
    have hq2 : q ≤ 2000 := by omega
    clear hq
    go_wp2_with fail
    refine (sl_SortStable HO3.out (by omega) hs3 HT.out).mono ?_
    rintro e w4 ⟨rfl, ho4, hb4⟩
    go_wp2
    go_ret2
    rw [HE.out, ← HQ.out]
    exact ⟨A3, c3, rfl, ho4, by omega, hbw3.trans hb4⟩
  · have e0 : mrgOk l1 l2 = false := by rw [E.out, h1, h2, HN.out, HM.out, decide_eq_false h3]; rfl
    rw [mrgR_f e0, e0]
    have H1 := Lib.hid h1
    have H2 := Lib.hid h2
    have h4 : ((n : Int) + (m : Int)) > 2000 := by omega
    clear e0 h1 h2
    go_in
    go_wp2_with fail
    refine (impl_GoodStrikes HN.out HH.out hz).mono ?_; rintro e w1 ⟨rfl, hb1⟩
    rw [H1.out]
    go_wp2_with fail
    refine (impl_GoodStrikes HM.out (HG.out.below hb1 (Nat.le_refl _)) hz2).mono ?_; rintro e w2 ⟨rfl, hb2⟩
    rw [H2.out]
    go_wp2
    go_ret2
    exact ⟨none, 0, rfl, Owned.nil strikeE_len _ _ _, by decide, below_go hb1 hb2⟩
end Go.Proofs.YthffeljicohpdaaGreatDoor
/- Merged and shifted strikes, in plain Lean. -/
namespace Go.Proofs.YthffeljicohpdaaGreatDoor
set_option linter.unusedVariables false
set_option linter.unusedSimpArgs false
open Go.ChangeShapes Go.WideShapes Go.ChangeAt Go.RowKit Go.Deep
theorem goodStrikes_of {l : List (Int × Int)} (h : ∀ x ∈ l, (1 ≤ x.1 ∧ x.1 ≤ 8) ∧ 0 ≤ x.2 ∧ x.2 ≤ 1000000) (hs : srtT l) (hn : l.length ≤ 2000) : goodStrikes l = true := by
  simp only [goodStrikes, Bool.and_eq_true, decide_eq_true_eq, List.all_eq_true, List.mem_range]
  refine ⟨fun i hi => ?_, hn⟩
  have hx := List.getElem?_eq_getElem hi
  have hb := h _ (List.getElem_mem hi)
  have e1 : l.getD i (0, 0) = l[i] := by rw [List.getD_eq_getElem?_getD, hx]; rfl
  rw [okStrike, e1]
  have a1 : inB (l[i]).1 1 8 = true := by simp only [inB, decide_eq_true_eq]; exact hb.1
  have a2 : inB (l[i]).2 0 1000000 = true := by simp only [inB, decide_eq_true_eq]; exact hb.2
  rw [a1, a2]
  by_cases h0 : 0 < i
  · have hi1 : i - 1 < l.length := by omega
    have e2 : l.getD (i - 1) (0, 0) = l[i - 1] := by rw [List.getD_eq_getElem?_getD, List.getElem?_eq_getElem hi1]; rfl
    have := (List.pairwise_iff_getElem.1 hs) (i - 1) i hi1 hi (by omega)
    rw [e2, decide_eq_false (show ¬ (l[i]).2 < (l[i - 1]).2 by omega)]
    simp
  · rw [decide_eq_false h0]; rfl
theorem good_merge {a b : List (Int × Int)} (h : mrgOk a b = true) : goodStrikes (List.merge a b leT) = true ∧ (List.merge a b leT).length = a.length + b.length := by
  obtain ⟨h1, h2, h3⟩ := mrgOk_t h
  refine ⟨goodStrikes_of (fun x hx => ?_) (mgT_srt (good_srtT h1).1 (good_srtT h2).1) (by rw [mgT_len]; exact h3), mgT_len a b⟩
  rcases mgT_mem.1 hx with q | q
  · exact (goodStrikes_t h1).2 x q
  · exact (goodStrikes_t h2).2 x q
theorem shift_back {l : List (Int × Int)} {d : Int} (h : shiftOk l d = true) : (-1000000 ≤ d ∧ d ≤ 1000000) ∧ shiftOk (shiftR l d) (-d) = true ∧ shiftR (shiftR l d) (-d) = l := by
  have e := shiftR_t h
  simp only [shiftOk, Bool.and_eq_true] at h
  obtain ⟨⟨h1, h2⟩, h3⟩ := h
  have hd := inB_t h2
  have e2 : (l.map fun s => (s.1, s.2 + d)).map (fun s => (s.1, s.2 + -d)) = l := by
    rw [List.map_map]
    conv => rhs; rw [← List.map_id l]
    apply List.map_congr_left
    intro s _
    simp only [Function.comp, id]
    rw [show s.2 + d + -d = s.2 by omega]
  have ok : shiftOk (shiftR l d) (-d) = true := by
    rw [e]
    simp only [shiftOk, Bool.and_eq_true]
    refine ⟨⟨h3, ?_⟩, ?_⟩
    · simp only [inB, decide_eq_true_eq]; omega
    · rw [e2]; exact h1
  refine ⟨hd, ok, ?_⟩
  rw [shiftR_t ok, e, e2]
end Go.Proofs.YthffeljicohpdaaGreatDoor
/- The library's table of powers of ten out of a row's listed variables. -/
namespace Go.Proofs.YthffeljicohpdaaGreatDoor
set_option linter.unusedVariables false
set_option linter.unusedSimpArgs false
open Go.ChangeShapes Go.WideShapes Go.ChangeAt Go.RowKit Go.Deep
theorem pow10_eq : (Rows.laid_internal_strconv_uint64pow10 : DataW Unit) = Lib.tabData .u64 Lib.pow10Tab := by kernel_rfl
theorem pow10_of_laid {W : World} (h : laidMetH Tryz.prog [("math/bits.deBruijn32tab", Rows.laid_math_bits_deBruijn32tab), ("math/bits.deBruijn64tab", Rows.laid_math_bits_deBruijn64tab), ("internal/strconv.uint64pow10", Rows.laid_internal_strconv_uint64pow10), ("unicode/utf8.acceptRanges", Rows.laid_unicode_utf8_acceptRanges), ("unicode/utf8.first", Rows.laid_unicode_utf8_first)] W) : Lib.TabIs Tryz.prog W "internal/strconv.uint64pow10" .u64 Lib.pow10Tab := by
  rw [MakeChecks.laidMetH_plain _ _ _ (by kernel_rfl)] at h
  obtain ⟨ps, ⟨g0, t0, cs0, f0, p0, q0, hg0, ht0, hv0, hd0, ⟨g1, t1, cs1, f1, p1, q1, hg1, ht1, hv1, hd1, ⟨g2, t2, cs2, f2, p2, q2, hg2, ht2, hv2, hd2, _, _⟩, _⟩, _⟩, _, _⟩ := h
  obtain rfl := Option.some.inj ((show Tryz.prog.globalNamed "internal/strconv.uint64pow10" = some 1 by kernel_rfl).symm.trans hg2)
  obtain rfl := Option.some.inj ((show (Tryz.prog.globals[1]?).map (·.type) = some 123 by kernel_rfl).symm.trans ht2)
  rw [pow10_eq] at hd2
  unfold Lib.TabIs
  rw [hv2, ← Lib.cells_of_tab Tryz.underlying123 Tryz.underlying52 (by kernel_rfl) (by kernel_rfl) hd2]
end Go.Proofs.YthffeljicohpdaaGreatDoor
/- The walk through FnStrikeTexts: for all bytes the law answers true. -/
namespace Go.Proofs.YthffeljicohpdaaGreatDoor
set_option linter.unusedVariables false
set_option linter.unusedSimpArgs false
open Go.ChangeShapes Go.WideShapes Go.ChangeAt Go.RowKit Go.Deep
set_option maxHeartbeats 4000000 in
set_option maxRecDepth 100000 in
theorem law_StrikeTexts (A0 : Option Addr) (c0 : Nat) (l0 : List Int) (A1 : Option Addr) (c1 : Nat) (l1 : List Int) (w : World) (h0 : Recs byteE 1 w A0 l0) (hm0 : l0.length ≤ 9223372036854775807) (hb0 : ∀ x ∈ l0, 0 ≤ x ∧ x ≤ 255)
    (h1 : Recs byteE 1 w A1 l1) (hm1 : l1.length ≤ 9223372036854775807) (hb1 : ∀ x ∈ l1, 0 ≤ x ∧ x ≤ 255) (hlaid : laidMetH Tryz.prog Rows.fnStrikeTextsRow.laid w) (mx : Int) (hmx : w.cell? ⟨0, 0, none⟩ = some (.int .i64 mx)) (hmw : 0 < w.heap.size) :
    Calls Tryz.prog 3 #[.slice A0 l0.length c0, .slice A1 l1.length c1] w fun e w' => e = .returned (.bool true) ∧ Below w.heap.size w w' := by
  have HT := Lib.hid (Lib.tabBelow_of_tabIs (pow10_of_laid hlaid))
  have MX := Lib.hid (fun (u : World) (hu : Below w.heap.size w u) => (hu.cell (p := ⟨0, 0, none⟩) hmw).trans hmx)
  clear hlaid hmx
  by_cases hz : l0.length + l1.length ≤ 1048576
  · have S0 := Lib.hid (show Src w A0 l0.length from ⟨l0, rfl, by omega, hb0, h0⟩)
    have S1 := Lib.hid (show Src w A1 l1.length from ⟨l1, rfl, by omega, hb1, h1⟩)
    clear h0 h1 hb0 hb1
    go_in
    go_wp2_with fail
    refine (laws_big3 _ _ _ _ _ _ _ (by omega) (by omega)).mono ?_; rintro e w' ⟨rfl, rfl⟩
    go_wp2_with fail
    refine (draw_StrikesText S0.out).mono ?_; rintro e w1 ⟨A1, m1, c1, L1, rfl, e1, k1, R1, hB1⟩
    have HW := hB1
    clear hB1
    subst e1
    obtain ⟨s1, hs1⟩ : ∃ u, u = stR L1 := ⟨_, rfl⟩
    have Gs1 := Lib.hid hs1
    clear hs1
    rcases hA : goodStrikes L1
    · have HA := Lib.hid hA
      clear hA
      go_wp2_with fail
      refine (impl_StrikesText rfl R1 (by omega) (HT.out _ HW)).mono ?_; rw [HA.out, ← Gs1.out]; rintro e w2 ⟨rfl, hb2⟩
      have R1 := R1.up hb2
      have HW := below_go HW hb2
      clear hb2
      go_wp2_with fail
      refine (spec_StrikesText rfl R1 (by omega)).mono ?_; rw [HA.out, ← Gs1.out]; rintro e w3 ⟨rfl, hb3⟩
      have R1 := R1.up hb3
      have HW := below_go HW hb3
      clear hb3
      go_wp2_with fail
      refine (impl_GoodStrikes rfl R1 (by omega)).mono ?_; rw [HA.out]; rintro e w4 ⟨rfl, hb4⟩
      have R1 := R1.up hb4
      have HW := below_go HW hb4
      clear hb4
      go_wp2_with fail
      refine (impl_GoodStrikes rfl R1 (by omega)).mono ?_; rw [HA.out]; rintro e w5 ⟨rfl, hb5⟩
      have R1 := R1.up hb5
      have HW := below_go HW hb5
      clear hb5
      go_wp2_with fail
      refine (spec_GoodStrikes rfl R1 (by omega)).mono ?_; rw [HA.out]; rintro e w6 ⟨rfl, hb6⟩
      have R1 := R1.up hb6
      have HW := below_go HW hb6
      clear hb6
      clear R1 Gs1 HA
      go_wp2_with fail
      refine (draw_ReadStrikes (S1.out.over HW)).mono ?_; rintro e w10 ⟨t10, rfl, k10, hb10⟩
      have HW := below_go HW hb10
      clear hb10
      obtain ⟨M10, hM10⟩ : ∃ u, u = rsR t10 := ⟨_, rfl⟩
      have GM10 := Lib.hid hM10
      clear hM10
      obtain ⟨b10, hb10⟩ : ∃ u, u = rsOk t10 := ⟨_, rfl⟩
      have Gb10 := Lib.hid hb10
      clear hb10
      go_wp2_with fail
      refine (impl_ReadStrikes (s := t10) (by omega) (MX.out _ HW) (Nat.lt_of_lt_of_le hmw HW.size)).mono ?_; rw [← GM10.out, ← Gb10.out]; rintro e w11 ⟨A11, c11, rfl, o11, z11, hb11⟩
      have HW := below_go HW hb11
      have R11 := o11.recs
      clear hb11 o11
      go_wp2_with fail
      refine (spec_ReadStrikes (s := t10) (by omega)).mono ?_; rw [← GM10.out, ← Gb10.out]; rintro e w12 ⟨A12, c12, rfl, o12, _, hb12⟩
      have R11 := R11.up hb12
      have HW := below_go HW hb12
      have R12 := o12.recs
      clear hb12 o12 GM10 Gb10
      go_wp2_with fail
      refine (draw_MergeStrikes (S1.out.over HW)).mono ?_; rintro e w13 ⟨Aa, na, ca, La, Ab, nb, cb, Lb, rfl, ⟨ea, ka, pa, qa, Ra⟩, ⟨eb, kb, pb, qb, Rb⟩, hb13⟩
      have R11 := R11.up hb13
      have R12 := R12.up hb13
      have HW := below_go HW hb13
      clear hb13
      subst ea
      subst eb
      obtain ⟨M14, hM14⟩ : ∃ u, u = mrgR La Lb := ⟨_, rfl⟩
      have GM14 := Lib.hid hM14
      clear hM14
      rcases hB : mrgOk La Lb
      · have HB := Lib.hid hB
        clear hB
        go_wp2_with fail
        refine (impl_MergeStrikes rfl Ra (by omega) rfl Rb (by omega)).mono ?_; rw [HB.out, ← GM14.out]; rintro e w14 ⟨A14, c14, rfl, o14, z14, hb14⟩
        have R11 := R11.up hb14
        have R12 := R12.up hb14
        have Ra := Ra.up hb14
        have Rb := Rb.up hb14
        have HW := below_go HW hb14
        have R14 := o14.recs
        clear hb14 o14
        go_wp2_with fail
        refine (spec_MergeStrikes rfl Ra (by omega) rfl Rb (by omega) pa pb qa qb).mono ?_; rw [HB.out, ← GM14.out]; rintro e w15 ⟨A15, c15, rfl, o15, _, hb15⟩
        have R11 := R11.up hb15
        have R12 := R12.up hb15
        have Ra := Ra.up hb15
        have Rb := Rb.up hb15
        have R14 := R14.up hb15
        have HW := below_go HW hb15
        have R15 := o15.recs
        clear hb15 o15 Ra Rb
        go_wp2_with fail
        refine (laws_sameStrikesB rfl R11 R12 z11).mono ?_; rintro e w16 ⟨rfl, hb16⟩
        have R11 := R11.up hb16
        have R12 := R12.up hb16
        have R14 := R14.up hb16
        have R15 := R15.up hb16
        have HW := below_go HW hb16
        clear hb16 R11 R12
        go_wp2_with fail
        refine (laws_sameStrikesB rfl R14 R15 z14).mono ?_; rintro e w17 ⟨rfl, hb17⟩
        have R14 := R14.up hb17
        have R15 := R15.up hb17
        have HW := below_go HW hb17
        clear hb17 R15
        clear R14
        go_wp2_with fail
        refine (draw_ShiftStrikes (S1.out.over HW)).mono ?_; rintro e w30 ⟨A30, m30, c30, L30, d30, rfl, e30, k30, R30, hb30⟩
        have HW := below_go HW hb30
        clear hb30
        subst e30
        obtain ⟨M30, hM30⟩ : ∃ u, u = shiftR L30 d30 := ⟨_, rfl⟩
        have GM30 := Lib.hid hM30
        clear hM30
        rcases hC : shiftOk L30 d30
        · have HC := Lib.hid hC
          clear hC
          go_wp2_with fail
          refine (impl_ShiftStrikes (d := d30) rfl R30 (by omega)).mono ?_; rw [HC.out, ← GM30.out]; rintro e w31 ⟨A31, c31, rfl, o31, z31, hb31⟩
          have R30 := R30.up hb31
          have HW := below_go HW hb31
          have R31 := o31.recs
          clear hb31 o31
          go_wp2_with fail
          refine (spec_ShiftStrikes (d := d30) rfl R30 (by omega)).mono ?_; rw [HC.out, ← GM30.out]; rintro e w32 ⟨A32, c32, rfl, o32, _, hb32⟩
          have R30 := R30.up hb32
          have R31 := R31.up hb32
          have HW := below_go HW hb32
          have R32 := o32.recs
          clear hb32 o32
          go_wp2_with fail
          refine (laws_sameStrikesB rfl R31 R32 z31).mono ?_; rintro e w33 ⟨rfl, hb33⟩
          have R30 := R30.up hb33
          have R31 := R31.up hb33
          have R32 := R32.up hb33
          have HW := below_go HW hb33
          clear hb33 R32
          go_wp2
          go_ret
          exact ⟨rfl, HW⟩
        · have HC := Lib.hid hC
          clear hC
          go_wp2_with fail
          refine (impl_ShiftStrikes (d := d30) rfl R30 (by omega)).mono ?_; rw [HC.out, ← GM30.out]; rintro e w31 ⟨A31, c31, rfl, o31, z31, hb31⟩
          have R30 := R30.up hb31
          have HW := below_go HW hb31
          have R31 := o31.recs
          clear hb31 o31
          go_wp2_with fail
          refine (spec_ShiftStrikes (d := d30) rfl R30 (by omega)).mono ?_; rw [HC.out, ← GM30.out]; rintro e w32 ⟨A32, c32, rfl, o32, _, hb32⟩
          have R30 := R30.up hb32
          have R31 := R31.up hb32
          have HW := below_go HW hb32
          have R32 := o32.recs
          clear hb32 o32
          go_wp2_with fail
          refine (laws_sameStrikesB rfl R31 R32 z31).mono ?_; rintro e w33 ⟨rfl, hb33⟩
          have R30 := R30.up hb33
          have R31 := R31.up hb33
          have R32 := R32.up hb33
          have HW := below_go HW hb33
          clear hb33 R32
          have SB := shift_back HC.out
          rw [← GM30.out] at SB
          obtain ⟨sd, sk, sr⟩ := SB
          have SK := Lib.hid sk
          have SR := Lib.hid sr
          clear sk sr
          have hneg : IntKind.i64.wrap (-d30) = -d30 := wrap_id (by omega)
          go_wp2_with fail
          refine (impl_ShiftStrikes (d := -d30) rfl R31 (by omega)).mono ?_; rw [SK.out, SR.out]; rintro e w34 ⟨A34, c34, rfl, o34, z34, hb34⟩
          have R30 := R30.up hb34
          have R31 := R31.up hb34
          have HW := below_go HW hb34
          have R34 := o34.recs
          clear hb34 o34 R31
          go_wp2_with fail
          refine (laws_sameStrikesB rfl R34 R30 z34).mono ?_; rintro e w35 ⟨rfl, hb35⟩
          have R30 := R30.up hb35
          have R34 := R34.up hb35
          have HW := below_go HW hb35
          go_wp2
          go_ret
          exact ⟨rfl, HW⟩
      · have HB := Lib.hid hB
        clear hB
        go_wp2_with fail
        refine (impl_MergeStrikes rfl Ra (by omega) rfl Rb (by omega)).mono ?_; rw [HB.out, ← GM14.out]; rintro e w14 ⟨A14, c14, rfl, o14, z14, hb14⟩
        have R11 := R11.up hb14
        have R12 := R12.up hb14
        have Ra := Ra.up hb14
        have Rb := Rb.up hb14
        have HW := below_go HW hb14
        have R14 := o14.recs
        clear hb14 o14
        go_wp2_with fail
        refine (spec_MergeStrikes rfl Ra (by omega) rfl Rb (by omega) pa pb qa qb).mono ?_; rw [HB.out, ← GM14.out]; rintro e w15 ⟨A15, c15, rfl, o15, _, hb15⟩
        have R11 := R11.up hb15
        have R12 := R12.up hb15
        have Ra := Ra.up hb15
        have Rb := Rb.up hb15
        have R14 := R14.up hb15
        have HW := below_go HW hb15
        have R15 := o15.recs
        clear hb15 o15 Ra Rb
        have GD := good_merge HB.out
        rw [← mrgR_t HB.out, ← GM14.out] at GD
        have HGD := Lib.hid GD.1
        have hlen : (M14.length : Int) = (La.length : Int) + (Lb.length : Int) := by have := GD.2; omega
        clear GD
        go_wp2_with fail
        refine (laws_sameStrikesB rfl R11 R12 z11).mono ?_; rintro e w16 ⟨rfl, hb16⟩
        have R11 := R11.up hb16
        have R12 := R12.up hb16
        have R14 := R14.up hb16
        have R15 := R15.up hb16
        have HW := below_go HW hb16
        clear hb16 R11 R12
        go_wp2_with fail
        refine (laws_sameStrikesB rfl R14 R15 z14).mono ?_; rintro e w17 ⟨rfl, hb17⟩
        have R14 := R14.up hb17
        have R15 := R15.up hb17
        have HW := below_go HW hb17
        clear hb17 R15
        go_wp2_with fail
        refine (impl_GoodStrikes rfl R14 z14).mono ?_; rw [HGD.out]; rintro e w18 ⟨rfl, hb18⟩
        have R14 := R14.up hb18
        have HW := below_go HW hb18
        clear hb18
        clear R14
        go_wp2_with fail
        refine (draw_ShiftStrikes (S1.out.over HW)).mono ?_; rintro e w30 ⟨A30, m30, c30, L30, d30, rfl, e30, k30, R30, hb30⟩
        have HW := below_go HW hb30
        clear hb30
        subst e30
        obtain ⟨M30, hM30⟩ : ∃ u, u = shiftR L30 d30 := ⟨_, rfl⟩
        have GM30 := Lib.hid hM30
        clear hM30
        rcases hC : shiftOk L30 d30
        · have HC := Lib.hid hC
          clear hC
          go_wp2_with fail
          refine (impl_ShiftStrikes (d := d30) rfl R30 (by omega)).mono ?_; rw [HC.out, ← GM30.out]; rintro e w31 ⟨A31, c31, rfl, o31, z31, hb31⟩
          have R30 := R30.up hb31
          have HW := below_go HW hb31
          have R31 := o31.recs
          clear hb31 o31
          go_wp2_with fail
          refine (spec_ShiftStrikes (d := d30) rfl R30 (by omega)).mono ?_; rw [HC.out, ← GM30.out]; rintro e w32 ⟨A32, c32, rfl, o32, _, hb32⟩
          have R30 := R30.up hb32
          have R31 := R31.up hb32
          have HW := below_go HW hb32
          have R32 := o32.recs
          clear hb32 o32
          go_wp2_with fail
          refine (laws_sameStrikesB rfl R31 R32 z31).mono ?_; rintro e w33 ⟨rfl, hb33⟩
          have R30 := R30.up hb33
          have R31 := R31.up hb33
          have R32 := R32.up hb33
          have HW := below_go HW hb33
          clear hb33 R32
          go_wp2
          go_ret
          exact ⟨rfl, HW⟩
        · have HC := Lib.hid hC
          clear hC
          go_wp2_with fail
          refine (impl_ShiftStrikes (d := d30) rfl R30 (by omega)).mono ?_; rw [HC.out, ← GM30.out]; rintro e w31 ⟨A31, c31, rfl, o31, z31, hb31⟩
          have R30 := R30.up hb31
          have HW := below_go HW hb31
          have R31 := o31.recs
          clear hb31 o31
          go_wp2_with fail
          refine (spec_ShiftStrikes (d := d30) rfl R30 (by omega)).mono ?_; rw [HC.out, ← GM30.out]; rintro e w32 ⟨A32, c32, rfl, o32, _, hb32⟩
          have R30 := R30.up hb32
          have R31 := R31.up hb32
          have HW := below_go HW hb32
          have R32 := o32.recs
          clear hb32 o32
          go_wp2_with fail
          refine (laws_sameStrikesB rfl R31 R32 z31).mono ?_; rintro e w33 ⟨rfl, hb33⟩
          have R30 := R30.up hb33
          have R31 := R31.up hb33
          have R32 := R32.up hb33
          have HW := below_go HW hb33
          clear hb33 R32
          have SB := shift_back HC.out
          rw [← GM30.out] at SB
          obtain ⟨sd, sk, sr⟩ := SB
          have SK := Lib.hid sk
          have SR := Lib.hid sr
          clear sk sr
          have hneg : IntKind.i64.wrap (-d30) = -d30 := wrap_id (by omega)
          go_wp2_with fail
          refine (impl_ShiftStrikes (d := -d30) rfl R31 (by omega)).mono ?_; rw [SK.out, SR.out]; rintro e w34 ⟨A34, c34, rfl, o34, z34, hb34⟩
          have R30 := R30.up hb34
          have R31 := R31.up hb34
          have HW := below_go HW hb34
          have R34 := o34.recs
          clear hb34 o34 R31
          go_wp2_with fail
          refine (laws_sameStrikesB rfl R34 R30 z34).mono ?_; rintro e w35 ⟨rfl, hb35⟩
          have R30 := R30.up hb35
          have R34 := R34.up hb35
          have HW := below_go HW hb35
          go_wp2
          go_ret
          exact ⟨rfl, HW⟩
    · have HA := Lib.hid hA
      clear hA
      go_wp2_with fail
      refine (impl_StrikesText rfl R1 (by omega) (HT.out _ HW)).mono ?_; rw [HA.out, ← Gs1.out]; rintro e w2 ⟨rfl, hb2⟩
      have R1 := R1.up hb2
      have HW := below_go HW hb2
      clear hb2
      go_wp2_with fail
      refine (spec_StrikesText rfl R1 (by omega)).mono ?_; rw [HA.out, ← Gs1.out]; rintro e w3 ⟨rfl, hb3⟩
      have R1 := R1.up hb3
      have HW := below_go HW hb3
      clear hb3
      go_wp2_with fail
      refine (impl_GoodStrikes rfl R1 (by omega)).mono ?_; rw [HA.out]; rintro e w4 ⟨rfl, hb4⟩
      have R1 := R1.up hb4
      have HW := below_go HW hb4
      clear hb4
      go_wp2_with fail
      refine (impl_GoodStrikes rfl R1 (by omega)).mono ?_; rw [HA.out]; rintro e w5 ⟨rfl, hb5⟩
      have R1 := R1.up hb5
      have HW := below_go HW hb5
      clear hb5
      go_wp2_with fail
      refine (spec_GoodStrikes rfl R1 (by omega)).mono ?_; rw [HA.out]; rintro e w6 ⟨rfl, hb6⟩
      have R1 := R1.up hb6
      have HW := below_go HW hb6
      clear hb6
      have RS := rs_yes (s := s1) (l := L1) ⟨HA.out, by rw [Gs1.out, stR_t HA.out]⟩
      have RS1 := Lib.hid RS.1
      have RS2 := Lib.hid RS.2
      clear RS
      have hsz : s1.size ≤ 10000 := by rw [Gs1.out]; exact stR_size k1
      go_wp2_with fail
      refine (impl_ReadStrikes (s := s1) (by omega) (MX.out _ HW) (Nat.lt_of_lt_of_le hmw HW.size)).mono ?_; rw [RS1.out, RS2.out]; rintro e w7 ⟨A7, c7, rfl, o7, z7, hb7⟩
      have R1 := R1.up hb7
      have HW := below_go HW hb7
      have R7 := o7.recs
      clear hb7 o7
      go_wp2_with fail
      refine (laws_sameStrikesB rfl R7 R1 z7).mono ?_; rintro e w8 ⟨rfl, hb8⟩
      have R1 := R1.up hb8
      have R7 := R7.up hb8
      have HW := below_go HW hb8
      clear hb8 R7 RS1 RS2
      clear R1 Gs1 HA
      go_wp2_with fail
      refine (draw_ReadStrikes (S1.out.over HW)).mono ?_; rintro e w10 ⟨t10, rfl, k10, hb10⟩
      have HW := below_go HW hb10
      clear hb10
      obtain ⟨M10, hM10⟩ : ∃ u, u = rsR t10 := ⟨_, rfl⟩
      have GM10 := Lib.hid hM10
      clear hM10
      obtain ⟨b10, hb10⟩ : ∃ u, u = rsOk t10 := ⟨_, rfl⟩
      have Gb10 := Lib.hid hb10
      clear hb10
      go_wp2_with fail
      refine (impl_ReadStrikes (s := t10) (by omega) (MX.out _ HW) (Nat.lt_of_lt_of_le hmw HW.size)).mono ?_; rw [← GM10.out, ← Gb10.out]; rintro e w11 ⟨A11, c11, rfl, o11, z11, hb11⟩
      have HW := below_go HW hb11
      have R11 := o11.recs
      clear hb11 o11
      go_wp2_with fail
      refine (spec_ReadStrikes (s := t10) (by omega)).mono ?_; rw [← GM10.out, ← Gb10.out]; rintro e w12 ⟨A12, c12, rfl, o12, _, hb12⟩
      have R11 := R11.up hb12
      have HW := below_go HW hb12
      have R12 := o12.recs
      clear hb12 o12 GM10 Gb10
      go_wp2_with fail
      refine (draw_MergeStrikes (S1.out.over HW)).mono ?_; rintro e w13 ⟨Aa, na, ca, La, Ab, nb, cb, Lb, rfl, ⟨ea, ka, pa, qa, Ra⟩, ⟨eb, kb, pb, qb, Rb⟩, hb13⟩
      have R11 := R11.up hb13
      have R12 := R12.up hb13
      have HW := below_go HW hb13
      clear hb13
      subst ea
      subst eb
      obtain ⟨M14, hM14⟩ : ∃ u, u = mrgR La Lb := ⟨_, rfl⟩
      have GM14 := Lib.hid hM14
      clear hM14
      rcases hB : mrgOk La Lb
      · have HB := Lib.hid hB
        clear hB
        go_wp2_with fail
        refine (impl_MergeStrikes rfl Ra (by omega) rfl Rb (by omega)).mono ?_; rw [HB.out, ← GM14.out]; rintro e w14 ⟨A14, c14, rfl, o14, z14, hb14⟩
        have R11 := R11.up hb14
        have R12 := R12.up hb14
        have Ra := Ra.up hb14
        have Rb := Rb.up hb14
        have HW := below_go HW hb14
        have R14 := o14.recs
        clear hb14 o14
        go_wp2_with fail
        refine (spec_MergeStrikes rfl Ra (by omega) rfl Rb (by omega) pa pb qa qb).mono ?_; rw [HB.out, ← GM14.out]; rintro e w15 ⟨A15, c15, rfl, o15, _, hb15⟩
        have R11 := R11.up hb15
        have R12 := R12.up hb15
        have Ra := Ra.up hb15
        have Rb := Rb.up hb15
        have R14 := R14.up hb15
        have HW := below_go HW hb15
        have R15 := o15.recs
        clear hb15 o15 Ra Rb
        go_wp2_with fail
        refine (laws_sameStrikesB rfl R11 R12 z11).mono ?_; rintro e w16 ⟨rfl, hb16⟩
        have R11 := R11.up hb16
        have R12 := R12.up hb16
        have R14 := R14.up hb16
        have R15 := R15.up hb16
        have HW := below_go HW hb16
        clear hb16 R11 R12
        go_wp2_with fail
        refine (laws_sameStrikesB rfl R14 R15 z14).mono ?_; rintro e w17 ⟨rfl, hb17⟩
        have R14 := R14.up hb17
        have R15 := R15.up hb17
        have HW := below_go HW hb17
        clear hb17 R15
        clear R14
        go_wp2_with fail
        refine (draw_ShiftStrikes (S1.out.over HW)).mono ?_; rintro e w30 ⟨A30, m30, c30, L30, d30, rfl, e30, k30, R30, hb30⟩
        have HW := below_go HW hb30
        clear hb30
        subst e30
        obtain ⟨M30, hM30⟩ : ∃ u, u = shiftR L30 d30 := ⟨_, rfl⟩
        have GM30 := Lib.hid hM30
        clear hM30
        rcases hC : shiftOk L30 d30
        · have HC := Lib.hid hC
          clear hC
          go_wp2_with fail
          refine (impl_ShiftStrikes (d := d30) rfl R30 (by omega)).mono ?_; rw [HC.out, ← GM30.out]; rintro e w31 ⟨A31, c31, rfl, o31, z31, hb31⟩
          have R30 := R30.up hb31
          have HW := below_go HW hb31
          have R31 := o31.recs
          clear hb31 o31
          go_wp2_with fail
          refine (spec_ShiftStrikes (d := d30) rfl R30 (by omega)).mono ?_; rw [HC.out, ← GM30.out]; rintro e w32 ⟨A32, c32, rfl, o32, _, hb32⟩
          have R30 := R30.up hb32
          have R31 := R31.up hb32
          have HW := below_go HW hb32
          have R32 := o32.recs
          clear hb32 o32
          go_wp2_with fail
          refine (laws_sameStrikesB rfl R31 R32 z31).mono ?_; rintro e w33 ⟨rfl, hb33⟩
          have R30 := R30.up hb33
          have R31 := R31.up hb33
          have R32 := R32.up hb33
          have HW := below_go HW hb33
          clear hb33 R32
          go_wp2
          go_ret
          exact ⟨rfl, HW⟩
        · have HC := Lib.hid hC
          clear hC
          go_wp2_with fail
          refine (impl_ShiftStrikes (d := d30) rfl R30 (by omega)).mono ?_; rw [HC.out, ← GM30.out]; rintro e w31 ⟨A31, c31, rfl, o31, z31, hb31⟩
          have R30 := R30.up hb31
          have HW := below_go HW hb31
          have R31 := o31.recs
          clear hb31 o31
          go_wp2_with fail
          refine (spec_ShiftStrikes (d := d30) rfl R30 (by omega)).mono ?_; rw [HC.out, ← GM30.out]; rintro e w32 ⟨A32, c32, rfl, o32, _, hb32⟩
          have R30 := R30.up hb32
          have R31 := R31.up hb32
          have HW := below_go HW hb32
          have R32 := o32.recs
          clear hb32 o32
          go_wp2_with fail
          refine (laws_sameStrikesB rfl R31 R32 z31).mono ?_; rintro e w33 ⟨rfl, hb33⟩
          have R30 := R30.up hb33
          have R31 := R31.up hb33
          have R32 := R32.up hb33
          have HW := below_go HW hb33
          clear hb33 R32
          have SB := shift_back HC.out
          rw [← GM30.out] at SB
          obtain ⟨sd, sk, sr⟩ := SB
          have SK := Lib.hid sk
          have SR := Lib.hid sr
          clear sk sr
          have hneg : IntKind.i64.wrap (-d30) = -d30 := wrap_id (by omega)
          go_wp2_with fail
          refine (impl_ShiftStrikes (d := -d30) rfl R31 (by omega)).mono ?_; rw [SK.out, SR.out]; rintro e w34 ⟨A34, c34, rfl, o34, z34, hb34⟩
          have R30 := R30.up hb34
          have R31 := R31.up hb34
          have HW := below_go HW hb34
          have R34 := o34.recs
          clear hb34 o34 R31
          go_wp2_with fail
          refine (laws_sameStrikesB rfl R34 R30 z34).mono ?_; rintro e w35 ⟨rfl, hb35⟩
          have R30 := R30.up hb35
          have R34 := R34.up hb35
          have HW := below_go HW hb35
          go_wp2
          go_ret
          exact ⟨rfl, HW⟩
      · have HB := Lib.hid hB
        clear hB
        go_wp2_with fail
        refine (impl_MergeStrikes rfl Ra (by omega) rfl Rb (by omega)).mono ?_; rw [HB.out, ← GM14.out]; rintro e w14 ⟨A14, c14, rfl, o14, z14, hb14⟩
        have R11 := R11.up hb14
        have R12 := R12.up hb14
        have Ra := Ra.up hb14
        have Rb := Rb.up hb14
        have HW := below_go HW hb14
        have R14 := o14.recs
        clear hb14 o14
        go_wp2_with fail
        refine (spec_MergeStrikes rfl Ra (by omega) rfl Rb (by omega) pa pb qa qb).mono ?_; rw [HB.out, ← GM14.out]; rintro e w15 ⟨A15, c15, rfl, o15, _, hb15⟩
        have R11 := R11.up hb15
        have R12 := R12.up hb15
        have Ra := Ra.up hb15
        have Rb := Rb.up hb15
        have R14 := R14.up hb15
        have HW := below_go HW hb15
        have R15 := o15.recs
        clear hb15 o15 Ra Rb
        have GD := good_merge HB.out
        rw [← mrgR_t HB.out, ← GM14.out] at GD
        have HGD := Lib.hid GD.1
        have hlen : (M14.length : Int) = (La.length : Int) + (Lb.length : Int) := by have := GD.2; omega
        clear GD
        go_wp2_with fail
        refine (laws_sameStrikesB rfl R11 R12 z11).mono ?_; rintro e w16 ⟨rfl, hb16⟩
        have R11 := R11.up hb16
        have R12 := R12.up hb16
        have R14 := R14.up hb16
        have R15 := R15.up hb16
        have HW := below_go HW hb16
        clear hb16 R11 R12
        go_wp2_with fail
        refine (laws_sameStrikesB rfl R14 R15 z14).mono ?_; rintro e w17 ⟨rfl, hb17⟩
        have R14 := R14.up hb17
        have R15 := R15.up hb17
        have HW := below_go HW hb17
        clear hb17 R15
        go_wp2_with fail
        refine (impl_GoodStrikes rfl R14 z14).mono ?_; rw [HGD.out]; rintro e w18 ⟨rfl, hb18⟩
        have R14 := R14.up hb18
        have HW := below_go HW hb18
        clear hb18
        clear R14
        go_wp2_with fail
        refine (draw_ShiftStrikes (S1.out.over HW)).mono ?_; rintro e w30 ⟨A30, m30, c30, L30, d30, rfl, e30, k30, R30, hb30⟩
        have HW := below_go HW hb30
        clear hb30
        subst e30
        obtain ⟨M30, hM30⟩ : ∃ u, u = shiftR L30 d30 := ⟨_, rfl⟩
        have GM30 := Lib.hid hM30
        clear hM30
        rcases hC : shiftOk L30 d30
        · have HC := Lib.hid hC
          clear hC
          go_wp2_with fail
          refine (impl_ShiftStrikes (d := d30) rfl R30 (by omega)).mono ?_; rw [HC.out, ← GM30.out]; rintro e w31 ⟨A31, c31, rfl, o31, z31, hb31⟩
          have R30 := R30.up hb31
          have HW := below_go HW hb31
          have R31 := o31.recs
          clear hb31 o31
          go_wp2_with fail
          refine (spec_ShiftStrikes (d := d30) rfl R30 (by omega)).mono ?_; rw [HC.out, ← GM30.out]; rintro e w32 ⟨A32, c32, rfl, o32, _, hb32⟩
          have R30 := R30.up hb32
          have R31 := R31.up hb32
          have HW := below_go HW hb32
          have R32 := o32.recs
          clear hb32 o32
          go_wp2_with fail
          refine (laws_sameStrikesB rfl R31 R32 z31).mono ?_; rintro e w33 ⟨rfl, hb33⟩
          have R30 := R30.up hb33
          have R31 := R31.up hb33
          have R32 := R32.up hb33
          have HW := below_go HW hb33
          clear hb33 R32
          go_wp2
          go_ret
          exact ⟨rfl, HW⟩
        · have HC := Lib.hid hC
          clear hC
          go_wp2_with fail
          refine (impl_ShiftStrikes (d := d30) rfl R30 (by omega)).mono ?_; rw [HC.out, ← GM30.out]; rintro e w31 ⟨A31, c31, rfl, o31, z31, hb31⟩
          have R30 := R30.up hb31
          have HW := below_go HW hb31
          have R31 := o31.recs
          clear hb31 o31
          go_wp2_with fail
          refine (spec_ShiftStrikes (d := d30) rfl R30 (by omega)).mono ?_; rw [HC.out, ← GM30.out]; rintro e w32 ⟨A32, c32, rfl, o32, _, hb32⟩
          have R30 := R30.up hb32
          have R31 := R31.up hb32
          have HW := below_go HW hb32
          have R32 := o32.recs
          clear hb32 o32
          go_wp2_with fail
          refine (laws_sameStrikesB rfl R31 R32 z31).mono ?_; rintro e w33 ⟨rfl, hb33⟩
          have R30 := R30.up hb33
          have R31 := R31.up hb33
          have R32 := R32.up hb33
          have HW := below_go HW hb33
          clear hb33 R32
          have SB := shift_back HC.out
          rw [← GM30.out] at SB
          obtain ⟨sd, sk, sr⟩ := SB
          have SK := Lib.hid sk
          have SR := Lib.hid sr
          clear sk sr
          have hneg : IntKind.i64.wrap (-d30) = -d30 := wrap_id (by omega)
          go_wp2_with fail
          refine (impl_ShiftStrikes (d := -d30) rfl R31 (by omega)).mono ?_; rw [SK.out, SR.out]; rintro e w34 ⟨A34, c34, rfl, o34, z34, hb34⟩
          have R30 := R30.up hb34
          have R31 := R31.up hb34
          have HW := below_go HW hb34
          have R34 := o34.recs
          clear hb34 o34 R31
          go_wp2_with fail
          refine (laws_sameStrikesB rfl R34 R30 z34).mono ?_; rintro e w35 ⟨rfl, hb35⟩
          have R30 := R30.up hb35
          have R34 := R34.up hb35
          have HW := below_go HW hb35
          go_wp2
          go_ret
          exact ⟨rfl, HW⟩
  · go_in
    go_wp2_with fail
    refine (laws_big3 _ _ _ _ _ _ _ (by omega) (by omega)).mono ?_; rintro e w' ⟨rfl, rfl⟩
    go_wp2
    go_ret
    exact ⟨rfl, Below.refl _ _⟩
end Go.Proofs.YthffeljicohpdaaGreatDoor
