/- The walk through the library's rotation, at strikes. -/
import Derived.Test.YthffeljicohpdaaWsw1
namespace Go.Proofs.Ythffeljicohpdaa
set_option linter.unusedVariables false
set_option linter.unusedSimpArgs false
open Go.ChangeShapes Go.WideShapes Go.ChangeAt Go.RowKit Go.Deep
theorem swL_at {D : List (Int × Int)} {i j t : Nat} (hi : i < D.length) (hj : j < D.length) (hij : i ≠ j) : (swL D i j)[t]? = if t = i then D[j]? else if t = j then D[i]? else D[t]? := by
  rw [swL, List.getElem?_set, List.getElem?_set, List.length_set, List.getD, List.getD, List.getElem?_eq_getElem hi, List.getElem?_eq_getElem hj]
  simp only [Option.getD_some]
  by_cases h1 : t = i
  · subst h1
    rw [if_neg (fun e => hij e.symm), if_pos rfl, if_pos hi, if_pos rfl]
  · by_cases h2 : t = j
    · subst h2
      rw [if_pos rfl, if_pos hj, if_neg h1, if_pos rfl]
    · rw [if_neg (fun e => h2 e.symm), if_neg (fun e => h1 e.symm), if_neg h1, if_neg h2]
theorem swR_at {D : List (Int × Int)} {a b : Nat} : ∀ (k : Nat), a + k ≤ b → b + k ≤ D.length → ∀ t, (swR D a b k)[t]? = if a ≤ t ∧ t < a + k then D[t - a + b]? else if b ≤ t ∧ t < b + k then D[t - b + a]? else D[t]?
  | 0, _, _, t => by rw [swR, if_neg (by omega), if_neg (by omega)]
  | k + 1, h1, h2, t => by
    have ih := swR_at (D := D) (a := a) (b := b) k (by omega) (by omega)
    rw [swR, swL_at (by rw [swR_len]; omega) (by rw [swR_len]; omega) (by omega), ih, ih, ih]
    by_cases c1 : t = a + k
    · subst c1
      rw [if_pos rfl, if_neg (by omega), if_neg (by omega), if_pos (by omega), show a + k - a + b = b + k by omega]
    · rw [if_neg c1]
      by_cases c2 : t = b + k
      · subst c2
        rw [if_pos rfl, if_neg (by omega), if_neg (by omega), if_neg (by omega), if_pos (by omega), show b + k - b + a = a + k by omega]
      · rw [if_neg c2]
        by_cases c3 : a ≤ t ∧ t < a + k
        · rw [if_pos c3, if_pos (by omega)]
        · by_cases c4 : b ≤ t ∧ t < b + k
          · rw [if_neg c3, if_pos c4, if_neg (by omega), if_pos (by omega)]
          · rw [if_neg c3, if_neg c4, if_neg (by omega), if_neg (by omega)]
theorem swR_blocks {P X M Y Q : List (Int × Int)} {a b k : Nat} (hP : P.length = a) (hX : X.length = k) (hY : Y.length = k) (hb : a + k + M.length = b) : swR (P ++ (X ++ (M ++ (Y ++ Q)))) a b k = P ++ (Y ++ (M ++ (X ++ Q))) := by
  apply List.ext_getElem?
  intro t
  rw [swR_at k (by omega) (by simp; omega)]
  simp only [List.getElem?_append, hP, hX, hY]
  by_cases c1 : t < a
  · rw [if_neg (by omega), if_neg (by omega), if_pos c1, if_pos c1]
  · by_cases c2 : t < a + k
    · rw [if_pos (by omega), if_neg (by omega), if_neg (by omega), if_neg (by omega), if_pos (by omega), if_neg c1, if_pos (by omega)]
      rw [show t - a + b - a - k - M.length = t - a by omega]
    · rw [if_neg (by omega)]
      by_cases c3 : t < b
      · rw [if_neg (by omega), if_neg c1, if_neg (by omega), if_pos (by omega), if_neg c1, if_neg (by omega), if_pos (by omega)]
      · by_cases c4 : t < b + k
        · rw [if_pos (by omega), if_neg (by omega), if_pos (by omega), if_neg c1, if_neg (by omega), if_neg (by omega), if_pos (by omega)]
          rw [show t - b + a - a = t - a - k - M.length by omega]
        · rw [if_neg (by omega), if_neg c1, if_neg (by omega), if_neg (by omega), if_neg (by omega), if_neg c1, if_neg (by omega), if_neg (by omega), if_neg (by omega)]
theorem cut_at {α : Type} {l : List α} {k : Nat} (h : k ≤ l.length) : ∃ a b, l = a ++ b ∧ a.length = k ∧ b.length = l.length - k := ⟨l.take k, l.drop k, (List.take_append_drop ..).symm, by simp; omega, by simp⟩
set_option maxHeartbeats 2000000 in
set_option maxRecDepth 100000 in
theorem sl_rotate {A : Option Addr} {n c base a m b : Nat} {P X Y Q : List (Int × Int)} {F : Value} {w : World} (hO : Owned strikeE 2 34 w base A n c (P ++ (X ++ (Y ++ Q)))) (hz : n ≤ 16777216) (ha : P.length = a) (hm : a + X.length = m) (hb : m + Y.length = b) (hx0 : 0 < X.length) (hy0 : 0 < Y.length) (hbase : base ≤ w.heap.size) :
    Calls Try.prog 26 #[.slice A n c, .int .i64 a, .int .i64 m, .int .i64 b, F] w fun e w' => e = .returned (.tuple #[]) ∧ Owned strikeE 2 34 w' base A n c (P ++ (Y ++ (X ++ Q))) ∧ Below base w w' := by
  have hL := hO.len
  have hL' : a + X.length + Y.length + Q.length = n := by rw [← hL]; simp; omega
  have HA := Lib.hid ha
  obtain ⟨i0, hi0⟩ : ∃ i, i = X.length := ⟨_, rfl⟩
  obtain ⟨j0, hj0⟩ : ∃ j, j = Y.length := ⟨_, rfl⟩
  have HI := Lib.hid hi0
  have HJ := Lib.hid hj0
  have hbn : b ≤ n := by omega
  have hma : a ≤ m := by omega
  have hmb : m ≤ b := by omega
  have e1 : (m : Int) - (a : Int) = (i0 : Int) := by omega
  have e2 : (b : Int) - (m : Int) = (j0 : Int) := by omega
  have hmi : a + i0 = m := by omega
  have HMI := Lib.hid hmi
  have h1 : 0 < i0 := by omega
  have h2 : 0 < j0 := by omega
  have hsum : i0 + j0 ≤ 16777216 := by omega
  have HM := Lib.hid hm
  have HB := Lib.hid hb
  have HLN := Lib.hid hL'
  clear hL hL' hi0 hj0 hm hb hmi ha hx0 hy0
  go_in
  go_wp2
  go_loopw [10, 11] (fun vi vj wr => ∃ (i j : Nat) (P' X' Y' Q' : List (Int × Int)), vi = .int .i64 i ∧ vj = .int .i64 j ∧ 0 < i ∧ 0 < j ∧ i + j ≤ 16777216 ∧ Hid (X'.length = i ∧ Y'.length = j ∧ P'.length + i = m ∧ P' ++ (Y' ++ (X' ++ Q')) = P ++ (Y ++ (X ++ Q))) ∧ Hid (Owned strikeE 2 34 wr base A n c (P' ++ (X' ++ (Y' ++ Q')))) ∧ Below base w wr) (fun vi vj _ => (intOf vi).toNat + (intOf vj).toNat)
  case atStart => exact ⟨i0, j0, P, X, Y, Q, by go_num, by go_num, h1, h2, hsum, Lib.hid ⟨HI.out.symm, HJ.out.symm, by rw [HA.out]; exact HMI.out, rfl⟩, Lib.hid hO, Below.refl _ _⟩
  case round =>
    obtain ⟨i, j, P', X', Y', Q', rfl, rfl, hi, hj, hij, HR, HO, hbw⟩ := hrel
    rename World => wr
    have hLw := HO.out.len
    have hln : m + j ≤ n := by have := HR.out; simp at hLw; omega
    have him : i ≤ m := by have := HR.out; omega
    have hsw : base ≤ wr.heap.size := Nat.le_trans hbase hbw.size
    clear hLw
    rcases Nat.lt_trichotomy i j with hlt | heq | hgt
    · have hI : ((i : Int) != (j : Int)) = true := bne_iff_ne.2 (by omega)
      have hI2 : ¬ (j : Int) < (i : Int) := by omega
      have q1 : (m : Int) - (i : Int) = ((m - i : Nat) : Int) := by omega
      have q2 : (m : Int) + (j : Int) - (i : Int) = ((m + j - i : Nat) : Int) := by omega
      obtain ⟨Y1, Y2, hY, hY1, hY2⟩ := cut_at (l := Y') (k := j - i) (by have := HR.out; omega)
      have HYY := Lib.hid hY
      have HY1 := Lib.hid hY1
      have HY2 : Hid (Y2.length = i) := Lib.hid (by have := HR.out; omega)
      clear hY hY1 hY2
      have HO2 : Hid (Owned strikeE 2 34 wr base A n c (P' ++ (X' ++ (Y1 ++ (Y2 ++ Q'))))) := Lib.hid (by have := HO.out; rw [HYY.out, List.append_assoc] at this; exact this)
      have q3 : (j : Int) - (i : Int) = ((j - i : Nat) : Int) := by omega
      have hPl : P'.length = m - i := by have := HR.out; omega
      have HPL := Lib.hid hPl
      clear hPl
      go_wp2_with fail
      refine (sl_swapRange (a := m - i) (b := m + j - i) (k := i) HO2.out hz (by omega) (by omega)).mono ?_; rintro e w2 ⟨rfl, ho2, hb2⟩
      rw [swR_blocks HPL.out HR.out.1 HY2.out (by rw [HY1.out]; omega)] at ho2
      have HO3 := Lib.hid ho2
      have HR3 : Hid (Y2.length = i ∧ Y1.length = j - i ∧ P'.length + i = m ∧ P' ++ (Y1 ++ (Y2 ++ (X' ++ Q'))) = P ++ (Y ++ (X ++ Q))) := Lib.hid ⟨HY2.out, HY1.out, HR.out.2.2.1, by rw [← HR.out.2.2.2, HYY.out, List.append_assoc]⟩
      have HB3 := Lib.hid (hbw.trans hb2)
      clear ho2 hb2 hI hI2
      go_wp2
      go_roundw
      case rel => exact ⟨i, j - i, P', Y2, Y1, X' ++ Q', rfl, by go_num, hi, by omega, by omega, HR3, HO3, HB3.out⟩
      case measure => simp [intOf]; omega
    · subst heq
      have hI : ((i : Int) != (i : Int)) = false := by simp
      have q1 : (m : Int) - (i : Int) = ((m - i : Nat) : Int) := by omega
      have hPl : P'.length = m - i := by have := HR.out; omega
      have HPL := Lib.hid hPl
      have HO2 : Hid (Owned strikeE 2 34 wr base A n c (P' ++ (X' ++ ([] ++ (Y' ++ Q'))))) := Lib.hid (by rw [List.nil_append]; exact HO.out)
      clear hPl
      go_wp2_with fail
      refine (sl_swapRange (a := m - i) (b := m) (k := i) HO2.out hz (by omega) (by omega)).mono ?_; rintro e w2 ⟨rfl, ho2, hb2⟩
      rw [swR_blocks HPL.out HR.out.1 HR.out.2.1 (by simp; omega), List.nil_append, HR.out.2.2.2] at ho2
      go_wp2
      go_end0
      exact ⟨rfl, ho2, hbw.trans hb2⟩
    · have hI : ((i : Int) != (j : Int)) = true := bne_iff_ne.2 (by omega)
      have hI2 : (j : Int) < (i : Int) := by omega
      have q1 : (m : Int) - (i : Int) = ((m - i : Nat) : Int) := by omega
      have q3 : (i : Int) - (j : Int) = ((i - j : Nat) : Int) := by omega
      obtain ⟨X1, X2, hX, hX1, hX2⟩ := cut_at (l := X') (k := j) (by have := HR.out; omega)
      have HXX := Lib.hid hX
      have HX1 := Lib.hid hX1
      have HX2 : Hid (X2.length = i - j) := Lib.hid (by have := HR.out; omega)
      clear hX hX1 hX2
      have HO2 : Hid (Owned strikeE 2 34 wr base A n c (P' ++ (X1 ++ (X2 ++ (Y' ++ Q'))))) := Lib.hid (by have := HO.out; rw [HXX.out, List.append_assoc] at this; exact this)
      have hPl : P'.length = m - i := by have := HR.out; omega
      have HPL := Lib.hid hPl
      clear hPl
      go_wp2_with fail
      refine (sl_swapRange (a := m - i) (b := m) (k := j) HO2.out hz (by omega) (by omega)).mono ?_; rintro e w2 ⟨rfl, ho2, hb2⟩
      rw [swR_blocks HPL.out HX1.out HR.out.2.1 (by rw [HX2.out]; omega), ← List.append_assoc P'] at ho2
      have HO3 := Lib.hid ho2
      have HR3 : Hid (X2.length = i - j ∧ X1.length = j ∧ (P' ++ Y').length + (i - j) = m ∧ (P' ++ Y') ++ (X1 ++ (X2 ++ Q')) = P ++ (Y ++ (X ++ Q))) := Lib.hid ⟨HX2.out, HX1.out, by have := HR.out; simp; omega, by rw [← HR.out.2.2.2, HXX.out]; simp⟩
      have HB3 := Lib.hid (hbw.trans hb2)
      clear ho2 hb2 hI hI2
      go_wp2
      go_roundw
      case rel => exact ⟨i - j, j, P' ++ Y', X2, X1, Q', by go_num, rfl, by omega, hj, by omega, HR3, HO3, HB3.out⟩
      case measure => simp [intOf]; omega
end Go.Proofs.Ythffeljicohpdaa
