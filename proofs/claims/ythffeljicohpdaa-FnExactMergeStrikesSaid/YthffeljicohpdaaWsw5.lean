/- The walk through the library's merging in place, at strikes: many against one element. -/
import Derived.Test.YthffeljicohpdaaWsw4
namespace Go.Proofs.Ythffeljicohpdaa
set_option linter.unusedVariables false
set_option linter.unusedSimpArgs false
open Go.ChangeShapes Go.WideShapes Go.ChangeAt Go.RowKit Go.Deep
set_option maxHeartbeats 2000000 in
set_option maxRecDepth 100000 in
theorem sl_symLast {A : Option Addr} {n c base a m b : Nat} {P LA Q : List (Int × Int)} {x : Int × Int} {w : World} (hO : Owned strikeE 2 34 w base A n c (P ++ (LA ++ (x :: Q)))) (hz : n ≤ 16777216) (ha : P.length = a) (hm : a + LA.length = m) (hb : m + 1 = b) (h2 : 2 ≤ LA.length) (hbase : base ≤ w.heap.size) (hT : midT LA) (hTx : midT [x]) (hS : srtT LA) :
    Calls Try.prog 25 #[.slice A n c, .int .i64 a, .int .i64 m, .int .i64 b, .func (.func 17) #[] #[]] w fun e w' => e = .returned (.tuple #[]) ∧ Owned strikeE 2 34 w' base A n c (P ++ (List.merge LA [x] leT ++ Q)) ∧ Below base w w' := by
  have hL := hO.len
  have hbn : b ≤ n := by rw [← hL]; simp; omega
  have HA := Lib.hid ha
  have HM := Lib.hid hm
  have HT := Lib.hid hT
  have HS := Lib.hid hS
  have hmb : m < b := by omega
  have ham : a ≤ m := by omega
  have e0 : ((m : Int) - (a : Int) == 1) = false := by rw [beq_eq_false_iff_ne]; omega
  have e1 : (b : Int) - (m : Int) = 1 := by omega
  have hpos : 0 < n := by omega
  have hmn : m < n := by omega
  have HXA : Hid ((P ++ (LA ++ (x :: Q)))[m]? = some x) := Lib.hid (by rw [← hm, ← ha, List.getElem?_append_right (by omega), Nat.add_sub_cancel_left, List.getElem?_append_right (Nat.le_refl _), Nat.sub_self]; rfl)
  have HXT := Lib.hid (hTx x (List.mem_singleton.2 rfl))
  clear hL ha hm hb hT hS hTx h2
  go_in
  go_wp2
  go_loopw [14, 15] (fun v u wr => ∃ i j : Nat, v = .int .i64 i ∧ u = .int .i64 j ∧ a ≤ i ∧ i ≤ j ∧ j ≤ m ∧ Hid ((∀ t (s : Int × Int), t < i - a → LA[t]? = some s → s.2 ≤ x.2) ∧ ∀ t (s : Int × Int), j - a ≤ t → LA[t]? = some s → x.2 < s.2) ∧ Hid (Owned strikeE 2 34 wr base A n c (P ++ (LA ++ (x :: Q)))) ∧ Below base w wr) (fun v u _ => (intOf u).toNat - (intOf v).toNat)
  case atStart => exact ⟨a, m, rfl, rfl, Nat.le_refl _, ham, Nat.le_refl _, Lib.hid ⟨fun t s ht _ => absurd ht (by omega), fun t s ht hs => by
    have := (List.getElem?_eq_some_iff.1 hs).1
    have := HM.out
    omega⟩, Lib.hid hO, Below.refl _ _⟩
  case round =>
    obtain ⟨i, j, rfl, rfl, hmi, hij, hjb, HR, HO, hbw⟩ := hrel
    rename World => wr
    by_cases hlt : i < j
    · have hI : (i : Int) < (j : Int) := by omega
      obtain ⟨k, hk⟩ : ∃ k, k = (i + j) / 2 := ⟨_, rfl⟩
      have hik : i ≤ k := by omega
      have hkj : k < j := by omega
      have hkI : ((i : Int) + (j : Int)) / 2 = (k : Int) := by omega
      have hkn : k < n := by omega
      clear hk
      obtain ⟨y, hy⟩ := some_of_lt (l := LA) (k := k - a) (by have := HM.out; omega)
      have HY := Lib.hid hy
      have HYD : Hid ((P ++ (LA ++ (x :: Q)))[k]? = some y) := Lib.hid (by
        have hlk := (List.getElem?_eq_some_iff.1 hy).1
        have e := HA.out
        rw [List.getElem?_append_right (by omega), show k - P.length = (k - a) by omega, List.getElem?_append_left hlk]; exact hy)
      have HYT := Lib.hid (HT.out y (List.mem_of_getElem? hy))
      obtain ⟨f, rfl, f0, f1, fc, ff⟩ := HO.out.at_ hpos
      have x0 := fc _ x 0 _ HXA.out rfl
      have x1 := fc _ x 1 _ HXA.out rfl
      have y0 := fc _ y 0 _ HYD.out rfl
      have y1 := fc _ y 1 _ HYD.out rfl
      simp only [Nat.add_zero] at x0 y0
      have hsw : base ≤ wr.heap.size := Nat.le_trans hbase hbw.size
      clear fc ff hy
      go_wp2
      go_region_held3 (fun u => u.cell? ⟨f, m * 2, none⟩ = some (.int .i64 x.1) ∧ u.cell? ⟨f, m * 2 + 1, none⟩ = some (.int .i64 x.2) ∧ u.cell? ⟨f, k * 2, none⟩ = some (.int .i64 y.1) ∧ u.cell? ⟨f, k * 2 + 1, none⟩ = some (.int .i64 y.2)) (first | exact ⟨by assumption, by assumption, by assumption, by assumption⟩) (first | (refine (impl_cmp (x := x) (y := y) HXT.out HYT.out).mono ?_; rintro e w2 ⟨rfl, hbd⟩; have hb2 := below_of_drew hbd; have x0' := (hb2.cell (p := ⟨f, m * 2, none⟩) f1).trans x0; have x1' := (hb2.cell (p := ⟨f, m * 2 + 1, none⟩) f1).trans x1; have y0' := (hb2.cell (p := ⟨f, k * 2, none⟩) f1).trans y0; have y1' := (hb2.cell (p := ⟨f, k * 2 + 1, none⟩) f1).trans y1))
      have HO2 := Lib.hid (HO.out.up hb2)
      have hbw2 : Below base w w2 := hbw.trans (hb2.mono hsw)
      by_cases hxy : x.2 - y.2 < 0
      · have hcd : (!decide (x.2 - y.2 < 0)) = false := by rw [decide_eq_true hxy]; rfl
        have HR2 : Hid ((∀ t (s : Int × Int), t < i - a → LA[t]? = some s → s.2 ≤ x.2) ∧ ∀ t (s : Int × Int), k - a ≤ t → LA[t]? = some s → x.2 < s.2) := Lib.hid ⟨HR.out.1, fun t s ht hs => by
          have := srtT_le HS.out ht HY.out hs
          omega⟩
        clear hbd hb2 x0 x1 y0 y1 x0' x1' y0' y1'
        go_wp2
        all_goals (try (rename_i hbad; rw [hcd] at hbad; exact absurd hbad (by decide)))
        go_roundw
        case rel => exact ⟨i, k, rfl, rfl, hmi, hik, by omega, HR2, HO2, hbw2⟩
        case measure => simp [intOf]; omega
      · have hcd : (!decide (x.2 - y.2 < 0)) = true := by rw [decide_eq_false hxy]; rfl
        have HR2 : Hid ((∀ t (s : Int × Int), t < k + 1 - a → LA[t]? = some s → s.2 ≤ x.2) ∧ ∀ t (s : Int × Int), j - a ≤ t → LA[t]? = some s → x.2 < s.2) := Lib.hid ⟨fun t s ht hs => by
          have := srtT_le HS.out (show t ≤ k - a by omega) hs HY.out
          omega, HR.out.2⟩
        clear hbd hb2 x0 x1 y0 y1 x0' x1' y0' y1'
        go_wp2
        all_goals (try (rename_i hbad; rw [hcd] at hbad; exact absurd hbad (by decide)))
        go_roundw
        case rel => exact ⟨k + 1, j, by go_num, rfl, by omega, by omega, hjb, HR2, HO2, hbw2⟩
        case measure => simp [intOf]; omega
    · have hI : ¬ (i : Int) < (j : Int) := by omega
      obtain rfl : i = j := by omega
      have HF : Hid (List.merge LA [x] leT = LA.take (i - a) ++ x :: LA.drop (i - a)) := Lib.hid (sym_last HR.out.1 HR.out.2)
      have HPT : Hid ((P ++ LA.take (i - a)).length = i) := Lib.hid (by have := HA.out; have := HM.out; simp; omega)
      have HO0 : Hid (Owned strikeE 2 34 wr base A n c ((P ++ LA.take (i - a)) ++ (LA.drop (i - a) ++ (x :: ([] ++ Q))))) := Lib.hid (by
        have := HO.out
        rw [List.append_assoc, ← List.append_assoc (LA.take (i - a)), List.take_append_drop, List.nil_append]; exact this)
      clear HO
      go_wp2
      go_loopw [17] (fun v wr => ∃ (k : Nat) (C1 C2 : List (Int × Int)), v = .int .i64 k ∧ i ≤ k ∧ k ≤ m ∧ Hid (i + C1.length = k ∧ C1 ++ C2 = LA.drop (i - a)) ∧ Hid (Owned strikeE 2 34 wr base A n c ((P ++ LA.take (i - a)) ++ (C1 ++ (x :: (C2 ++ Q))))) ∧ Below base w wr) (fun v _ => (intOf v).toNat)
      case atStart => exact ⟨m, LA.drop (i - a), [], rfl, by omega, Nat.le_refl _, Lib.hid ⟨by rw [List.length_drop]; have := HM.out; omega, by simp⟩, HO0, hbw⟩
      case round =>
        clear HO0 hbw
        obtain ⟨k, C1, C2, rfl, hak, hki, HR, HO, hbw⟩ := hrel
        rename World => wr
        by_cases hk : i < k
        · have hK : (k : Int) > (i : Int) := by omega
          obtain ⟨C1', y, hC1⟩ : ∃ t y, C1 = t ++ [y] := by
            rcases List.eq_nil_or_concat C1 with h | ⟨t, y, h⟩
            · have := HR.out.1; rw [h] at this; simp at this; omega
            · exact ⟨t, y, by simpa using h⟩
          subst hC1
          have hj1 : ((P ++ LA.take (i - a)) ++ C1').length + 1 = k := by have e1 := HR.out.1; have e2 := HPT.out; rw [List.length_append] at e1; rw [List.length_append, e2]; simp at e1; omega
          have HJ1 := Lib.hid hj1
          have hkn : k < n := by omega
          have hkn1 : k - 1 < n := by omega
          have hwj := wrap_predT (k := k) (by omega) (by omega)
          have HO : Hid (Owned strikeE 2 34 wr base A n c (((P ++ LA.take (i - a)) ++ C1') ++ (y :: x :: (C2 ++ Q)))) := Lib.hid (by have := HO.out; simpa using this)
          have HXJ : Hid ((((P ++ LA.take (i - a)) ++ C1') ++ (y :: x :: (C2 ++ Q)))[k]? = some x) := Lib.hid (by rw [← HJ1.out, List.getElem?_append_right (by omega), Nat.add_sub_cancel_left]; rfl)
          have HYJ : Hid ((((P ++ LA.take (i - a)) ++ C1') ++ (y :: x :: (C2 ++ Q)))[k - 1]? = some y) := Lib.hid (by rw [← HJ1.out, List.getElem?_append_right (by omega), Nat.add_sub_cancel, Nat.sub_self]; rfl)
          obtain ⟨f, rfl, f0, f1, fc, ff⟩ := HO.out.at_ hpos
          have x0 := fc _ x 0 _ HXJ.out rfl
          have x1 := fc _ x 1 _ HXJ.out rfl
          have y0 := fc _ y 0 _ HYJ.out rfl
          have y1 := fc _ y 1 _ HYJ.out rfl
          simp only [Nat.add_zero] at x0 y0
          have g0 := ff (k * 2)
          have g1 := ff (k * 2 + 1)
          have g2 := ff ((k - 1) * 2)
          have g3 := ff ((k - 1) * 2 + 1)
          have n1 : ¬ k * 2 = (k - 1) * 2 := by omega
          have n2 : ¬ (k - 1) * 2 = k * 2 := by omega
          have HSW := own_sw HO.out f0 f1 HXJ.out HYJ.out (by omega)
          rw [swL_adj HJ1.out] at HSW
          have HSO : Hid (Owned strikeE 2 34 _ base _ n c ((P ++ LA.take (i - a)) ++ (C1' ++ (x :: ((y :: C2) ++ Q))))) := Lib.hid (by have := HSW.1.drew; simpa using this)
          have HSB := Lib.hid (hbw.trans HSW.2).drew
          have HR2 : Hid (i + C1'.length = k - 1 ∧ C1' ++ (y :: C2) = LA.drop (i - a)) := Lib.hid ⟨by have := HR.out.1; simp at this; omega, by rw [← HR.out.2]; simp⟩
          clear fc ff HSW hj1
          go_wp2
          go_region
          go_wp2
          go_roundw
          case rel => exact ⟨k - 1, C1', y :: C2, by go_num, by omega, by omega, HR2, HSO, HSB.out⟩
          case measure => simp [intOf]; omega
        · have hK : ¬ (k : Int) > (i : Int) := by omega
          have HE : Hid (Owned strikeE 2 34 wr base A n c (P ++ (List.merge LA [x] leT ++ Q))) := Lib.hid (by
            have := HO.out
            have hc : C1 = [] := List.eq_nil_of_length_eq_zero (by have := HR.out.1; omega)
            rw [HF.out, ← HR.out.2, hc]
            rw [hc] at this
            simpa using this)
          go_wp2
          (try simp only [Exit.inBlock, Exit.then]); refine bodyPost_ret (results_none rfl _ _ _) rfl ?_
          exact ⟨rfl, HE.out, hbw⟩
end Go.Proofs.Ythffeljicohpdaa
