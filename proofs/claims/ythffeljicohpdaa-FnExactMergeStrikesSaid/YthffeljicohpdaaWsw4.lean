/- The walk through the library's merging in place, at strikes: one element against many. -/
import Derived.Test.YthffeljicohpdaaP21v
namespace Go.Proofs.Ythffeljicohpdaa
set_option linter.unusedVariables false
set_option linter.unusedSimpArgs false
open Go.ChangeShapes Go.WideShapes Go.ChangeAt Go.RowKit Go.Deep
set_option maxHeartbeats 2000000 in
set_option maxRecDepth 100000 in
theorem sl_symOne {A : Option Addr} {n c base a m b : Nat} {P LB Q : List (Int × Int)} {x : Int × Int} {w : World} (hO : Owned strikeE 2 34 w base A n c (P ++ (x :: (LB ++ Q)))) (hz : n ≤ 16777216) (ha : P.length = a) (hm : a + 1 = m) (hb : m + LB.length = b) (hbase : base ≤ w.heap.size) (hT : midT (x :: LB)) (hS : srtT LB) :
    Calls Try.prog 25 #[.slice A n c, .int .i64 a, .int .i64 m, .int .i64 b, .func (.func 17) #[] #[]] w fun e w' => e = .returned (.tuple #[]) ∧ Owned strikeE 2 34 w' base A n c (P ++ (List.merge [x] LB leT ++ Q)) ∧ Below base w w' := by
  have hL := hO.len
  have hbn : b ≤ n := by rw [← hL]; simp; omega
  have HA := Lib.hid ha
  have HM := Lib.hid hm
  have HB := Lib.hid hb
  have HT := Lib.hid hT
  have HS := Lib.hid hS
  have hmb : m ≤ b := by omega
  have ham : a < m := by omega
  have e1 : (m : Int) - (a : Int) = 1 := by omega
  have hpos : 0 < n := by omega
  have han : a < n := by omega
  have HXA : Hid ((P ++ (x :: (LB ++ Q)))[a]? = some x) := Lib.hid (by rw [← ha, List.getElem?_append_right (Nat.le_refl _), Nat.sub_self]; rfl)
  clear hL ha hm hb hT hS
  go_in
  go_wp2
  go_loopw [10, 11] (fun v u wr => ∃ i j : Nat, v = .int .i64 i ∧ u = .int .i64 j ∧ m ≤ i ∧ i ≤ j ∧ j ≤ b ∧ Hid ((∀ t (s : Int × Int), t < i - m → LB[t]? = some s → s.2 < x.2) ∧ ∀ t (s : Int × Int), j - m ≤ t → LB[t]? = some s → x.2 ≤ s.2) ∧ Hid (Owned strikeE 2 34 wr base A n c (P ++ (x :: (LB ++ Q)))) ∧ Below base w wr) (fun v u _ => (intOf u).toNat - (intOf v).toNat)
  case atStart => exact ⟨m, b, rfl, rfl, Nat.le_refl _, hmb, Nat.le_refl _, Lib.hid ⟨fun t s ht _ => absurd ht (by omega), fun t s ht hs => by
    have := (List.getElem?_eq_some_iff.1 hs).1
    have := HB.out
    omega⟩, Lib.hid hO, Below.refl _ _⟩
  case round =>
    obtain ⟨i, j, rfl, rfl, hmi, hij, hjb, HR, HO, hbw⟩ := hrel
    rename World => wr
    by_cases hlt : i < j
    · have hI : (i : Int) < (j : Int) := by omega
      obtain ⟨k, hk⟩ : ∃ k, k = (i + j) / 2 := ⟨_, rfl⟩
      have hik : i ≤ k := by omega
      have hkj : k < j := by omega
      have hkI : ((i : Int) + (j : Int)) / 2 = (k : Int) := by omega
      have hkn : k < n := by omega
      clear hk
      obtain ⟨y, hy⟩ := some_of_lt (l := LB) (k := k - m) (by have := HB.out; omega)
      have HY := Lib.hid hy
      have HYD : Hid ((P ++ (x :: (LB ++ Q)))[k]? = some y) := Lib.hid (by
        have hlk := (List.getElem?_eq_some_iff.1 hy).1
        have e := HA.out
        have e' := HM.out
        rw [List.getElem?_append_right (by omega), show k - P.length = (k - m) + 1 by omega, List.getElem?_cons_succ, List.getElem?_append_left hlk]; exact hy)
      have hxt := HT.out x (List.mem_cons_self ..)
      have hyt := HT.out y (List.mem_cons_of_mem _ (List.mem_of_getElem? hy))
      have HXT := Lib.hid hxt
      have HYT := Lib.hid hyt
      obtain ⟨f, rfl, f0, f1, fc, ff⟩ := HO.out.at_ hpos
      have x0 := fc _ x 0 _ HXA.out rfl
      have x1 := fc _ x 1 _ HXA.out rfl
      have y0 := fc _ y 0 _ HYD.out rfl
      have y1 := fc _ y 1 _ HYD.out rfl
      simp only [Nat.add_zero] at x0 y0
      have hsw : base ≤ wr.heap.size := Nat.le_trans hbase hbw.size
      clear fc ff hy hxt hyt
      go_wp2
      go_region_held3 (fun u => u.cell? ⟨f, a * 2, none⟩ = some (.int .i64 x.1) ∧ u.cell? ⟨f, a * 2 + 1, none⟩ = some (.int .i64 x.2) ∧ u.cell? ⟨f, k * 2, none⟩ = some (.int .i64 y.1) ∧ u.cell? ⟨f, k * 2 + 1, none⟩ = some (.int .i64 y.2)) (first | exact ⟨by assumption, by assumption, by assumption, by assumption⟩) (first | (refine (impl_cmp (x := y) (y := x) HYT.out HXT.out).mono ?_; rintro e w2 ⟨rfl, hbd⟩; have hb2 := below_of_drew hbd; have x0' := (hb2.cell (p := ⟨f, a * 2, none⟩) f1).trans x0; have x1' := (hb2.cell (p := ⟨f, a * 2 + 1, none⟩) f1).trans x1; have y0' := (hb2.cell (p := ⟨f, k * 2, none⟩) f1).trans y0; have y1' := (hb2.cell (p := ⟨f, k * 2 + 1, none⟩) f1).trans y1))
      have HO2 := Lib.hid (HO.out.up hb2)
      have hbw2 : Below base w w2 := hbw.trans (hb2.mono hsw)
      by_cases hxy : y.2 - x.2 < 0
      · have hcd : decide (y.2 - x.2 < 0) = true := decide_eq_true hxy
        have HR2 : Hid ((∀ t (s : Int × Int), t < k + 1 - m → LB[t]? = some s → s.2 < x.2) ∧ ∀ t (s : Int × Int), j - m ≤ t → LB[t]? = some s → x.2 ≤ s.2) := Lib.hid ⟨fun t s ht hs => by
          have := srtT_le HS.out (show t ≤ k - m by omega) hs HY.out
          omega, HR.out.2⟩
        clear hbd hb2 x0 x1 y0 y1 x0' x1' y0' y1'
        go_wp2
        go_roundw
        case rel => exact ⟨k + 1, j, by go_num, rfl, by omega, by omega, hjb, HR2, HO2, hbw2⟩
        case measure => simp [intOf]; omega
      · have hcd : decide (y.2 - x.2 < 0) = false := decide_eq_false hxy
        have HR2 : Hid ((∀ t (s : Int × Int), t < i - m → LB[t]? = some s → s.2 < x.2) ∧ ∀ t (s : Int × Int), k - m ≤ t → LB[t]? = some s → x.2 ≤ s.2) := Lib.hid ⟨HR.out.1, fun t s ht hs => by
          have := srtT_le HS.out ht HY.out hs
          omega⟩
        clear hbd hb2 x0 x1 y0 y1 x0' x1' y0' y1'
        go_wp2
        go_roundw
        case rel => exact ⟨i, k, rfl, rfl, hmi, hik, by omega, HR2, HO2, hbw2⟩
        case measure => simp [intOf]; omega
    · have hI : ¬ (i : Int) < (j : Int) := by omega
      obtain rfl : i = j := by omega
      have HF : Hid (List.merge [x] LB leT = LB.take (i - m) ++ x :: LB.drop (i - m)) := Lib.hid (sym_first HR.out.1 HR.out.2)
      have hin : i ≤ n := by omega
      have HO0 : Hid (Owned strikeE 2 34 wr base A n c (P ++ ([] ++ (x :: (LB.take (i - m) ++ (LB.drop (i - m) ++ Q)))))) := Lib.hid (by
        have := HO.out
        rw [← List.append_assoc (LB.take (i - m)), List.take_append_drop, List.nil_append]; exact this)
      have hwi := wrap_predT (k := i) (by omega) (by omega)
      clear HO
      go_wp2
      go_loopw [13] (fun v wr => ∃ (k : Nat) (C1 C2 : List (Int × Int)), v = .int .i64 k ∧ a ≤ k ∧ k + 1 ≤ i ∧ Hid (a + C1.length = k ∧ C1 ++ C2 = LB.take (i - m)) ∧ Hid (Owned strikeE 2 34 wr base A n c (P ++ (C1 ++ (x :: (C2 ++ (LB.drop (i - m) ++ Q)))))) ∧ Below base w wr) (fun v _ => i - (intOf v).toNat)
      case atStart => exact ⟨a, [], LB.take (i - m), rfl, Nat.le_refl _, by omega, Lib.hid ⟨rfl, rfl⟩, HO0, hbw⟩
      case round =>
        clear HO0 hbw
        obtain ⟨k, C1, C2, rfl, hak, hki, HR, HO, hbw⟩ := hrel
        rename World => wr
        have hlC : C1.length + C2.length = i - m := by
          have := congrArg List.length HR.out.2
          rw [List.length_append, List.length_take] at this
          have := HB.out
          omega
        have HLC := Lib.hid hlC
        clear hlC
        by_cases hk : k < i - 1
        · have hK : (k : Int) < ((i - 1 : Nat) : Int) := by omega
          obtain ⟨y, C2', hC2⟩ : ∃ y t, C2 = y :: t := by
            rcases C2 with _ | ⟨y, t⟩
            · have := HLC.out
              have := HR.out.1
              have := HM.out
              simp at *; omega
            · exact ⟨y, t, rfl⟩
          subst hC2
          have HPL : Hid ((P ++ C1).length = k) := Lib.hid (by have := HR.out.1; have := HA.out; simp at *; omega)
          have hkn : k < n := by omega
          have hkn1 : k + 1 < n := by omega
          have HO : Hid (Owned strikeE 2 34 wr base A n c ((P ++ C1) ++ (x :: y :: (C2' ++ (LB.drop (i - m) ++ Q))))) := Lib.hid (by have := HO.out; simpa using this)
          have HXJ : Hid (((P ++ C1) ++ (x :: y :: (C2' ++ (LB.drop (i - m) ++ Q))))[k]? = some x) := Lib.hid (by rw [← HPL.out, List.getElem?_append_right (Nat.le_refl _), Nat.sub_self]; rfl)
          have HYJ : Hid (((P ++ C1) ++ (x :: y :: (C2' ++ (LB.drop (i - m) ++ Q))))[k + 1]? = some y) := Lib.hid (by rw [← HPL.out, List.getElem?_append_right (by omega), Nat.add_sub_cancel_left]; rfl)
          obtain ⟨f, rfl, f0, f1, fc, ff⟩ := HO.out.at_ hpos
          have x0 := fc _ x 0 _ HXJ.out rfl
          have x1 := fc _ x 1 _ HXJ.out rfl
          have y0 := fc _ y 0 _ HYJ.out rfl
          have y1 := fc _ y 1 _ HYJ.out rfl
          simp only [Nat.add_zero] at x0 y0
          have g0 := ff (k * 2)
          have g1 := ff (k * 2 + 1)
          have g2 := ff ((k + 1) * 2)
          have g3 := ff ((k + 1) * 2 + 1)
          have n1 : ¬ k * 2 = (k + 1) * 2 := by omega
          have n2 : ¬ (k + 1) * 2 = k * 2 := by omega
          have HSW := own_sw HO.out f0 f1 HXJ.out HYJ.out (by omega)
          rw [swL_adj2 HPL.out] at HSW
          have HSO : Hid (Owned strikeE 2 34 _ base _ n c (P ++ ((C1 ++ [y]) ++ (x :: (C2' ++ (LB.drop (i - m) ++ Q)))))) := Lib.hid (by have := HSW.1.drew; simpa using this)
          have HSB := Lib.hid (hbw.trans HSW.2).drew
          have HR2 : Hid (a + (C1 ++ [y]).length = k + 1 ∧ (C1 ++ [y]) ++ C2' = LB.take (i - m)) := Lib.hid ⟨by have := HR.out.1; simp; omega, by rw [← HR.out.2]; simp⟩
          clear fc ff HSW
          go_wp2
          go_region
          go_wp2
          go_roundw
          case rel => exact ⟨k + 1, C1 ++ [y], C2', by go_num, by omega, by omega, HR2, HSO, HSB.out⟩
          case measure => simp [intOf]; omega
        · have hK : ¬ (k : Int) < ((i - 1 : Nat) : Int) := by omega
          have HE : Hid (Owned strikeE 2 34 wr base A n c (P ++ (List.merge [x] LB leT ++ Q))) := Lib.hid (by
            have := HO.out
            have hc : C2 = [] := List.eq_nil_of_length_eq_zero (by have := HLC.out; have := HR.out.1; have := HM.out; omega)
            rw [HF.out, ← HR.out.2, hc]
            rw [hc] at this
            simpa using this)
          go_wp2
          (try simp only [Exit.inBlock, Exit.then]); refine bodyPost_ret (results_none rfl _ _ _) rfl ?_
          exact ⟨rfl, HE.out, hbw⟩
end Go.Proofs.Ythffeljicohpdaa
