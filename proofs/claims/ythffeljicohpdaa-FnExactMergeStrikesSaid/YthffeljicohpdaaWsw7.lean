/- The walk through the library's stable sort, at strikes. -/
import Derived.Test.YthffeljicohpdaaWsw6
import Derived.Test.YthffeljicohpdaaP21w
namespace Go.Proofs.Ythffeljicohpdaa
set_option linter.unusedVariables false
set_option linter.unusedSimpArgs false
open Go.ChangeShapes Go.WideShapes Go.ChangeAt Go.RowKit Go.Deep
set_option maxHeartbeats 4000000 in
set_option maxRecDepth 100000 in
theorem sl_stable {A : Option Addr} {n c base : Nat} {L : List (Int × Int)} {w : World} (hO : Owned strikeE 2 34 w base A n c L) (hz : n ≤ 16777216) (hbase : base ≤ w.heap.size) (hT : midT L) :
    Calls Try.prog 23 #[.slice A n c, .int .i64 n, .func (.func 17) #[] #[]] w fun e w' => e = .returned (.tuple #[]) ∧ Owned strikeE 2 34 w' base A n c (stT L) ∧ Below base w w' := by
  have hL := hO.len
  have HL := Lib.hid hL
  have HT := Lib.hid hT
  clear hL hT
  go_in
  go_wp2
  go_loopw [7, 8] (fun v u wr => ∃ (a : Nat) (L1 L2 D1 : List (Int × Int)), v = .int .i64 a ∧ u = .int .i64 (a + 20 : Nat) ∧ a ≤ n ∧ Hid (L = L1 ++ L2 ∧ L1.length = a ∧ FullT 20 L1 D1) ∧ Hid (Owned strikeE 2 34 wr base A n c (D1 ++ L2)) ∧ Below base w wr) (fun v _ _ => n + 1 - (intOf v).toNat)
  case atStart => exact ⟨0, [], L, [], by go_num, by go_num, Nat.zero_le _, Lib.hid ⟨rfl, rfl, .nil⟩, Lib.hid hO, Below.refl _ _⟩
  case round =>
    obtain ⟨a, L1, L2, D1, rfl, rfl, han, HR, HO, hbw⟩ := hrel
    rename World => wr
    have hsw : base ≤ wr.heap.size := Nat.le_trans hbase hbw.size
    by_cases hlt : a + 20 ≤ n
    · have hI : ((a + 20 : Nat) : Int) ≤ (n : Int) := by omega
      obtain ⟨X, L3, hX, hX1, _⟩ := cut_at (l := L2) (k := 20) (by have := HL.out; rw [HR.out.1, List.length_append] at this; have := HR.out.2.1; omega)
      have HX := Lib.hid hX
      have HX1 := Lib.hid hX1
      have HO1 : Hid (Owned strikeE 2 34 wr base A n c (D1 ++ (X ++ L3))) := Lib.hid (by rw [← HX.out]; exact HO.out)
      have HD : Hid (D1.length = a) := Lib.hid (by rw [HR.out.2.2.len]; exact HR.out.2.1)
      have HTX : Hid (midT X) := Lib.hid (by have := HT.out; rw [HR.out.1, HX.out] at this; exact (midT_app (midT_app this).2).1)
      clear hX hX1
      go_wp2_with fail
      refine (sl_insertion HO1.out hz HD.out (by rw [HX1.out]) hsw HTX.out).mono ?_; rintro e w2 ⟨rfl, ho2, hb2⟩
      have HO2 : Hid (Owned strikeE 2 34 w2 base A n c ((D1 ++ stT X) ++ L3)) := Lib.hid (by rw [List.append_assoc]; exact ho2)
      have HR2 : Hid (L = (L1 ++ X) ++ L3 ∧ (L1 ++ X).length = a + 20 ∧ FullT 20 (L1 ++ X) (D1 ++ stT X)) := Lib.hid ⟨by rw [HR.out.1, HX.out, List.append_assoc], by rw [List.length_append, HR.out.2.1, HX1.out], .snoc HR.out.2.2 HX1.out⟩
      have HB2 := Lib.hid (hbw.trans hb2)
      clear ho2 hb2
      go_wp2
      go_roundw
      case rel => exact ⟨a + 20, L1 ++ X, L3, D1 ++ stT X, by go_num, by go_num, hlt, HR2, HO2, HB2.out⟩
      case measure => simp [intOf]; omega
    · have hI : ¬ ((a + 20 : Nat) : Int) ≤ (n : Int) := by omega
      have HD : Hid (D1.length = a) := Lib.hid (by rw [HR.out.2.2.len]; exact HR.out.2.1)
      have HN : Hid (a + L2.length = n) := Lib.hid (by have := HL.out; rw [HR.out.1, List.length_append, HR.out.2.1] at this; exact this)
      have HTX : Hid (midT L2) := Lib.hid (by have := HT.out; rw [HR.out.1] at this; exact (midT_app this).2)
      have HO1 : Hid (Owned strikeE 2 34 wr base A n c (D1 ++ (L2 ++ []))) := Lib.hid (by rw [List.append_nil]; exact HO.out)
      have HBK : Hid (BlkT 20 L (D1 ++ stT L2)) := Lib.hid (by rw [HR.out.1]; exact HR.out.2.2.join (.last (by have := HN.out; omega)))
      go_wp2_with fail
      refine (sl_insertion HO1.out hz HD.out HN.out hsw HTX.out).mono ?_; rintro e w2 ⟨rfl, ho2, hb2⟩
      have HO2 : Hid (Owned strikeE 2 34 w2 base A n c (D1 ++ stT L2)) := Lib.hid (by rw [List.append_nil] at ho2; exact ho2)
      have hbw2 := hbw.trans hb2
      clear ho2 hb2 HO HO1 hbw HD HTX hI hlt
      go_wp2
      go_loopw [6, 7, 8, 9] (fun v _ _ _ wr => ∃ (s : Nat) (D : List (Int × Int)), v = .int .i64 s ∧ 0 < s ∧ s ≤ 33554432 ∧ Hid (BlkT s L D) ∧ Hid (Owned strikeE 2 34 wr base A n c D) ∧ Below base w wr) (fun v _ _ _ _ => n - (intOf v).toNat)
      case atStart => exact ⟨20, _, by go_num, by omega, by omega, HBK, HO2, hbw2⟩
      case round =>
        clear HO2 hbw2 HBK
        obtain ⟨s, D, rfl, hs0, hs1, HBK, HO, hbw⟩ := hrel
        rename World => wo
        by_cases hsn : s < n
        · have hI : (s : Int) < (n : Int) := by omega
          have h2s : (2 : Int) * (s : Int) = ((2 * s : Nat) : Int) := by omega
          have hs2 : (s : Int) * 2 = ((2 * s : Nat) : Int) := by omega
          obtain ⟨z, hz2⟩ : ∃ z, z = 2 * s := ⟨_, rfl⟩
          rw [← hz2] at h2s hs2
          have HZ := Lib.hid hz2
          clear hz2
          go_wp2
          go_loopw [7, 8] (fun v u wr => ∃ (a b : Nat) (L1 L2 D1 D2 : List (Int × Int)), v = .int .i64 a ∧ u = .int .i64 b ∧ a + z = b ∧ a ≤ n ∧ Hid (L = L1 ++ L2 ∧ L1.length = a ∧ FullT z L1 D1 ∧ BlkT s L2 D2) ∧ Hid (Owned strikeE 2 34 wr base A n c (D1 ++ D2)) ∧ Below base w wr) (fun v _ _ => n + 1 - (intOf v).toNat)
          case atStart => exact ⟨0, z, [], L, [], D, by go_num, rfl, by omega, Nat.zero_le _, Lib.hid ⟨rfl, rfl, .nil, HBK.out⟩, HO, hbw⟩
          case round =>
            clear HO hbw HBK
            obtain ⟨a, b, L1, L2, D1, D2, rfl, rfl, hab, han2, HR2, HO, hbw⟩ := hrel
            rename World => wr
            have hsw : base ≤ wr.heap.size := Nat.le_trans hbase hbw.size
            have HAB := Lib.hid hab
            have hzs : z = 2 * s := HZ.out
            have HD : Hid (D1.length = a) := Lib.hid (by rw [HR2.out.2.2.1.len]; exact HR2.out.2.1)
            have HN2 : Hid (a + L2.length = n) := Lib.hid (by have := HL.out; rw [HR2.out.1, List.length_append, HR2.out.2.1] at this; exact this)
            by_cases hbn : b ≤ n
            · have hI : (b : Int) ≤ (n : Int) := by omega
              obtain ⟨X, l1, d1, hX, hl1, hd1, hB1⟩ := HR2.out.2.2.2.uncons (by have := HN2.out; omega)
              obtain ⟨Y, l2, d2, hY, hl2, hd2, hB2⟩ := hB1.uncons (by have := HN2.out; rw [hl1, List.length_append] at this; omega)
              have HX := Lib.hid hX
              have HY := Lib.hid hY
              have HLL : Hid (L2 = X ++ (Y ++ l2)) := Lib.hid (by rw [hl1, hl2])
              have HBB := Lib.hid hB2
              have HO1 : Hid (Owned strikeE 2 34 wr base A n c (D1 ++ (stT X ++ (stT Y ++ d2)))) := Lib.hid (by rw [← hd2, ← hd1]; exact HO.out)
              have HTX : Hid (midT X ∧ midT Y) := Lib.hid (by
                have := HT.out
                rw [HR2.out.1, HLL.out] at this
                have := (midT_app this).2
                exact ⟨(midT_app this).1, (midT_app (midT_app this).2).1⟩)
              obtain ⟨m, hm⟩ : ∃ m, a + s = m := ⟨_, rfl⟩
              have hmI : (a : Int) + (s : Int) = (m : Int) := by omega
              have HM := Lib.hid hm
              clear hX hY hl1 hl2 hd1 hd2 hB1 hB2 HO hm hab hzs
              go_wp2_with fail
              refine (sl_symMerge (s + s) A n c base a m b D1 (stT X) (stT Y) d2 wr HO1.out hz HD.out (by rw [stT_len, HX.out]; exact HM.out) (by have := HAB.out; have := HZ.out; have := HM.out; rw [stT_len, HY.out]; omega) (by rw [stT_len, HX.out]; exact hs0) (by rw [stT_len, HY.out]; exact hs0) hsw (midT_stT HTX.out.1) (midT_stT HTX.out.2) (stT_srt _) (stT_srt _) (by rw [stT_len, stT_len, HX.out, HY.out]; exact Nat.le_refl _)).mono ?_; rintro e w3 ⟨rfl, ho3, hb3⟩
              have HO3 : Hid (Owned strikeE 2 34 w3 base A n c ((D1 ++ stT (X ++ Y)) ++ d2)) := Lib.hid (by rw [stT_app, List.append_assoc]; exact ho3)
              have HR3 : Hid (L = (L1 ++ (X ++ Y)) ++ l2 ∧ (L1 ++ (X ++ Y)).length = b ∧ FullT z (L1 ++ (X ++ Y)) (D1 ++ stT (X ++ Y)) ∧ BlkT s l2 d2) := Lib.hid ⟨by rw [HR2.out.1, HLL.out]; simp, by rw [List.length_append, List.length_append, HR2.out.2.1, HX.out, HY.out]; have := HAB.out; have := HZ.out; omega, .snoc HR2.out.2.2.1 (by rw [List.length_append, HX.out, HY.out]; have := HZ.out; omega), HBB.out⟩
              have HB3 := Lib.hid (hbw.trans hb3)
              have hz0 : 0 < z := by have := HZ.out; omega
              have hab' : a < b := by have := HAB.out; omega
              clear ho3 hb3
              go_wp2
              go_roundw
              case rel => exact ⟨b, b + z, L1 ++ (X ++ Y), l2, D1 ++ stT (X ++ Y), d2, rfl, by go_num, rfl, hbn, HR3, HO3, HB3.out⟩
              case measure => simp [intOf]; omega
            · have hI : ¬ (b : Int) ≤ (n : Int) := by omega
              obtain ⟨m, hm⟩ : ∃ m, a + s = m := ⟨_, rfl⟩
              have hmI : (a : Int) + (s : Int) = (m : Int) := by omega
              have HM := Lib.hid hm
              by_cases hmn : m < n
              · have hJ : (m : Int) < (n : Int) := by omega
                obtain ⟨X, l1, d1, hX, hl1, hd1, hB1⟩ := HR2.out.2.2.2.uncons (by have := HN2.out; omega)
                have hll : X.length + l1.length = L2.length := by rw [hl1, List.length_append]
                have hd2 := hB1.small hs0 (by have := HN2.out; omega)
                have HX := Lib.hid hX
                have HLN : Hid (s + l1.length = L2.length) := Lib.hid (by rw [← hX]; exact hll)
                have HLL : Hid (L2 = X ++ l1) := Lib.hid hl1
                have HO1 : Hid (Owned strikeE 2 34 wr base A n c (D1 ++ (stT X ++ (stT l1 ++ [])))) := Lib.hid (by rw [← hd2, List.append_nil, ← hd1]; exact HO.out)
                have HTX : Hid (midT X ∧ midT l1) := Lib.hid (by
                  have := HT.out
                  rw [HR2.out.1, hl1] at this
                  exact midT_app (midT_app this).2)
                clear hX hl1 hd1 hd2 hB1 HO hm hab hzs hll
                go_wp2_with fail
                refine (sl_symMerge L2.length A n c base a m n D1 (stT X) (stT l1) [] wr HO1.out hz HD.out (by rw [stT_len, HX.out]; exact HM.out) (by have := HN2.out; have := HLN.out; have := HM.out; rw [stT_len]; omega) (by rw [stT_len, HX.out]; exact hs0) (by have := HN2.out; have := HLN.out; have := HM.out; rw [stT_len]; omega) hsw (midT_stT HTX.out.1) (midT_stT HTX.out.2) (stT_srt _) (stT_srt _) (by rw [stT_len, stT_len, HX.out, HLN.out]; exact Nat.le_refl _)).mono ?_; rintro e w3 ⟨rfl, ho3, hb3⟩
                have HO3 : Hid (Owned strikeE 2 34 w3 base A n c (D1 ++ stT L2)) := Lib.hid (by rw [HLL.out, stT_app]; rw [List.append_nil] at ho3; exact ho3)
                have HR3 : Hid (BlkT z L (D1 ++ stT L2)) := Lib.hid (by rw [HR2.out.1]; exact HR2.out.2.2.1.join (.last (by have := HN2.out; have := HAB.out; omega)))
                have HB3 := Lib.hid (hbw.trans hb3)
                have hz1 : s < z ∧ z ≤ 33554432 := by have := HZ.out; omega
                clear ho3 hb3
                go_wp2
                go_roundw
                case rel => exact ⟨z, _, rfl, by omega, by omega, HR3, HO3, HB3.out⟩
                case measure => simp [intOf]; omega
              · have hJ : ¬ (m : Int) < (n : Int) := by omega
                have hd2 := HR2.out.2.2.2.small hs0 (by have := HN2.out; omega)
                have HO3 : Hid (Owned strikeE 2 34 wr base A n c (D1 ++ stT L2)) := Lib.hid (by rw [← hd2]; exact HO.out)
                have HR3 : Hid (BlkT z L (D1 ++ stT L2)) := Lib.hid (by rw [HR2.out.1]; exact HR2.out.2.2.1.join (.last (by have := HN2.out; omega)))
                have hz1 : s < z ∧ z ≤ 33554432 := by have := HZ.out; omega
                clear hd2 hm hab hzs HO
                go_wp2
                go_roundw
                case rel => exact ⟨z, _, rfl, by omega, by omega, HR3, HO3, hbw⟩
                case measure => simp [intOf]; omega
        · have hI : ¬ (s : Int) < (n : Int) := by omega
          have HF : Hid (Owned strikeE 2 34 wo base A n c (stT L)) := Lib.hid (by
            have := HBK.out.small hs0 (by rw [HL.out]; omega)
            rw [← this]; exact HO.out)
          go_wp2
          go_end0
          exact ⟨rfl, HF.out, hbw⟩
end Go.Proofs.Ythffeljicohpdaa
