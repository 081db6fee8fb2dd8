/- The walk through FnExactCheckFault: both sides give the same, the arguments are left alone. -/
import Derived.Test.YtmdmnjjlpefigaaCmeth
import Derived.Test.YtmdmnjjlpefigaaCfault
import Derived.Test.YtmdmnjjlpefigaaW20f
namespace Go.Proofs.Ytmdmnjjlpefigaa
set_option linter.unusedVariables false
set_option linter.unusedSimpArgs false
open Go.ChangeShapes Go.WideShapes Go.ChangeAt Go.RowKit Go.Deep
set_option maxHeartbeats 4000000 in
set_option maxRecDepth 100000 in
theorem law_CheckFault (nm : ByteArray) (st : Int) (A : Option Addr) (c : Nat) (l : List ByteArray) (kb ks : ByteArray) (t : ByteArray) (f0 f1 f2 f3 : Int) (w : World) (hnm : nm.size ≤ maxLen) (hst : -9223372036854775808 ≤ st ∧ st ≤ 9223372036854775807) (h : Recs strE 1 w A l) (hm : l.length ≤ 9223372036854775807) (hb : ∀ x ∈ l, x.size ≤ maxLen) (hkb : kb.size ≤ maxLen) (hks : ks.size ≤ maxLen) (ht : t.size ≤ maxLen) (hf0 : -9223372036854775808 ≤ f0 ∧ f0 ≤ 9223372036854775807) (hf1 : -9223372036854775808 ≤ f1 ∧ f1 ≤ 9223372036854775807) (hf2 : -9223372036854775808 ≤ f2 ∧ f2 ≤ 9223372036854775807) (hf3 : -9223372036854775808 ≤ f3 ∧ f3 ≤ 9223372036854775807) :
    Calls Try.prog 9 #[.agg #[.string nm, .int .i64 st, .slice A l.length c], .agg #[.string kb, .string ks], .string t, .agg #[.int .i64 f0, .int .i64 f1, .int .i64 f2, .int .i64 f3]] w fun e w' => e = .returned (.bool true) ∧ Below w.heap.size w w' := by
  obtain ⟨Z0, hZ0⟩ : ∃ z, z = szM nm l := ⟨_, rfl⟩
  obtain ⟨Z1, hZ1⟩ : ∃ z, z = szK kb ks := ⟨_, rfl⟩
  have y0 : (nm.size : Int) + szS l = Z0 := hZ0.symm
  have y1 : (kb.size : Int) + (ks.size : Int) = Z1 := hZ1.symm
  have y2 := szS_len l
  by_cases zt : (t.size : Int) ≤ 1048576
  · by_cases z0 : Z0 ≤ 1048576
    · by_cases z1 : Z1 ≤ 1048576 - Z0
      · have hs1 : ∀ s ∈ l, s.size ≤ 16777216 := fun s hs => by (have := szS_each l s hs; omega)
        have hnm1 : nm.size ≤ 16777216 := by omega
        have hkb1 : kb.size ≤ 16777216 := by omega
        have hks1 : ks.size ≤ 16777216 := by omega
        have hI : I64 st := by unfold I64; omega
        have hl1 : l.length ≤ 1048576 := by omega
        have ht1 : t.size ≤ 16777216 := by omega
        have HZ0 : Hid (leftV 1048576 (szM nm l) = 1048576 - Z0) := Lib.hid (by rw [← hZ0]; exact leftV_t z0)
        have HZ1 : Hid (leftV (1048576 - Z0) (szK kb ks) = 1048576 - Z0 - Z1) := Lib.hid (by rw [← hZ1]; exact leftV_t z1)
        have m0 : (0 : Int) ≤ 1048576 - Z0 := by omega
        have m1 : (0 : Int) ≤ 1048576 - Z0 - Z1 := by omega
        have p0 : 0 ≤ Z0 := by omega
        have p1 : 0 ≤ Z1 := by omega
        clear hZ0 hZ1 y0 y1
        have b0 : Below w.heap.size w (((w.alloc (.cells ⟨[.string nm, .int .i64 st, .slice A l.length c]⟩ 36)).alloc (.cells ⟨[.string kb, .string ks]⟩ 38)).alloc (.cells ⟨[.int .i64 f0, .int .i64 f1, .int .i64 f2, .int .i64 f3]⟩ 56)) := by (repeat' (first | (with_reducible exact Below.refl _ _) | (with_reducible assumption) | (with_reducible refine below_drewN ?_ _) | (with_reducible refine Below.drew ?_) | (with_reducible refine below_alloc ?_ _) | (with_reducible refine Below.alloc ?_ ?_ _) | (with_reducible refine Below.setCell ?_ ?_ _) | (with_reducible refine below_go ?_ (by with_reducible assumption)) | (with_reducible refine below_then (by with_reducible assumption) ?_ ?_) | go_size))
        have K0 := (((Blk.at_ w 36 [.string nm, .int .i64 st, .slice A l.length c] (b := w.heap.size) (by simp)).alloc (.cells ⟨[.string kb, .string ks]⟩ 38)).alloc (.cells ⟨[.int .i64 f0, .int .i64 f1, .int .i64 f2, .int .i64 f3]⟩ 56))
        have K1 := ((Blk.at_ (w.alloc (.cells ⟨[.string nm, .int .i64 st, .slice A l.length c]⟩ 36)) 38 [.string kb, .string ks] (b := w.heap.size + 1) (by simp)).alloc (.cells ⟨[.int .i64 f0, .int .i64 f1, .int .i64 f2, .int .i64 f3]⟩ 56))
        have K2 := (Blk.at_ ((w.alloc (.cells ⟨[.string nm, .int .i64 st, .slice A l.length c]⟩ 36)).alloc (.cells ⟨[.string kb, .string ks]⟩ 38)) 56 [.int .i64 f0, .int .i64 f1, .int .i64 f2, .int .i64 f3] (b := w.heap.size + 1 + 1) (by simp))
        go_in
        go_wp2_with fail
        obtain ⟨w0, hw0⟩ : ∃ u, u = (((w.alloc (.cells #[.string nm, .int .i64 st, .slice A l.length c] 36)).alloc (.cells #[.string kb, .string ks] 38)).alloc (.cells #[.int .i64 f0, .int .i64 f1, .int .i64 f2, .int .i64 f3] 56)) := ⟨_, rfl⟩
        rw [← hw0] at b0 K0 K1 K2 ⊢
        have z0 : w.heap.size + 3 ≤ w0.heap.size := by rw [hw0]; simp
        clear hw0
        have carry : Hid (∀ u : World, Below w0.heap.size w0 u → (u.cell? ⟨w.heap.size, 0, none⟩ = some (.string nm) ∧ u.cell? ⟨w.heap.size, 1, none⟩ = some (.int .i64 st) ∧ u.cell? ⟨w.heap.size, 2, none⟩ = some (.slice A l.length c)) ∧ (u.cell? ⟨w.heap.size + 1, 0, none⟩ = some (.string kb) ∧ u.cell? ⟨w.heap.size + 1, 1, none⟩ = some (.string ks)) ∧ (u.cell? ⟨w.heap.size + 1 + 1, 0, none⟩ = some (.int .i64 f0) ∧ u.cell? ⟨w.heap.size + 1 + 1, 1, none⟩ = some (.int .i64 f1) ∧ u.cell? ⟨w.heap.size + 1 + 1, 2, none⟩ = some (.int .i64 f2) ∧ u.cell? ⟨w.heap.size + 1 + 1, 3, none⟩ = some (.int .i64 f3))) := Lib.hid (fun u hu => by
          have J0 := K0.up hu; have J1 := K1.up hu; have J2 := K2.up hu
          exact ⟨⟨by simpa using J0.cell 0, by simpa using J0.cell 1, by simpa using J0.cell 2⟩, ⟨by simpa using J1.cell 0, by simpa using J1.cell 1⟩, ⟨by simpa using J2.cell 0, by simpa using J2.cell 1, by simpa using J2.cell 2, by simpa using J2.cell 3⟩⟩)
        clear K0 K1 K2
        have B0 := Below.refl w0.heap.size w0
        have H0 := b0
        obtain ⟨⟨k1_0_0, k1_0_1, k1_0_2⟩, ⟨k1_1_0, k1_1_1⟩, ⟨k1_2_0, k1_2_1, k1_2_2, k1_2_3⟩⟩ := carry.out _ B0
        refine (laws_szMethod rfl (h.below H0 (Nat.le_refl _)) (by omega) (by omega) hm hb hnm).mono ?_; rw [HZ0.out]; rintro e w1 ⟨rfl, hb1⟩
        clear k1_0_0 k1_0_1 k1_0_2 k1_1_0 k1_1_1 k1_2_0 k1_2_1 k1_2_2 k1_2_3
        have sz1 : w0.heap.size ≤ w1.heap.size := hb1.size
        have B1 := B0.trans (hb1.mono B0.size)
        have H1 := b0.trans (B1.mono b0.size)
        obtain ⟨⟨k2_0_0, k2_0_1, k2_0_2⟩, ⟨k2_1_0, k2_1_1⟩, ⟨k2_2_0, k2_2_1, k2_2_2, k2_2_3⟩⟩ := carry.out _ B1
        go_wp2_with fail
        refine (laws_szCalls (by omega) (by omega) hkb hks).mono ?_; rw [HZ1.out]; rintro e w2 ⟨rfl, hb2⟩
        clear k2_0_0 k2_0_1 k2_0_2 k2_1_0 k2_1_1 k2_2_0 k2_2_1 k2_2_2 k2_2_3
        have sz2 : w1.heap.size ≤ w2.heap.size := hb2.size
        have B2 := B1.trans (hb2.mono B1.size)
        have H2 := b0.trans (B2.mono b0.size)
        have HS := Lib.hid hs1
        go_wp2_with fail
        go_region_held3 (fun u => (u.cell? ⟨w.heap.size, 0, none⟩ = some (.string nm) ∧ u.cell? ⟨w.heap.size, 1, none⟩ = some (.int .i64 st) ∧ u.cell? ⟨w.heap.size, 2, none⟩ = some (.slice A l.length c)) ∧ (u.cell? ⟨w.heap.size + 1, 0, none⟩ = some (.string kb) ∧ u.cell? ⟨w.heap.size + 1, 1, none⟩ = some (.string ks)) ∧ (u.cell? ⟨w.heap.size + 1 + 1, 0, none⟩ = some (.int .i64 f0) ∧ u.cell? ⟨w.heap.size + 1 + 1, 1, none⟩ = some (.int .i64 f1) ∧ u.cell? ⟨w.heap.size + 1 + 1, 2, none⟩ = some (.int .i64 f2) ∧ u.cell? ⟨w.heap.size + 1 + 1, 3, none⟩ = some (.int .i64 f3))) (first | exact carry.out _ B6 | exact carry.out _ B5 | exact carry.out _ B4 | exact carry.out _ B3 | exact carry.out _ B2.drew) (first | (go_at_call 40; ((refine (spec_CheckFault rfl omW_5.recs (by omega) HS.out hnm1 hI hkb1 hks1 (Nat.le_refl _) ht1).mono ?_); rintro e w6 ⟨rfl, hb6⟩; have sz6 : w5.heap.size ≤ w6.heap.size := hb6.size; have B6 := B5.trans (hb6.mono B5.size); have H6 := b0.trans (B6.mono b0.size); have omW_6 := omW_5.up hb6)) | (go_at_call 41; ((refine (laws_toFault).mono ?_); rintro e w5 ⟨rfl, hb5⟩; have sz5 : w4.heap.size ≤ w5.heap.size := hb5.size; have B5 := B4.trans (hb5.mono B4.size); have H5 := b0.trans (B5.mono b0.size); have omW_5 := omW_4.up hb5)) | (go_at_call 31; ((refine (laws_toCalls).mono ?_); rintro e w4 ⟨rfl, hb4⟩; have sz4 : w3.heap.size ≤ w4.heap.size := hb4.size; have B4 := B3.trans (hb4.mono B3.size); have H4 := b0.trans (B4.mono b0.size); have omW_4 := omW.up hb4)) | (go_at_call 30; ((with_reducible refine (laws_toMethod (st := st) (nm := nm) rfl (h.below H2 (Nat.le_refl _)).drew (by omega)).mono ?_); rintro e w3 ⟨gomW, rfl, omW, hbd3⟩; have hb3 := below_of_drew hbd3; have sz3 : w2.heap.size ≤ w3.heap.size := hb3.size; have B3 := B2.trans (hb3.mono B2.size); have H3 := b0.trans (B3.mono b0.size))))
        obtain ⟨⟨k3_0_0, k3_0_1, k3_0_2⟩, ⟨k3_1_0, k3_1_1⟩, ⟨k3_2_0, k3_2_1, k3_2_2, k3_2_3⟩⟩ := carry.out _ B6
        go_wp2_with fail
        refine (laws_toMethod (st := st) (nm := nm) rfl (h.below H6 (Nat.le_refl _)) (by omega)).mono ?_; rintro e w7 ⟨gx, rfl, ox, hb7⟩
        clear k3_0_0 k3_0_1 k3_0_2 k3_1_0 k3_1_1 k3_2_0 k3_2_1 k3_2_2 k3_2_3
        have sz7 : w6.heap.size ≤ w7.heap.size := hb7.size
        have B7 := B6.trans (hb7.mono B6.size)
        have H7 := b0.trans (B7.mono b0.size)
        have omW_7 := omW_6.up hb7
        have rox := ox.range
        go_wp2_with fail
        have hb8 : Below w7.heap.size w7 (w7.alloc (.cells ⟨[.string nm, .int .i64 st, .slice (some ⟨gx, 0, none⟩) l.length l.length]⟩ 42)) := by (repeat' (first | (with_reducible exact Below.refl _ _) | (with_reducible assumption) | (with_reducible refine below_drewN ?_ _) | (with_reducible refine Below.drew ?_) | (with_reducible refine below_alloc ?_ _) | (with_reducible refine Below.alloc ?_ ?_ _) | (with_reducible refine Below.setCell ?_ ?_ _) | (with_reducible refine below_go ?_ (by with_reducible assumption)) | (with_reducible refine below_then (by with_reducible assumption) ?_ ?_) | go_size))
        have XD := Blk.at_ w7 42 [.string nm, .int .i64 st, .slice (some ⟨gx, 0, none⟩) l.length l.length] (b := w7.heap.size) rfl
        obtain ⟨w8, hw8⟩ : ∃ u, u = (w7.alloc (.cells #[.string nm, .int .i64 st, .slice (some ⟨gx, 0, none⟩) l.length l.length] 42)) := ⟨_, rfl⟩
        rw [← hw8] at hb8 XD ⊢
        clear hw8
        have sz8 : w7.heap.size ≤ w8.heap.size := hb8.size
        have B8 := B7.trans (hb8.mono B7.size)
        have H8 := b0.trans (B8.mono b0.size)
        have omW_8 := omW_7.up hb8
        have ox_8 := ox.up hb8
        have carryX : Hid (∀ u : World, Below w8.heap.size w8 u → u.cell? ⟨w7.heap.size, 0, none⟩ = some (.string nm) ∧ u.cell? ⟨w7.heap.size, 1, none⟩ = some (.int .i64 st) ∧ u.cell? ⟨w7.heap.size, 2, none⟩ = some (.slice (some ⟨gx, 0, none⟩) l.length l.length)) := Lib.hid (fun u hu => by
          have J := XD.up hu
          exact ⟨by simpa using J.cell 0, by simpa using J.cell 1, by simpa using J.cell 2⟩)
        clear XD
        have D8 := Below.refl w8.heap.size w8
        go_wp2_with fail
        go_region_held3 (fun u => (u.cell? ⟨w.heap.size, 0, none⟩ = some (.string nm) ∧ u.cell? ⟨w.heap.size, 1, none⟩ = some (.int .i64 st) ∧ u.cell? ⟨w.heap.size, 2, none⟩ = some (.slice A l.length c)) ∧ (u.cell? ⟨w.heap.size + 1, 0, none⟩ = some (.string kb) ∧ u.cell? ⟨w.heap.size + 1, 1, none⟩ = some (.string ks)) ∧ (u.cell? ⟨w.heap.size + 1 + 1, 0, none⟩ = some (.int .i64 f0) ∧ u.cell? ⟨w.heap.size + 1 + 1, 1, none⟩ = some (.int .i64 f1) ∧ u.cell? ⟨w.heap.size + 1 + 1, 2, none⟩ = some (.int .i64 f2) ∧ u.cell? ⟨w.heap.size + 1 + 1, 3, none⟩ = some (.int .i64 f3)) ∧ (u.cell? ⟨w7.heap.size, 0, none⟩ = some (.string nm) ∧ u.cell? ⟨w7.heap.size, 1, none⟩ = some (.int .i64 st) ∧ u.cell? ⟨w7.heap.size, 2, none⟩ = some (.slice (some ⟨gx, 0, none⟩) l.length l.length))) (first | exact ⟨(carry.out _ B11).1, (carry.out _ B11).2.1, (carry.out _ B11).2.2, (carryX.out _ D11)⟩ | exact ⟨(carry.out _ B10).1, (carry.out _ B10).2.1, (carry.out _ B10).2.2, (carryX.out _ D10)⟩ | exact ⟨(carry.out _ B9).1, (carry.out _ B9).2.1, (carry.out _ B9).2.2, (carryX.out _ D9)⟩ | exact ⟨(carry.out _ B8.drew).1, (carry.out _ B8.drew).2.1, (carry.out _ B8.drew).2.2, (carryX.out _ D8.drew)⟩) (first | (go_at_call 42; ((refine (impl_CheckFault rfl ox_10.recs (by omega) HS.out hnm1 hI hkb1 hks1  ht1).mono ?_); rintro e w11 ⟨rfl, hb11⟩; have sz11 : w10.heap.size ≤ w11.heap.size := hb11.size; have B11 := B10.trans (hb11.mono B10.size); have H11 := b0.trans (B11.mono b0.size); have omW_11 := omW_10.up hb11; have ox_11 := ox_10.up hb11; have D11 := D10.trans (hb11.mono D10.size))) | (go_at_call 41; ((refine (laws_toFault).mono ?_); rintro e w10 ⟨rfl, hb10⟩; have sz10 : w9.heap.size ≤ w10.heap.size := hb10.size; have B10 := B9.trans (hb10.mono B9.size); have H10 := b0.trans (B10.mono b0.size); have omW_10 := omW_9.up hb10; have ox_10 := ox_9.up hb10; have D10 := D9.trans (hb10.mono D9.size))) | (go_at_call 31; ((refine (laws_toCalls).mono ?_); rintro e w9 ⟨rfl, hbd9⟩; have hb9 := below_of_drew hbd9; have sz9 : w8.heap.size ≤ w9.heap.size := hb9.size; have B9 := B8.trans (hb9.mono B8.size); have H9 := b0.trans (B9.mono b0.size); have omW_9 := omW_8.up hb9; have ox_9 := ox_8.up hb9; have D9 := D8.trans (hb9.mono D8.size))))
        go_wp2_with fail
        go_region_held3 (fun u => (u.cell? ⟨w.heap.size, 0, none⟩ = some (.string nm) ∧ u.cell? ⟨w.heap.size, 1, none⟩ = some (.int .i64 st) ∧ u.cell? ⟨w.heap.size, 2, none⟩ = some (.slice A l.length c)) ∧ (u.cell? ⟨w.heap.size + 1, 0, none⟩ = some (.string kb) ∧ u.cell? ⟨w.heap.size + 1, 1, none⟩ = some (.string ks)) ∧ (u.cell? ⟨w.heap.size + 1 + 1, 0, none⟩ = some (.int .i64 f0) ∧ u.cell? ⟨w.heap.size + 1 + 1, 1, none⟩ = some (.int .i64 f1) ∧ u.cell? ⟨w.heap.size + 1 + 1, 2, none⟩ = some (.int .i64 f2) ∧ u.cell? ⟨w.heap.size + 1 + 1, 3, none⟩ = some (.int .i64 f3)) ∧ (u.cell? ⟨w7.heap.size, 0, none⟩ = some (.string nm) ∧ u.cell? ⟨w7.heap.size, 1, none⟩ = some (.int .i64 st) ∧ u.cell? ⟨w7.heap.size, 2, none⟩ = some (.slice (some ⟨gx, 0, none⟩) l.length l.length))) (first | exact ⟨(carry.out _ B13).1, (carry.out _ B13).2.1, (carry.out _ B13).2.2, (carryX.out _ D13)⟩ | exact ⟨(carry.out _ B12).1, (carry.out _ B12).2.1, (carry.out _ B12).2.2, (carryX.out _ D12)⟩ | exact ⟨(carry.out _ B11.drew).1, (carry.out _ B11.drew).2.1, (carry.out _ B11.drew).2.2, (carryX.out _ D11.drew)⟩) (first | (go_at_call 33; ((refine (laws_eqMethod rfl ox_12.recs ot.recs (by omega)).mono ?_); rintro e w13 ⟨rfl, hb13⟩; have sz13 : w12.heap.size ≤ w13.heap.size := hb13.size; have B13 := B12.trans (hb13.mono B12.size); have H13 := b0.trans (B13.mono b0.size); have omW_13 := omW_12.up hb13; have ox_13 := ox_12.up hb13; have ot_13 := ot.up hb13; have D13 := D12.trans (hb13.mono D12.size))) | (go_at_call 30; ((with_reducible refine (laws_toMethod (st := st) (nm := nm) rfl (h.below H11 (Nat.le_refl _)).drew (by omega)).mono ?_); rintro e w12 ⟨gt, rfl, ot, hbd12⟩; have hb12 := below_of_drew hbd12; have sz12 : w11.heap.size ≤ w12.heap.size := hb12.size; have B12 := B11.trans (hb12.mono B11.size); have H12 := b0.trans (B12.mono b0.size); have omW_12 := omW_11.up hb12; have ox_12 := ox_11.up hb12; have D12 := D11.trans (hb12.mono D11.size))))
        go_wp2
        go_ret
        exact ⟨rfl, H13⟩
      · unfold maxLen at ht
        have HZ0 : Hid (leftV 1048576 (szM nm l) = 1048576 - Z0) := Lib.hid (by rw [← hZ0]; exact leftV_t z0)
        have m0 : (0 : Int) ≤ 1048576 - Z0 := by omega
        have p0 : 0 ≤ Z0 := by omega
        have HZ1 : Hid (leftV (1048576 - Z0) (szK kb ks) = -1) := Lib.hid (by rw [← hZ1]; exact leftV_f (by omega))
        clear hZ0 hZ1 y0 y1
        have b0 : Below w.heap.size w (((w.alloc (.cells ⟨[.string nm, .int .i64 st, .slice A l.length c]⟩ 36)).alloc (.cells ⟨[.string kb, .string ks]⟩ 38)).alloc (.cells ⟨[.int .i64 f0, .int .i64 f1, .int .i64 f2, .int .i64 f3]⟩ 56)) := by (repeat' (first | (with_reducible exact Below.refl _ _) | (with_reducible assumption) | (with_reducible refine below_drewN ?_ _) | (with_reducible refine Below.drew ?_) | (with_reducible refine below_alloc ?_ _) | (with_reducible refine Below.alloc ?_ ?_ _) | (with_reducible refine Below.setCell ?_ ?_ _) | (with_reducible refine below_go ?_ (by with_reducible assumption)) | (with_reducible refine below_then (by with_reducible assumption) ?_ ?_) | go_size))
        have K0 := (((Blk.at_ w 36 [.string nm, .int .i64 st, .slice A l.length c] (b := w.heap.size) (by simp)).alloc (.cells ⟨[.string kb, .string ks]⟩ 38)).alloc (.cells ⟨[.int .i64 f0, .int .i64 f1, .int .i64 f2, .int .i64 f3]⟩ 56))
        have K1 := ((Blk.at_ (w.alloc (.cells ⟨[.string nm, .int .i64 st, .slice A l.length c]⟩ 36)) 38 [.string kb, .string ks] (b := w.heap.size + 1) (by simp)).alloc (.cells ⟨[.int .i64 f0, .int .i64 f1, .int .i64 f2, .int .i64 f3]⟩ 56))
        have K2 := (Blk.at_ ((w.alloc (.cells ⟨[.string nm, .int .i64 st, .slice A l.length c]⟩ 36)).alloc (.cells ⟨[.string kb, .string ks]⟩ 38)) 56 [.int .i64 f0, .int .i64 f1, .int .i64 f2, .int .i64 f3] (b := w.heap.size + 1 + 1) (by simp))
        go_in
        go_wp2_with fail
        obtain ⟨w0, hw0⟩ : ∃ u, u = (((w.alloc (.cells #[.string nm, .int .i64 st, .slice A l.length c] 36)).alloc (.cells #[.string kb, .string ks] 38)).alloc (.cells #[.int .i64 f0, .int .i64 f1, .int .i64 f2, .int .i64 f3] 56)) := ⟨_, rfl⟩
        rw [← hw0] at b0 K0 K1 K2 ⊢
        have z0 : w.heap.size + 3 ≤ w0.heap.size := by rw [hw0]; simp
        clear hw0
        have carry : Hid (∀ u : World, Below w0.heap.size w0 u → (u.cell? ⟨w.heap.size, 0, none⟩ = some (.string nm) ∧ u.cell? ⟨w.heap.size, 1, none⟩ = some (.int .i64 st) ∧ u.cell? ⟨w.heap.size, 2, none⟩ = some (.slice A l.length c)) ∧ (u.cell? ⟨w.heap.size + 1, 0, none⟩ = some (.string kb) ∧ u.cell? ⟨w.heap.size + 1, 1, none⟩ = some (.string ks)) ∧ (u.cell? ⟨w.heap.size + 1 + 1, 0, none⟩ = some (.int .i64 f0) ∧ u.cell? ⟨w.heap.size + 1 + 1, 1, none⟩ = some (.int .i64 f1) ∧ u.cell? ⟨w.heap.size + 1 + 1, 2, none⟩ = some (.int .i64 f2) ∧ u.cell? ⟨w.heap.size + 1 + 1, 3, none⟩ = some (.int .i64 f3))) := Lib.hid (fun u hu => by
          have J0 := K0.up hu; have J1 := K1.up hu; have J2 := K2.up hu
          exact ⟨⟨by simpa using J0.cell 0, by simpa using J0.cell 1, by simpa using J0.cell 2⟩, ⟨by simpa using J1.cell 0, by simpa using J1.cell 1⟩, ⟨by simpa using J2.cell 0, by simpa using J2.cell 1, by simpa using J2.cell 2, by simpa using J2.cell 3⟩⟩)
        clear K0 K1 K2
        have B0 := Below.refl w0.heap.size w0
        have H0 := b0
        obtain ⟨⟨k1_0_0, k1_0_1, k1_0_2⟩, ⟨k1_1_0, k1_1_1⟩, ⟨k1_2_0, k1_2_1, k1_2_2, k1_2_3⟩⟩ := carry.out _ B0
        refine (laws_szMethod rfl (h.below H0 (Nat.le_refl _)) (by omega) (by omega) hm hb hnm).mono ?_; rw [HZ0.out]; rintro e w1 ⟨rfl, hb1⟩
        clear k1_0_0 k1_0_1 k1_0_2 k1_1_0 k1_1_1 k1_2_0 k1_2_1 k1_2_2 k1_2_3
        have sz1 : w0.heap.size ≤ w1.heap.size := hb1.size
        have B1 := B0.trans (hb1.mono B0.size)
        have H1 := b0.trans (B1.mono b0.size)
        obtain ⟨⟨k2_0_0, k2_0_1, k2_0_2⟩, ⟨k2_1_0, k2_1_1⟩, ⟨k2_2_0, k2_2_1, k2_2_2, k2_2_3⟩⟩ := carry.out _ B1
        go_wp2_with fail
        refine (laws_szCalls (by omega) (by omega) hkb hks).mono ?_; rw [HZ1.out]; rintro e w2 ⟨rfl, hb2⟩
        go_wp2
        go_ret
        exact ⟨rfl, below_go H1 hb2⟩
    · unfold maxLen at ht
      have HZ0 : Hid (leftV 1048576 (szM nm l) = -1) := Lib.hid (by rw [← hZ0]; exact leftV_f (by omega))
      clear hZ0 hZ1 y0 y1
      have b0 : Below w.heap.size w (((w.alloc (.cells ⟨[.string nm, .int .i64 st, .slice A l.length c]⟩ 36)).alloc (.cells ⟨[.string kb, .string ks]⟩ 38)).alloc (.cells ⟨[.int .i64 f0, .int .i64 f1, .int .i64 f2, .int .i64 f3]⟩ 56)) := by (repeat' (first | (with_reducible exact Below.refl _ _) | (with_reducible assumption) | (with_reducible refine below_drewN ?_ _) | (with_reducible refine Below.drew ?_) | (with_reducible refine below_alloc ?_ _) | (with_reducible refine Below.alloc ?_ ?_ _) | (with_reducible refine Below.setCell ?_ ?_ _) | (with_reducible refine below_go ?_ (by with_reducible assumption)) | (with_reducible refine below_then (by with_reducible assumption) ?_ ?_) | go_size))
      have K0 := (((Blk.at_ w 36 [.string nm, .int .i64 st, .slice A l.length c] (b := w.heap.size) (by simp)).alloc (.cells ⟨[.string kb, .string ks]⟩ 38)).alloc (.cells ⟨[.int .i64 f0, .int .i64 f1, .int .i64 f2, .int .i64 f3]⟩ 56))
      have K1 := ((Blk.at_ (w.alloc (.cells ⟨[.string nm, .int .i64 st, .slice A l.length c]⟩ 36)) 38 [.string kb, .string ks] (b := w.heap.size + 1) (by simp)).alloc (.cells ⟨[.int .i64 f0, .int .i64 f1, .int .i64 f2, .int .i64 f3]⟩ 56))
      have K2 := (Blk.at_ ((w.alloc (.cells ⟨[.string nm, .int .i64 st, .slice A l.length c]⟩ 36)).alloc (.cells ⟨[.string kb, .string ks]⟩ 38)) 56 [.int .i64 f0, .int .i64 f1, .int .i64 f2, .int .i64 f3] (b := w.heap.size + 1 + 1) (by simp))
      go_in
      go_wp2_with fail
      obtain ⟨w0, hw0⟩ : ∃ u, u = (((w.alloc (.cells #[.string nm, .int .i64 st, .slice A l.length c] 36)).alloc (.cells #[.string kb, .string ks] 38)).alloc (.cells #[.int .i64 f0, .int .i64 f1, .int .i64 f2, .int .i64 f3] 56)) := ⟨_, rfl⟩
      rw [← hw0] at b0 K0 K1 K2 ⊢
      have z0 : w.heap.size + 3 ≤ w0.heap.size := by rw [hw0]; simp
      clear hw0
      have carry : Hid (∀ u : World, Below w0.heap.size w0 u → (u.cell? ⟨w.heap.size, 0, none⟩ = some (.string nm) ∧ u.cell? ⟨w.heap.size, 1, none⟩ = some (.int .i64 st) ∧ u.cell? ⟨w.heap.size, 2, none⟩ = some (.slice A l.length c)) ∧ (u.cell? ⟨w.heap.size + 1, 0, none⟩ = some (.string kb) ∧ u.cell? ⟨w.heap.size + 1, 1, none⟩ = some (.string ks)) ∧ (u.cell? ⟨w.heap.size + 1 + 1, 0, none⟩ = some (.int .i64 f0) ∧ u.cell? ⟨w.heap.size + 1 + 1, 1, none⟩ = some (.int .i64 f1) ∧ u.cell? ⟨w.heap.size + 1 + 1, 2, none⟩ = some (.int .i64 f2) ∧ u.cell? ⟨w.heap.size + 1 + 1, 3, none⟩ = some (.int .i64 f3))) := Lib.hid (fun u hu => by
        have J0 := K0.up hu; have J1 := K1.up hu; have J2 := K2.up hu
        exact ⟨⟨by simpa using J0.cell 0, by simpa using J0.cell 1, by simpa using J0.cell 2⟩, ⟨by simpa using J1.cell 0, by simpa using J1.cell 1⟩, ⟨by simpa using J2.cell 0, by simpa using J2.cell 1, by simpa using J2.cell 2, by simpa using J2.cell 3⟩⟩)
      clear K0 K1 K2
      have B0 := Below.refl w0.heap.size w0
      have H0 := b0
      obtain ⟨⟨k1_0_0, k1_0_1, k1_0_2⟩, ⟨k1_1_0, k1_1_1⟩, ⟨k1_2_0, k1_2_1, k1_2_2, k1_2_3⟩⟩ := carry.out _ B0
      refine (laws_szMethod rfl (h.below H0 (Nat.le_refl _)) (by omega) (by omega) hm hb hnm).mono ?_; rw [HZ0.out]; rintro e w1 ⟨rfl, hb1⟩
      go_wp2
      go_ret
      exact ⟨rfl, below_go H0 hb1⟩
  · clear hZ0 hZ1 y0 y1
    unfold maxLen at ht
    have hT : (1048576 : Int) < (t.size : Int) := by omega
    go_in
    go_wp2
    go_ret
    exact ⟨rfl, by (repeat' (first | (with_reducible exact Below.refl _ _) | (with_reducible assumption) | (with_reducible refine below_drewN ?_ _) | (with_reducible refine Below.drew ?_) | (with_reducible refine below_alloc ?_ _) | (with_reducible refine Below.alloc ?_ ?_ _) | (with_reducible refine Below.setCell ?_ ?_ _) | (with_reducible refine below_go ?_ (by with_reducible assumption)) | (with_reducible refine below_then (by with_reducible assumption) ?_ ?_) | go_size))⟩
end Go.Proofs.Ytmdmnjjlpefigaa
