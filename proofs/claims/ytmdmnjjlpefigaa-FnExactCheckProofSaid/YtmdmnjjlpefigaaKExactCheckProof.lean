/- The walk through FnExactCheckProof: both sides give the same, the arguments are left alone. -/
import Derived.Test.YtmdmnjjlpefigaaCmeth
import Derived.Test.YtmdmnjjlpefigaaCline
import Derived.Test.YtmdmnjjlpefigaaW20
import Derived.Test.YtmdmnjjlpefigaaW20l
namespace Go.Proofs.Ytmdmnjjlpefigaa
set_option linter.unusedVariables false
set_option linter.unusedSimpArgs false
open Go.ChangeShapes Go.WideShapes Go.ChangeAt Go.RowKit Go.Deep
set_option maxHeartbeats 4000000 in
set_option maxRecDepth 100000 in
theorem law_CheckProof (nm : ByteArray) (st : Int) (A : Option Addr) (c : Nat) (l : List ByteArray) (kb ks : ByteArray) (t : ByteArray) (AH : Option Addr) (cH : Nat) (lH : List ByteArray) (AL : Option Addr) (cL : Nat) (lL : List Line3) (w : World) (hnm : nm.size ≤ maxLen) (hst : -9223372036854775808 ≤ st ∧ st ≤ 9223372036854775807) (h : Recs strE 1 w A l) (hm : l.length ≤ 9223372036854775807) (hb : ∀ x ∈ l, x.size ≤ maxLen) (hkb : kb.size ≤ maxLen) (hks : ks.size ≤ maxLen) (ht : t.size ≤ maxLen) (hH : Recs strE 1 w AH lH) (hmH : lH.length ≤ 9223372036854775807) (hbH : ∀ x ∈ lH, x.size ≤ maxLen) (hL : Recs lineE 3 w AL lL) (hmL : lL.length ≤ 9223372036854775807) (hbL : ∀ x ∈ lL, x.1.size ≤ maxLen ∧ I64 x.2.1 ∧ I64 x.2.2) :
    Calls Try.prog 11 #[.agg #[.string nm, .int .i64 st, .slice A l.length c], .agg #[.string kb, .string ks], .string t, .agg #[.slice AH lH.length cH, .slice AL lL.length cL]] w fun e w' => e = .returned (.bool true) ∧ Below w.heap.size w w' := by
  obtain ⟨Z0, hZ0⟩ : ∃ z, z = szM nm l := ⟨_, rfl⟩
  obtain ⟨Z1, hZ1⟩ : ∃ z, z = szK kb ks := ⟨_, rfl⟩
  have y0 : (nm.size : Int) + szS l = Z0 := hZ0.symm
  have y1 : (kb.size : Int) + (ks.size : Int) = Z1 := hZ1.symm
  have y2 := szS_len l
  obtain ⟨Z2, hZ2⟩ : ∃ z, z = szS lH + szL lL := ⟨_, rfl⟩
  have y4 := szS_len lH; have y5 := szL_len lL
  have hbL1 : ∀ x ∈ lL, x.1.size ≤ maxLen := fun x hx => (hbL x hx).1
  clear hbL
  by_cases zt : (t.size : Int) ≤ 1048576
  · by_cases z0 : Z0 ≤ 1048576
    · by_cases z1 : Z1 ≤ 1048576 - Z0
      · by_cases z2 : Z2 ≤ 1048576 - Z0 - Z1
        · have hs1 : ∀ s ∈ l, s.size ≤ 16777216 := fun s hs => by (have := szS_each l s hs; omega)
          have hnm1 : nm.size ≤ 16777216 := by omega
          have hkb1 : kb.size ≤ 16777216 := by omega
          have hks1 : ks.size ≤ 16777216 := by omega
          have hI : I64 st := by unfold I64; omega
          have hl1 : l.length ≤ 1048576 := by omega
          have ht1 : t.size ≤ 16777216 := by omega
          have nH1 : lH.length ≤ 1048576 := by omega
          have nL1 : lL.length ≤ 1048576 := by omega
          have nH : lH.length ≤ 1048576 := nH1
          have nL : lL.length ≤ 1048576 := nL1
          have hbL2 : ∀ x ∈ lL, x.1.size ≤ 16777216 := fun x hx => by (have := szL_each lL x hx; omega)
          have hbH1 : ∀ s ∈ lH, s.size ≤ 16777216 := fun s hs => by (have := szS_each lH s hs; omega)
          have HZ0 : Hid (leftV 1048576 (szM nm l) = 1048576 - Z0) := Lib.hid (by rw [← hZ0]; exact leftV_t z0)
          have HZ1 : Hid (leftV (1048576 - Z0) (szK kb ks) = 1048576 - Z0 - Z1) := Lib.hid (by rw [← hZ1]; exact leftV_t z1)
          have HZ2 : Hid (szV (szS lH + szL lL) (1048576 - Z0 - Z1) = 1048576 - Z0 - Z1 - Z2) := Lib.hid (by rw [← hZ2]; exact szV_t z2)
          have m0 : (0 : Int) ≤ 1048576 - Z0 := by omega
          have m1 : (0 : Int) ≤ 1048576 - Z0 - Z1 := by omega
          have m2 : (0 : Int) ≤ 1048576 - Z0 - Z1 - Z2 := by omega
          have p0 : 0 ≤ Z0 := by omega
          have p1 : 0 ≤ Z1 := by omega
          clear hZ0 hZ1 y0 y1 hZ2
          have b0 : Below w.heap.size w (((w.alloc (.cells ⟨[.string nm, .int .i64 st, .slice A l.length c]⟩ 36)).alloc (.cells ⟨[.string kb, .string ks]⟩ 38)).alloc (.cells ⟨[.slice AH lH.length cH, .slice AL lL.length cL]⟩ 66)) := by (repeat' (first | (with_reducible exact Below.refl _ _) | (with_reducible assumption) | (with_reducible refine below_drewN ?_ _) | (with_reducible refine Below.drew ?_) | (with_reducible refine below_alloc ?_ _) | (with_reducible refine Below.alloc ?_ ?_ _) | (with_reducible refine Below.setCell ?_ ?_ _) | (with_reducible refine below_go ?_ (by with_reducible assumption)) | (with_reducible refine below_then (by with_reducible assumption) ?_ ?_) | go_size))
          have K0 := (((Blk.at_ w 36 [.string nm, .int .i64 st, .slice A l.length c] (b := w.heap.size) (by simp)).alloc (.cells ⟨[.string kb, .string ks]⟩ 38)).alloc (.cells ⟨[.slice AH lH.length cH, .slice AL lL.length cL]⟩ 66))
          have K1 := ((Blk.at_ (w.alloc (.cells ⟨[.string nm, .int .i64 st, .slice A l.length c]⟩ 36)) 38 [.string kb, .string ks] (b := w.heap.size + 1) (by simp)).alloc (.cells ⟨[.slice AH lH.length cH, .slice AL lL.length cL]⟩ 66))
          have K2 := (Blk.at_ ((w.alloc (.cells ⟨[.string nm, .int .i64 st, .slice A l.length c]⟩ 36)).alloc (.cells ⟨[.string kb, .string ks]⟩ 38)) 66 [.slice AH lH.length cH, .slice AL lL.length cL] (b := w.heap.size + 1 + 1) (by simp))
          go_in
          go_wp2_with fail
          obtain ⟨w0, hw0⟩ : ∃ u, u = (((w.alloc (.cells #[.string nm, .int .i64 st, .slice A l.length c] 36)).alloc (.cells #[.string kb, .string ks] 38)).alloc (.cells #[.slice AH lH.length cH, .slice AL lL.length cL] 66)) := ⟨_, rfl⟩
          rw [← hw0] at b0 K0 K1 K2 ⊢
          have z0 : w.heap.size + 3 ≤ w0.heap.size := by rw [hw0]; simp
          clear hw0
          have carry : Hid (∀ u : World, Below w0.heap.size w0 u → (u.cell? ⟨w.heap.size, 0, none⟩ = some (.string nm) ∧ u.cell? ⟨w.heap.size, 1, none⟩ = some (.int .i64 st) ∧ u.cell? ⟨w.heap.size, 2, none⟩ = some (.slice A l.length c)) ∧ (u.cell? ⟨w.heap.size + 1, 0, none⟩ = some (.string kb) ∧ u.cell? ⟨w.heap.size + 1, 1, none⟩ = some (.string ks)) ∧ (u.cell? ⟨w.heap.size + 1 + 1, 0, none⟩ = some (.slice AH lH.length cH) ∧ u.cell? ⟨w.heap.size + 1 + 1, 1, none⟩ = some (.slice AL lL.length cL))) := Lib.hid (fun u hu => by
            have J0 := K0.up hu; have J1 := K1.up hu; have J2 := K2.up hu
            exact ⟨⟨by simpa using J0.cell 0, by simpa using J0.cell 1, by simpa using J0.cell 2⟩, ⟨by simpa using J1.cell 0, by simpa using J1.cell 1⟩, ⟨by simpa using J2.cell 0, by simpa using J2.cell 1⟩⟩)
          clear K0 K1 K2
          have B0 := Below.refl w0.heap.size w0
          have H0 := b0
          obtain ⟨⟨k1_0_0, k1_0_1, k1_0_2⟩, ⟨k1_1_0, k1_1_1⟩, ⟨k1_2_0, k1_2_1⟩⟩ := carry.out _ B0
          refine (laws_szMethod rfl (h.below H0 (Nat.le_refl _)) (by omega) (by omega) hm hb hnm).mono ?_; rw [HZ0.out]; rintro e w1 ⟨rfl, hb1⟩
          clear k1_0_0 k1_0_1 k1_0_2 k1_1_0 k1_1_1 k1_2_0 k1_2_1
          have sz1 : w0.heap.size ≤ w1.heap.size := hb1.size
          have B1 := B0.trans (hb1.mono B0.size)
          have H1 := b0.trans (B1.mono b0.size)
          obtain ⟨⟨k2_0_0, k2_0_1, k2_0_2⟩, ⟨k2_1_0, k2_1_1⟩, ⟨k2_2_0, k2_2_1⟩⟩ := carry.out _ B1
          go_wp2_with fail
          refine (laws_szCalls (by omega) (by omega) hkb hks).mono ?_; rw [HZ1.out]; rintro e w2 ⟨rfl, hb2⟩
          clear k2_0_0 k2_0_1 k2_0_2 k2_1_0 k2_1_1 k2_2_0 k2_2_1
          have sz2 : w1.heap.size ≤ w2.heap.size := hb2.size
          have B2 := B1.trans (hb2.mono B1.size)
          have H2 := b0.trans (B2.mono b0.size)
          obtain ⟨⟨k3_0_0, k3_0_1, k3_0_2⟩, ⟨k3_1_0, k3_1_1⟩, ⟨k3_2_0, k3_2_1⟩⟩ := carry.out _ B2
          go_wp2_with fail
          refine (laws_szProof _ _ _ _ _ _ _ _ _ _ rfl rfl (hH.below H2 (Nat.le_refl _)) (hL.below H2 (Nat.le_refl _)) (by omega) (by omega) hmH hmL hbH hbL1).mono ?_; rw [HZ2.out]; rintro e w3 ⟨rfl, hb3⟩
          clear k3_0_0 k3_0_1 k3_0_2 k3_1_0 k3_1_1 k3_2_0 k3_2_1
          have sz3 : w2.heap.size ≤ w3.heap.size := hb3.size
          have B3 := B2.trans (hb3.mono B2.size)
          have H3 := b0.trans (B3.mono b0.size)
          have HS := Lib.hid hs1
          go_wp2_with fail
          go_region_held3 (fun u => (u.cell? ⟨w.heap.size, 0, none⟩ = some (.string nm) ∧ u.cell? ⟨w.heap.size, 1, none⟩ = some (.int .i64 st) ∧ u.cell? ⟨w.heap.size, 2, none⟩ = some (.slice A l.length c)) ∧ (u.cell? ⟨w.heap.size + 1, 0, none⟩ = some (.string kb) ∧ u.cell? ⟨w.heap.size + 1, 1, none⟩ = some (.string ks)) ∧ (u.cell? ⟨w.heap.size + 1 + 1, 0, none⟩ = some (.slice AH lH.length cH) ∧ u.cell? ⟨w.heap.size + 1 + 1, 1, none⟩ = some (.slice AL lL.length cL))) (first | exact carry.out _ B7 | exact carry.out _ B6 | exact carry.out _ B5 | exact carry.out _ B4 | exact carry.out _ B3.drew) (first | (go_at_call 47; ((refine (spec_CheckProof rfl omW_6.recs (by omega) HS.out hnm1 hI hkb1 hks1 (Nat.le_refl _) ht1 rfl ohW rfl olW nH nL hbH1 hbL2).mono ?_); rintro e w7 ⟨rfl, hb7⟩; have sz7 : w6.heap.size ≤ w7.heap.size := hb7.size; have B7 := B6.trans (hb7.mono B6.size); have H7 := b0.trans (B7.mono b0.size); have omW_7 := omW_6.up hb7; have ohW_7 := ohW.up hb7; have olW_7 := olW.up hb7)) | (go_at_call 48; ((with_reducible refine (laws_toProof _ _ _ _ _ _ _ _ _ rfl rfl (hH.below H5 (Nat.le_refl _)) (hL.below H5 (Nat.le_refl _)) nH1 nL1).mono ?_); rintro e w6 ⟨ghW, glW, rfl, ohW, olW, hb6⟩; have sz6 : w5.heap.size ≤ w6.heap.size := hb6.size; have B6 := B5.trans (hb6.mono B5.size); have H6 := b0.trans (B6.mono b0.size); have omW_6 := omW_5.up hb6)) | (go_at_call 31; ((refine (laws_toCalls).mono ?_); rintro e w5 ⟨rfl, hb5⟩; have sz5 : w4.heap.size ≤ w5.heap.size := hb5.size; have B5 := B4.trans (hb5.mono B4.size); have H5 := b0.trans (B5.mono b0.size); have omW_5 := omW.up hb5)) | (go_at_call 30; ((with_reducible refine (laws_toMethod (st := st) (nm := nm) rfl (h.below H3 (Nat.le_refl _)).drew (by omega)).mono ?_); rintro e w4 ⟨gomW, rfl, omW, hbd4⟩; have hb4 := below_of_drew hbd4; have sz4 : w3.heap.size ≤ w4.heap.size := hb4.size; have B4 := B3.trans (hb4.mono B3.size); have H4 := b0.trans (B4.mono b0.size))))
          obtain ⟨⟨k4_0_0, k4_0_1, k4_0_2⟩, ⟨k4_1_0, k4_1_1⟩, ⟨k4_2_0, k4_2_1⟩⟩ := carry.out _ B7
          go_wp2_with fail
          refine (laws_toMethod (st := st) (nm := nm) rfl (h.below H7 (Nat.le_refl _)) (by omega)).mono ?_; rintro e w8 ⟨gx, rfl, ox, hb8⟩
          clear k4_0_0 k4_0_1 k4_0_2 k4_1_0 k4_1_1 k4_2_0 k4_2_1
          have sz8 : w7.heap.size ≤ w8.heap.size := hb8.size
          have B8 := B7.trans (hb8.mono B7.size)
          have H8 := b0.trans (B8.mono b0.size)
          have omW_8 := omW_7.up hb8
          have ohW_8 := ohW_7.up hb8
          have olW_8 := olW_7.up hb8
          have rox := ox.range
          obtain ⟨⟨k5_0_0, k5_0_1, k5_0_2⟩, ⟨k5_1_0, k5_1_1⟩, ⟨k5_2_0, k5_2_1⟩⟩ := carry.out (w8.alloc (.cells ⟨[.string nm, .int .i64 st, .slice (some ⟨gx, 0, none⟩) l.length l.length]⟩ 42)) (B8.alloc B8.size _)
          go_wp2_with fail
          have hb9 : Below w8.heap.size w8 (w8.alloc (.cells ⟨[.string nm, .int .i64 st, .slice (some ⟨gx, 0, none⟩) l.length l.length]⟩ 42)) := by (repeat' (first | (with_reducible exact Below.refl _ _) | (with_reducible assumption) | (with_reducible refine below_drewN ?_ _) | (with_reducible refine Below.drew ?_) | (with_reducible refine below_alloc ?_ _) | (with_reducible refine Below.alloc ?_ ?_ _) | (with_reducible refine Below.setCell ?_ ?_ _) | (with_reducible refine below_go ?_ (by with_reducible assumption)) | (with_reducible refine below_then (by with_reducible assumption) ?_ ?_) | go_size))
          have XD := Blk.at_ w8 42 [.string nm, .int .i64 st, .slice (some ⟨gx, 0, none⟩) l.length l.length] (b := w8.heap.size) rfl
          obtain ⟨w9, hw9⟩ : ∃ u, u = (w8.alloc (.cells #[.string nm, .int .i64 st, .slice (some ⟨gx, 0, none⟩) l.length l.length] 42)) := ⟨_, rfl⟩
          rw [← hw9] at hb9 XD ⊢
          clear hw9
          have sz9 : w8.heap.size ≤ w9.heap.size := hb9.size
          have B9 := B8.trans (hb9.mono B8.size)
          have H9 := b0.trans (B9.mono b0.size)
          have omW_9 := omW_8.up hb9
          have ohW_9 := ohW_8.up hb9
          have olW_9 := olW_8.up hb9
          have ox_9 := ox.up hb9
          have carryX : Hid (∀ u : World, Below w9.heap.size w9 u → u.cell? ⟨w8.heap.size, 0, none⟩ = some (.string nm) ∧ u.cell? ⟨w8.heap.size, 1, none⟩ = some (.int .i64 st) ∧ u.cell? ⟨w8.heap.size, 2, none⟩ = some (.slice (some ⟨gx, 0, none⟩) l.length l.length)) := Lib.hid (fun u hu => by
            have J := XD.up hu
            exact ⟨by simpa using J.cell 0, by simpa using J.cell 1, by simpa using J.cell 2⟩)
          clear XD
          have D9 := Below.refl w9.heap.size w9
          refine (laws_toProof _ _ _ _ _ _ _ _ _ rfl rfl (hH.below H9 (Nat.le_refl _)) (hL.below H9 (Nat.le_refl _)) nH1 nL1).mono ?_; rintro e w10 ⟨gyh, gyl, rfl, oyh, oyl, hb10⟩
          clear k5_0_0 k5_0_1 k5_0_2 k5_1_0 k5_1_1 k5_2_0 k5_2_1
          have sz10 : w9.heap.size ≤ w10.heap.size := hb10.size
          have B10 := B9.trans (hb10.mono B9.size)
          have H10 := b0.trans (B10.mono b0.size)
          have omW_10 := omW_9.up hb10
          have ohW_10 := ohW_9.up hb10
          have olW_10 := olW_9.up hb10
          have ox_10 := ox_9.up hb10
          have D10 := D9.trans (hb10.mono D9.size)
          go_wp2_with fail
          have hb11 : Below w10.heap.size w10 (w10.alloc (.cells ⟨[.slice (some ⟨gyh, 0, none⟩) lH.length lH.length, .slice (some ⟨gyl, 0, none⟩) lL.length lL.length]⟩ 71)) := by (repeat' (first | (with_reducible exact Below.refl _ _) | (with_reducible assumption) | (with_reducible refine below_drewN ?_ _) | (with_reducible refine Below.drew ?_) | (with_reducible refine below_alloc ?_ _) | (with_reducible refine Below.alloc ?_ ?_ _) | (with_reducible refine Below.setCell ?_ ?_ _) | (with_reducible refine below_go ?_ (by with_reducible assumption)) | (with_reducible refine below_then (by with_reducible assumption) ?_ ?_) | go_size))
          have XE := Blk.at_ w10 71 [.slice (some ⟨gyh, 0, none⟩) lH.length lH.length, .slice (some ⟨gyl, 0, none⟩) lL.length lL.length] (b := w10.heap.size) rfl
          obtain ⟨w11, hw11⟩ : ∃ u, u = (w10.alloc (.cells #[.slice (some ⟨gyh, 0, none⟩) lH.length lH.length, .slice (some ⟨gyl, 0, none⟩) lL.length lL.length] 71)) := ⟨_, rfl⟩
          rw [← hw11] at hb11 XE ⊢
          clear hw11
          have sz11 : w10.heap.size ≤ w11.heap.size := hb11.size
          have B11 := B10.trans (hb11.mono B10.size)
          have H11 := b0.trans (B11.mono b0.size)
          have omW_11 := omW_10.up hb11
          have ohW_11 := ohW_10.up hb11
          have olW_11 := olW_10.up hb11
          have ox_11 := ox_10.up hb11
          have oyh_11 := oyh.up hb11
          have oyl_11 := oyl.up hb11
          have D11 := D10.trans (hb11.mono D10.size)
          have carryY : Hid (∀ u : World, Below w11.heap.size w11 u → u.cell? ⟨w10.heap.size, 0, none⟩ = some (.slice (some ⟨gyh, 0, none⟩) lH.length lH.length) ∧ u.cell? ⟨w10.heap.size, 1, none⟩ = some (.slice (some ⟨gyl, 0, none⟩) lL.length lL.length)) := Lib.hid (fun u hu => by
            have J := XE.up hu
            exact ⟨by simpa using J.cell 0, by simpa using J.cell 1⟩)
          clear XE
          have E11 := Below.refl w11.heap.size w11
          go_wp2_with fail
          go_region_held3 (fun u => (u.cell? ⟨w.heap.size, 0, none⟩ = some (.string nm) ∧ u.cell? ⟨w.heap.size, 1, none⟩ = some (.int .i64 st) ∧ u.cell? ⟨w.heap.size, 2, none⟩ = some (.slice A l.length c)) ∧ (u.cell? ⟨w.heap.size + 1, 0, none⟩ = some (.string kb) ∧ u.cell? ⟨w.heap.size + 1, 1, none⟩ = some (.string ks)) ∧ (u.cell? ⟨w.heap.size + 1 + 1, 0, none⟩ = some (.slice AH lH.length cH) ∧ u.cell? ⟨w.heap.size + 1 + 1, 1, none⟩ = some (.slice AL lL.length cL)) ∧ (u.cell? ⟨w8.heap.size, 0, none⟩ = some (.string nm) ∧ u.cell? ⟨w8.heap.size, 1, none⟩ = some (.int .i64 st) ∧ u.cell? ⟨w8.heap.size, 2, none⟩ = some (.slice (some ⟨gx, 0, none⟩) l.length l.length)) ∧ (u.cell? ⟨w10.heap.size, 0, none⟩ = some (.slice (some ⟨gyh, 0, none⟩) lH.length lH.length) ∧ u.cell? ⟨w10.heap.size, 1, none⟩ = some (.slice (some ⟨gyl, 0, none⟩) lL.length lL.length))) (first | exact ⟨(carry.out _ B13).1, (carry.out _ B13).2.1, (carry.out _ B13).2.2, (carryX.out _ D13), (carryY.out _ E13)⟩ | exact ⟨(carry.out _ B12).1, (carry.out _ B12).2.1, (carry.out _ B12).2.2, (carryX.out _ D12), (carryY.out _ E12)⟩ | exact ⟨(carry.out _ B11.drew).1, (carry.out _ B11.drew).2.1, (carry.out _ B11.drew).2.2, (carryX.out _ D11.drew), (carryY.out _ E11.drew)⟩) (first | (go_at_call 49; ((refine (impl_CheckProof rfl ox_12.recs (by omega) HS.out hnm1 hI hkb1 hks1 (Nat.le_refl _) ht1 rfl oyh_12 rfl oyl_12 nH nL hbH1 hbL2).mono ?_); rintro e w13 ⟨rfl, hb13⟩; have sz13 : w12.heap.size ≤ w13.heap.size := hb13.size; have B13 := B12.trans (hb13.mono B12.size); have H13 := b0.trans (B13.mono b0.size); have omW_13 := omW_12.up hb13; have ohW_13 := ohW_12.up hb13; have olW_13 := olW_12.up hb13; have ox_13 := ox_12.up hb13; have oyh_13 := oyh_12.up hb13; have oyl_13 := oyl_12.up hb13; have D13 := D12.trans (hb13.mono D12.size); have E13 := E12.trans (hb13.mono E12.size))) | (go_at_call 31; ((refine (laws_toCalls).mono ?_); rintro e w12 ⟨rfl, hbd12⟩; have hb12 := below_of_drew hbd12; have sz12 : w11.heap.size ≤ w12.heap.size := hb12.size; have B12 := B11.trans (hb12.mono B11.size); have H12 := b0.trans (B12.mono b0.size); have omW_12 := omW_11.up hb12; have ohW_12 := ohW_11.up hb12; have olW_12 := olW_11.up hb12; have ox_12 := ox_11.up hb12; have oyh_12 := oyh_11.up hb12; have oyl_12 := oyl_11.up hb12; have D12 := D11.trans (hb12.mono D11.size); have E12 := E11.trans (hb12.mono E11.size))))
          go_wp2_with fail
          go_region_held3 (fun u => (u.cell? ⟨w.heap.size, 0, none⟩ = some (.string nm) ∧ u.cell? ⟨w.heap.size, 1, none⟩ = some (.int .i64 st) ∧ u.cell? ⟨w.heap.size, 2, none⟩ = some (.slice A l.length c)) ∧ (u.cell? ⟨w.heap.size + 1, 0, none⟩ = some (.string kb) ∧ u.cell? ⟨w.heap.size + 1, 1, none⟩ = some (.string ks)) ∧ (u.cell? ⟨w.heap.size + 1 + 1, 0, none⟩ = some (.slice AH lH.length cH) ∧ u.cell? ⟨w.heap.size + 1 + 1, 1, none⟩ = some (.slice AL lL.length cL)) ∧ (u.cell? ⟨w8.heap.size, 0, none⟩ = some (.string nm) ∧ u.cell? ⟨w8.heap.size, 1, none⟩ = some (.int .i64 st) ∧ u.cell? ⟨w8.heap.size, 2, none⟩ = some (.slice (some ⟨gx, 0, none⟩) l.length l.length))) (first | exact ⟨(carry.out _ B15).1, (carry.out _ B15).2.1, (carry.out _ B15).2.2, (carryX.out _ D15)⟩ | exact ⟨(carry.out _ B14).1, (carry.out _ B14).2.1, (carry.out _ B14).2.2, (carryX.out _ D14)⟩ | exact ⟨(carry.out _ B13.drew).1, (carry.out _ B13.drew).2.1, (carry.out _ B13.drew).2.2, (carryX.out _ D13.drew)⟩) (first | (go_at_call 33; ((refine (laws_eqMethod rfl ox_14.recs ot.recs (by omega)).mono ?_); rintro e w15 ⟨rfl, hb15⟩; have sz15 : w14.heap.size ≤ w15.heap.size := hb15.size; have B15 := B14.trans (hb15.mono B14.size); have H15 := b0.trans (B15.mono b0.size); have omW_15 := omW_14.up hb15; have ohW_15 := ohW_14.up hb15; have olW_15 := olW_14.up hb15; have ox_15 := ox_14.up hb15; have oyh_15 := oyh_14.up hb15; have oyl_15 := oyl_14.up hb15; have ot_15 := ot.up hb15; have D15 := D14.trans (hb15.mono D14.size); have E15 := E14.trans (hb15.mono E14.size))) | (go_at_call 30; ((with_reducible refine (laws_toMethod (st := st) (nm := nm) rfl (h.below H13 (Nat.le_refl _)).drew (by omega)).mono ?_); rintro e w14 ⟨gt, rfl, ot, hbd14⟩; have hb14 := below_of_drew hbd14; have sz14 : w13.heap.size ≤ w14.heap.size := hb14.size; have B14 := B13.trans (hb14.mono B13.size); have H14 := b0.trans (B14.mono b0.size); have omW_14 := omW_13.up hb14; have ohW_14 := ohW_13.up hb14; have olW_14 := olW_13.up hb14; have ox_14 := ox_13.up hb14; have oyh_14 := oyh_13.up hb14; have oyl_14 := oyl_13.up hb14; have D14 := D13.trans (hb14.mono D13.size); have E14 := E13.trans (hb14.mono E13.size))))
          go_wp2_with fail
          go_region_held3 (fun u => (u.cell? ⟨w.heap.size, 0, none⟩ = some (.string nm) ∧ u.cell? ⟨w.heap.size, 1, none⟩ = some (.int .i64 st) ∧ u.cell? ⟨w.heap.size, 2, none⟩ = some (.slice A l.length c)) ∧ (u.cell? ⟨w.heap.size + 1, 0, none⟩ = some (.string kb) ∧ u.cell? ⟨w.heap.size + 1, 1, none⟩ = some (.string ks)) ∧ (u.cell? ⟨w.heap.size + 1 + 1, 0, none⟩ = some (.slice AH lH.length cH) ∧ u.cell? ⟨w.heap.size + 1 + 1, 1, none⟩ = some (.slice AL lL.length cL)) ∧ (u.cell? ⟨w10.heap.size, 0, none⟩ = some (.slice (some ⟨gyh, 0, none⟩) lH.length lH.length) ∧ u.cell? ⟨w10.heap.size, 1, none⟩ = some (.slice (some ⟨gyl, 0, none⟩) lL.length lL.length))) (first | exact ⟨(carry.out _ B17).1, (carry.out _ B17).2.1, (carry.out _ B17).2.2, (carryY.out _ E17)⟩ | exact ⟨(carry.out _ B16).1, (carry.out _ B16).2.1, (carry.out _ B16).2.2, (carryY.out _ E16)⟩ | exact ⟨(carry.out _ B15.drew).1, (carry.out _ B15.drew).2.1, (carry.out _ B15.drew).2.2, (carryY.out _ E15.drew)⟩) (first | (go_at_call 50; ((refine (laws_eqProof _ _ _ _ _ _ _ _ _ _ _ _ _ _ _ _ _ rfl rfl rfl rfl oyh_16 oth oyl_16 otl (by omega) (by omega) (by omega) (by omega)).mono ?_); rintro e w17 ⟨rfl, hb17⟩; have sz17 : w16.heap.size ≤ w17.heap.size := hb17.size; have B17 := B16.trans (hb17.mono B16.size); have H17 := b0.trans (B17.mono b0.size); have omW_17 := omW_16.up hb17; have ohW_17 := ohW_16.up hb17; have olW_17 := olW_16.up hb17; have ox_17 := ox_16.up hb17; have oyh_17 := oyh_16.up hb17; have oyl_17 := oyl_16.up hb17; have oth_17 := oth.up hb17; have otl_17 := otl.up hb17; have D17 := D16.trans (hb17.mono D16.size); have E17 := E16.trans (hb17.mono E16.size))) | (go_at_call 48; ((with_reducible refine (laws_toProof _ _ _ _ _ _ _ _ _ rfl rfl (hH.below H15 (Nat.le_refl _)).drew (hL.below H15 (Nat.le_refl _)).drew nH1 nL1).mono ?_); rintro e w16 ⟨gth, gtl, rfl, oth, otl, hbd16⟩; have hb16 := below_of_drew hbd16; have sz16 : w15.heap.size ≤ w16.heap.size := hb16.size; have B16 := B15.trans (hb16.mono B15.size); have H16 := b0.trans (B16.mono b0.size); have omW_16 := omW_15.up hb16; have ohW_16 := ohW_15.up hb16; have olW_16 := olW_15.up hb16; have ox_16 := ox_15.up hb16; have oyh_16 := oyh_15.up hb16; have oyl_16 := oyl_15.up hb16; have D16 := D15.trans (hb16.mono D15.size); have E16 := E15.trans (hb16.mono E15.size))))
          go_wp2
          go_ret
          exact ⟨rfl, H17⟩
        · unfold maxLen at ht
          have HZ0 : Hid (leftV 1048576 (szM nm l) = 1048576 - Z0) := Lib.hid (by rw [← hZ0]; exact leftV_t z0)
          have m0 : (0 : Int) ≤ 1048576 - Z0 := by omega
          have p0 : 0 ≤ Z0 := by omega
          have HZ1 : Hid (leftV (1048576 - Z0) (szK kb ks) = 1048576 - Z0 - Z1) := Lib.hid (by rw [← hZ1]; exact leftV_t z1)
          have m1 : (0 : Int) ≤ 1048576 - Z0 - Z1 := by omega
          have p1 : 0 ≤ Z1 := by omega
          have HZ2 : Hid (szV (szS lH + szL lL) (1048576 - Z0 - Z1) = -1) := Lib.hid (by rw [← hZ2]; exact szV_f (by omega))
          clear hZ0 hZ1 y0 y1 hZ2
          have b0 : Below w.heap.size w (((w.alloc (.cells ⟨[.string nm, .int .i64 st, .slice A l.length c]⟩ 36)).alloc (.cells ⟨[.string kb, .string ks]⟩ 38)).alloc (.cells ⟨[.slice AH lH.length cH, .slice AL lL.length cL]⟩ 66)) := by (repeat' (first | (with_reducible exact Below.refl _ _) | (with_reducible assumption) | (with_reducible refine below_drewN ?_ _) | (with_reducible refine Below.drew ?_) | (with_reducible refine below_alloc ?_ _) | (with_reducible refine Below.alloc ?_ ?_ _) | (with_reducible refine Below.setCell ?_ ?_ _) | (with_reducible refine below_go ?_ (by with_reducible assumption)) | (with_reducible refine below_then (by with_reducible assumption) ?_ ?_) | go_size))
          have K0 := (((Blk.at_ w 36 [.string nm, .int .i64 st, .slice A l.length c] (b := w.heap.size) (by simp)).alloc (.cells ⟨[.string kb, .string ks]⟩ 38)).alloc (.cells ⟨[.slice AH lH.length cH, .slice AL lL.length cL]⟩ 66))
          have K1 := ((Blk.at_ (w.alloc (.cells ⟨[.string nm, .int .i64 st, .slice A l.length c]⟩ 36)) 38 [.string kb, .string ks] (b := w.heap.size + 1) (by simp)).alloc (.cells ⟨[.slice AH lH.length cH, .slice AL lL.length cL]⟩ 66))
          have K2 := (Blk.at_ ((w.alloc (.cells ⟨[.string nm, .int .i64 st, .slice A l.length c]⟩ 36)).alloc (.cells ⟨[.string kb, .string ks]⟩ 38)) 66 [.slice AH lH.length cH, .slice AL lL.length cL] (b := w.heap.size + 1 + 1) (by simp))
          go_in
          go_wp2_with fail
          obtain ⟨w0, hw0⟩ : ∃ u, u = (((w.alloc (.cells #[.string nm, .int .i64 st, .slice A l.length c] 36)).alloc (.cells #[.string kb, .string ks] 38)).alloc (.cells #[.slice AH lH.length cH, .slice AL lL.length cL] 66)) := ⟨_, rfl⟩
          rw [← hw0] at b0 K0 K1 K2 ⊢
          have z0 : w.heap.size + 3 ≤ w0.heap.size := by rw [hw0]; simp
          clear hw0
          have carry : Hid (∀ u : World, Below w0.heap.size w0 u → (u.cell? ⟨w.heap.size, 0, none⟩ = some (.string nm) ∧ u.cell? ⟨w.heap.size, 1, none⟩ = some (.int .i64 st) ∧ u.cell? ⟨w.heap.size, 2, none⟩ = some (.slice A l.length c)) ∧ (u.cell? ⟨w.heap.size + 1, 0, none⟩ = some (.string kb) ∧ u.cell? ⟨w.heap.size + 1, 1, none⟩ = some (.string ks)) ∧ (u.cell? ⟨w.heap.size + 1 + 1, 0, none⟩ = some (.slice AH lH.length cH) ∧ u.cell? ⟨w.heap.size + 1 + 1, 1, none⟩ = some (.slice AL lL.length cL))) := Lib.hid (fun u hu => by
            have J0 := K0.up hu; have J1 := K1.up hu; have J2 := K2.up hu
            exact ⟨⟨by simpa using J0.cell 0, by simpa using J0.cell 1, by simpa using J0.cell 2⟩, ⟨by simpa using J1.cell 0, by simpa using J1.cell 1⟩, ⟨by simpa using J2.cell 0, by simpa using J2.cell 1⟩⟩)
          clear K0 K1 K2
          have B0 := Below.refl w0.heap.size w0
          have H0 := b0
          obtain ⟨⟨k1_0_0, k1_0_1, k1_0_2⟩, ⟨k1_1_0, k1_1_1⟩, ⟨k1_2_0, k1_2_1⟩⟩ := carry.out _ B0
          refine (laws_szMethod rfl (h.below H0 (Nat.le_refl _)) (by omega) (by omega) hm hb hnm).mono ?_; rw [HZ0.out]; rintro e w1 ⟨rfl, hb1⟩
          clear k1_0_0 k1_0_1 k1_0_2 k1_1_0 k1_1_1 k1_2_0 k1_2_1
          have sz1 : w0.heap.size ≤ w1.heap.size := hb1.size
          have B1 := B0.trans (hb1.mono B0.size)
          have H1 := b0.trans (B1.mono b0.size)
          obtain ⟨⟨k2_0_0, k2_0_1, k2_0_2⟩, ⟨k2_1_0, k2_1_1⟩, ⟨k2_2_0, k2_2_1⟩⟩ := carry.out _ B1
          go_wp2_with fail
          refine (laws_szCalls (by omega) (by omega) hkb hks).mono ?_; rw [HZ1.out]; rintro e w2 ⟨rfl, hb2⟩
          clear k2_0_0 k2_0_1 k2_0_2 k2_1_0 k2_1_1 k2_2_0 k2_2_1
          have sz2 : w1.heap.size ≤ w2.heap.size := hb2.size
          have B2 := B1.trans (hb2.mono B1.size)
          have H2 := b0.trans (B2.mono b0.size)
          obtain ⟨⟨k3_0_0, k3_0_1, k3_0_2⟩, ⟨k3_1_0, k3_1_1⟩, ⟨k3_2_0, k3_2_1⟩⟩ := carry.out _ B2
          go_wp2_with fail
          refine (laws_szProof _ _ _ _ _ _ _ _ _ _ rfl rfl (hH.below H2 (Nat.le_refl _)) (hL.below H2 (Nat.le_refl _)) (by omega) (by omega) hmH hmL hbH hbL1).mono ?_; rw [HZ2.out]; rintro e w3 ⟨rfl, hb3⟩
          go_wp2
          go_ret
          exact ⟨rfl, below_go H2 hb3⟩
      · unfold maxLen at ht
        have HZ0 : Hid (leftV 1048576 (szM nm l) = 1048576 - Z0) := Lib.hid (by rw [← hZ0]; exact leftV_t z0)
        have m0 : (0 : Int) ≤ 1048576 - Z0 := by omega
        have p0 : 0 ≤ Z0 := by omega
        have HZ1 : Hid (leftV (1048576 - Z0) (szK kb ks) = -1) := Lib.hid (by rw [← hZ1]; exact leftV_f (by omega))
        clear hZ0 hZ1 y0 y1 hZ2
        have b0 : Below w.heap.size w (((w.alloc (.cells ⟨[.string nm, .int .i64 st, .slice A l.length c]⟩ 36)).alloc (.cells ⟨[.string kb, .string ks]⟩ 38)).alloc (.cells ⟨[.slice AH lH.length cH, .slice AL lL.length cL]⟩ 66)) := by (repeat' (first | (with_reducible exact Below.refl _ _) | (with_reducible assumption) | (with_reducible refine below_drewN ?_ _) | (with_reducible refine Below.drew ?_) | (with_reducible refine below_alloc ?_ _) | (with_reducible refine Below.alloc ?_ ?_ _) | (with_reducible refine Below.setCell ?_ ?_ _) | (with_reducible refine below_go ?_ (by with_reducible assumption)) | (with_reducible refine below_then (by with_reducible assumption) ?_ ?_) | go_size))
        have K0 := (((Blk.at_ w 36 [.string nm, .int .i64 st, .slice A l.length c] (b := w.heap.size) (by simp)).alloc (.cells ⟨[.string kb, .string ks]⟩ 38)).alloc (.cells ⟨[.slice AH lH.length cH, .slice AL lL.length cL]⟩ 66))
        have K1 := ((Blk.at_ (w.alloc (.cells ⟨[.string nm, .int .i64 st, .slice A l.length c]⟩ 36)) 38 [.string kb, .string ks] (b := w.heap.size + 1) (by simp)).alloc (.cells ⟨[.slice AH lH.length cH, .slice AL lL.length cL]⟩ 66))
        have K2 := (Blk.at_ ((w.alloc (.cells ⟨[.string nm, .int .i64 st, .slice A l.length c]⟩ 36)).alloc (.cells ⟨[.string kb, .string ks]⟩ 38)) 66 [.slice AH lH.length cH, .slice AL lL.length cL] (b := w.heap.size + 1 + 1) (by simp))
        go_in
        go_wp2_with fail
        obtain ⟨w0, hw0⟩ : ∃ u, u = (((w.alloc (.cells #[.string nm, .int .i64 st, .slice A l.length c] 36)).alloc (.cells #[.string kb, .string ks] 38)).alloc (.cells #[.slice AH lH.length cH, .slice AL lL.length cL] 66)) := ⟨_, rfl⟩
        rw [← hw0] at b0 K0 K1 K2 ⊢
        have z0 : w.heap.size + 3 ≤ w0.heap.size := by rw [hw0]; simp
        clear hw0
        have carry : Hid (∀ u : World, Below w0.heap.size w0 u → (u.cell? ⟨w.heap.size, 0, none⟩ = some (.string nm) ∧ u.cell? ⟨w.heap.size, 1, none⟩ = some (.int .i64 st) ∧ u.cell? ⟨w.heap.size, 2, none⟩ = some (.slice A l.length c)) ∧ (u.cell? ⟨w.heap.size + 1, 0, none⟩ = some (.string kb) ∧ u.cell? ⟨w.heap.size + 1, 1, none⟩ = some (.string ks)) ∧ (u.cell? ⟨w.heap.size + 1 + 1, 0, none⟩ = some (.slice AH lH.length cH) ∧ u.cell? ⟨w.heap.size + 1 + 1, 1, none⟩ = some (.slice AL lL.length cL))) := Lib.hid (fun u hu => by
          have J0 := K0.up hu; have J1 := K1.up hu; have J2 := K2.up hu
          exact ⟨⟨by simpa using J0.cell 0, by simpa using J0.cell 1, by simpa using J0.cell 2⟩, ⟨by simpa using J1.cell 0, by simpa using J1.cell 1⟩, ⟨by simpa using J2.cell 0, by simpa using J2.cell 1⟩⟩)
        clear K0 K1 K2
        have B0 := Below.refl w0.heap.size w0
        have H0 := b0
        obtain ⟨⟨k1_0_0, k1_0_1, k1_0_2⟩, ⟨k1_1_0, k1_1_1⟩, ⟨k1_2_0, k1_2_1⟩⟩ := carry.out _ B0
        refine (laws_szMethod rfl (h.below H0 (Nat.le_refl _)) (by omega) (by omega) hm hb hnm).mono ?_; rw [HZ0.out]; rintro e w1 ⟨rfl, hb1⟩
        clear k1_0_0 k1_0_1 k1_0_2 k1_1_0 k1_1_1 k1_2_0 k1_2_1
        have sz1 : w0.heap.size ≤ w1.heap.size := hb1.size
        have B1 := B0.trans (hb1.mono B0.size)
        have H1 := b0.trans (B1.mono b0.size)
        obtain ⟨⟨k2_0_0, k2_0_1, k2_0_2⟩, ⟨k2_1_0, k2_1_1⟩, ⟨k2_2_0, k2_2_1⟩⟩ := carry.out _ B1
        go_wp2_with fail
        refine (laws_szCalls (by omega) (by omega) hkb hks).mono ?_; rw [HZ1.out]; rintro e w2 ⟨rfl, hb2⟩
        go_wp2
        go_ret
        exact ⟨rfl, below_go H1 hb2⟩
    · unfold maxLen at ht
      have HZ0 : Hid (leftV 1048576 (szM nm l) = -1) := Lib.hid (by rw [← hZ0]; exact leftV_f (by omega))
      clear hZ0 hZ1 y0 y1 hZ2
      have b0 : Below w.heap.size w (((w.alloc (.cells ⟨[.string nm, .int .i64 st, .slice A l.length c]⟩ 36)).alloc (.cells ⟨[.string kb, .string ks]⟩ 38)).alloc (.cells ⟨[.slice AH lH.length cH, .slice AL lL.length cL]⟩ 66)) := by (repeat' (first | (with_reducible exact Below.refl _ _) | (with_reducible assumption) | (with_reducible refine below_drewN ?_ _) | (with_reducible refine Below.drew ?_) | (with_reducible refine below_alloc ?_ _) | (with_reducible refine Below.alloc ?_ ?_ _) | (with_reducible refine Below.setCell ?_ ?_ _) | (with_reducible refine below_go ?_ (by with_reducible assumption)) | (with_reducible refine below_then (by with_reducible assumption) ?_ ?_) | go_size))
      have K0 := (((Blk.at_ w 36 [.string nm, .int .i64 st, .slice A l.length c] (b := w.heap.size) (by simp)).alloc (.cells ⟨[.string kb, .string ks]⟩ 38)).alloc (.cells ⟨[.slice AH lH.length cH, .slice AL lL.length cL]⟩ 66))
      have K1 := ((Blk.at_ (w.alloc (.cells ⟨[.string nm, .int .i64 st, .slice A l.length c]⟩ 36)) 38 [.string kb, .string ks] (b := w.heap.size + 1) (by simp)).alloc (.cells ⟨[.slice AH lH.length cH, .slice AL lL.length cL]⟩ 66))
      have K2 := (Blk.at_ ((w.alloc (.cells ⟨[.string nm, .int .i64 st, .slice A l.length c]⟩ 36)).alloc (.cells ⟨[.string kb, .string ks]⟩ 38)) 66 [.slice AH lH.length cH, .slice AL lL.length cL] (b := w.heap.size + 1 + 1) (by simp))
      go_in
      go_wp2_with fail
      obtain ⟨w0, hw0⟩ : ∃ u, u = (((w.alloc (.cells #[.string nm, .int .i64 st, .slice A l.length c] 36)).alloc (.cells #[.string kb, .string ks] 38)).alloc (.cells #[.slice AH lH.length cH, .slice AL lL.length cL] 66)) := ⟨_, rfl⟩
      rw [← hw0] at b0 K0 K1 K2 ⊢
      have z0 : w.heap.size + 3 ≤ w0.heap.size := by rw [hw0]; simp
      clear hw0
      have carry : Hid (∀ u : World, Below w0.heap.size w0 u → (u.cell? ⟨w.heap.size, 0, none⟩ = some (.string nm) ∧ u.cell? ⟨w.heap.size, 1, none⟩ = some (.int .i64 st) ∧ u.cell? ⟨w.heap.size, 2, none⟩ = some (.slice A l.length c)) ∧ (u.cell? ⟨w.heap.size + 1, 0, none⟩ = some (.string kb) ∧ u.cell? ⟨w.heap.size + 1, 1, none⟩ = some (.string ks)) ∧ (u.cell? ⟨w.heap.size + 1 + 1, 0, none⟩ = some (.slice AH lH.length cH) ∧ u.cell? ⟨w.heap.size + 1 + 1, 1, none⟩ = some (.slice AL lL.length cL))) := Lib.hid (fun u hu => by
        have J0 := K0.up hu; have J1 := K1.up hu; have J2 := K2.up hu
        exact ⟨⟨by simpa using J0.cell 0, by simpa using J0.cell 1, by simpa using J0.cell 2⟩, ⟨by simpa using J1.cell 0, by simpa using J1.cell 1⟩, ⟨by simpa using J2.cell 0, by simpa using J2.cell 1⟩⟩)
      clear K0 K1 K2
      have B0 := Below.refl w0.heap.size w0
      have H0 := b0
      obtain ⟨⟨k1_0_0, k1_0_1, k1_0_2⟩, ⟨k1_1_0, k1_1_1⟩, ⟨k1_2_0, k1_2_1⟩⟩ := carry.out _ B0
      refine (laws_szMethod rfl (h.below H0 (Nat.le_refl _)) (by omega) (by omega) hm hb hnm).mono ?_; rw [HZ0.out]; rintro e w1 ⟨rfl, hb1⟩
      go_wp2
      go_ret
      exact ⟨rfl, below_go H0 hb1⟩
  · clear hZ0 hZ1 y0 y1
    unfold maxLen at ht
    have hT : (1048576 : Int) < (t.size : Int) := by omega
    go_in
    go_wp2
    go_ret
    exact ⟨rfl, by (repeat' (first | (with_reducible exact Below.refl _ _) | (with_reducible assumption) | (with_reducible refine below_drewN ?_ _) | (with_reducible refine Below.drew ?_) | (with_reducible refine below_alloc ?_ _) | (with_reducible refine Below.alloc ?_ ?_ _) | (with_reducible refine Below.setCell ?_ ?_ _) | (with_reducible refine below_go ?_ (by with_reducible assumption)) | (with_reducible refine below_then (by with_reducible assumption) ?_ ?_) | go_size))⟩
end Go.Proofs.Ytmdmnjjlpefigaa
