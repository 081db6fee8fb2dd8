/- The walk through FnExactSameProof: both sides give the same, the arguments are left alone. -/
import Derived.Test.YtcpfcgcdahhnjaaW20
namespace Go.Proofs.Ytcpfcgcdahhnjaa
set_option linter.unusedVariables false
set_option linter.unusedSimpArgs false
open Go.ChangeShapes Go.WideShapes Go.ChangeAt Go.RowKit Go.Deep
set_option maxHeartbeats 2000000 in
set_option maxRecDepth 100000 in
theorem law_SameProof (A1 : Option Addr) (c1 : Nat) (l1 : List ByteArray) (A2 : Option Addr) (c2 : Nat) (l2 : List Line3) (A3 : Option Addr) (c3 : Nat) (l3 : List ByteArray) (A4 : Option Addr) (c4 : Nat) (l4 : List Line3) (w : World)
    (h1 : Recs strE 1 w A1 l1) (hm1 : l1.length ≤ 9223372036854775807) (hb1 : ∀ s ∈ l1, s.size ≤ maxLen) (h2 : Recs lineE 3 w A2 l2) (hm2 : l2.length ≤ 9223372036854775807) (hb2 : ∀ x ∈ l2, x.1.size ≤ maxLen ∧ I64 x.2.1 ∧ I64 x.2.2)
    (h3 : Recs strE 1 w A3 l3) (hm3 : l3.length ≤ 9223372036854775807) (hb3 : ∀ s ∈ l3, s.size ≤ maxLen) (h4 : Recs lineE 3 w A4 l4) (hm4 : l4.length ≤ 9223372036854775807) (hb4 : ∀ x ∈ l4, x.1.size ≤ maxLen ∧ I64 x.2.1 ∧ I64 x.2.2) :
    Calls Try.prog 11 #[.agg #[.slice A1 l1.length c1, .slice A2 l2.length c2], .agg #[.slice A3 l3.length c3, .slice A4 l4.length c4]] w fun e w' => e = .returned (.bool true) ∧ Below w.heap.size w w' := by
  have s2 : ∀ x ∈ l2, x.1.size ≤ maxLen := fun x hx => (hb2 x hx).1
  have s4 : ∀ x ∈ l4, x.1.size ≤ maxLen := fun x hx => (hb4 x hx).1
  have B0 : Below w.heap.size w ((w.alloc (.cells #[.slice A1 l1.length c1, .slice A2 l2.length c2] 79)).alloc (.cells #[.slice A3 l3.length c3, .slice A4 l4.length c4] 79)) := by (repeat' (first | (with_reducible exact Below.refl _ _) | (with_reducible assumption) | (with_reducible refine below_drewN ?_ _) | (with_reducible refine Below.drew ?_) | (with_reducible refine below_alloc ?_ _) | (with_reducible refine Below.alloc ?_ ?_ _) | (with_reducible refine Below.setCell ?_ ?_ _) | (with_reducible refine below_go ?_ (by with_reducible assumption)) | (with_reducible refine below_then (by with_reducible assumption) ?_ ?_) | go_size))
  have K0 := (Blk.at_ w 79 [.slice A1 l1.length c1, .slice A2 l2.length c2] (b := w.heap.size) rfl).alloc (.cells #[.slice A3 l3.length c3, .slice A4 l4.length c4] 79)
  have K1 := Blk.at_ (w.alloc (.cells #[.slice A1 l1.length c1, .slice A2 l2.length c2] 79)) 79 [.slice A3 l3.length c3, .slice A4 l4.length c4] (b := w.heap.size + 1) (by simp)
  have y1 := szS_len l1; have y2 := szL_len l2; have y3 := szS_len l3; have y4 := szL_len l4
  clear hb2 hb4
  obtain ⟨Z1, hZ1⟩ : ∃ z, z = szS l1 + szL l2 := ⟨_, rfl⟩
  obtain ⟨Z2, hZ2⟩ : ∃ z, z = szS l3 + szL l4 := ⟨_, rfl⟩
  have HZ1 := Lib.hid hZ1; have HZ2 := Lib.hid hZ2
  by_cases z1 : Z1 ≤ 1048576
  · by_cases z2 : Z2 ≤ 1048576 - Z1
    · have n1 : l1.length ≤ 1048576 := by omega
      have n2 : l2.length ≤ 1048576 := by omega
      have n3 : l3.length ≤ 1048576 := by omega
      have n4 : l4.length ≤ 1048576 := by omega
      have m1 : (0 : Int) ≤ 1048576 - Z1 ∧ (1048576 - Z1 : Int) ≤ 1048576 := by omega
      have m2 : (0 : Int) ≤ 1048576 - Z1 - Z2 := by omega
      clear y1 y2 y3 y4 hZ1 hZ2
      go_in
      go_wp2_with fail
      obtain ⟨w0, hw0⟩ : ∃ u, u = ((w.alloc (.cells #[.slice A1 l1.length c1, .slice A2 l2.length c2] 79)).alloc (.cells #[.slice A3 l3.length c3, .slice A4 l4.length c4] 79)) := ⟨_, rfl⟩
      have sz0 : w0.heap.size = w.heap.size + 2 := by rw [hw0]; simp
      rw [← hw0] at B0 K0 K1 ⊢
      clear hw0
      have carry : Hid (∀ u : World, Below w0.heap.size w0 u → u.cell? ⟨w.heap.size, 0, none⟩ = some (.slice A1 l1.length c1) ∧ u.cell? ⟨w.heap.size, 1, none⟩ = some (.slice A2 l2.length c2) ∧ u.cell? ⟨w.heap.size + 1, 0, none⟩ = some (.slice A3 l3.length c3) ∧ u.cell? ⟨w.heap.size + 1, 1, none⟩ = some (.slice A4 l4.length c4)) := Lib.hid (fun u hu => by
        have L0 := K0.up hu; have L1 := K1.up hu
        exact ⟨by simpa using L0.cell 0, by simpa using L0.cell 1, by simpa using L1.cell 0, by simpa using L1.cell 1⟩)
      clear K0 K1
      obtain ⟨k0, k1, k2, k3⟩ := carry.out _ (Below.refl _ _)
      refine (laws_szProof _ _ _ _ _ _ _ _ _ _ rfl rfl (h1.below B0 (Nat.le_refl _)) (h2.below B0 (Nat.le_refl _)) (by omega) (by omega) hm1 hm2 hb1 s2).mono ?_
      rw [← HZ1.out, szV_t z1]; rintro e w1 ⟨rfl, d1⟩
      have C1 := d1
      have B1 := B0.trans (C1.mono B0.size)
      clear k0 k1 k2 k3
      obtain ⟨k0, k1, k2, k3⟩ := carry.out _ C1
      go_wp2_with fail
      refine (laws_szProof _ _ _ _ _ _ _ _ _ _ rfl rfl (h3.below B1 (Nat.le_refl _)) (h4.below B1 (Nat.le_refl _)) m1.2 m1.1 hm3 hm4 hb3 s4).mono ?_
      rw [← HZ2.out, szV_t z2]; rintro e w2 ⟨rfl, d2⟩
      have C2 := C1.trans (d2.mono C1.size)
      have B2 := B0.trans (C2.mono B0.size)
      clear k0 k1 k2 k3
      obtain ⟨k0, k1, k2, k3⟩ := carry.out _ C2
      go_wp2_with fail
      go_region_held3 (fun u => u.cell? ⟨w.heap.size, 0, none⟩ = some (.slice A1 l1.length c1) ∧ u.cell? ⟨w.heap.size, 1, none⟩ = some (.slice A2 l2.length c2) ∧ u.cell? ⟨w.heap.size + 1, 0, none⟩ = some (.slice A3 l3.length c3) ∧ u.cell? ⟨w.heap.size + 1, 1, none⟩ = some (.slice A4 l4.length c4)) (first | exact carry.out _ CE | exact carry.out _ CD | exact carry.out _ CC | exact carry.out _ (C2.drew)) (first | (go_at_call 61; refine (laws_toProof _ _ _ _ _ _ l3 l4 _ rfl rfl (h3.below BC (Nat.le_refl _)) (h4.below BC (Nat.le_refl _)) n3 n4).mono ?_; rintro e w4 ⟨q3, q4, rfl, r3, r4, d4⟩; have CD := CC.trans (d4.mono CC.size)) | (go_at_call 61; refine (laws_toProof _ _ _ _ _ _ l1 l2 _ rfl rfl (h1.below B2 (Nat.le_refl _)).drew (h2.below B2 (Nat.le_refl _)).drew n1 n2).mono ?_; rintro e w3 ⟨q1, q2, rfl, r1, r2, dd⟩; have d3 := below_of_drew dd; have CC := C2.trans (d3.mono C2.size); have BC := B0.trans (CC.mono B0.size)) | (go_at_call 60; refine (spec_SameProof rfl rfl rfl rfl (r1.up d4) r3 (r2.up d4) r4 (by omega) (by omega) (by omega) (by omega)).mono ?_; rintro e w5 ⟨rfl, d5⟩; have CE := CD.trans (d5.mono CD.size)))
      have B5 := B0.trans (CE.mono B0.size)
      have s5 := CE.size
      clear k0 k1 k2 k3
      obtain ⟨k0, k1, k2, k3⟩ := carry.out _ CE
      go_wp2_with fail
      refine (laws_toProof _ _ _ _ _ _ l1 l2 _ rfl rfl (h1.below B5 (Nat.le_refl _)) (h2.below B5 (Nat.le_refl _)) n1 n2).mono ?_; rintro e w6 ⟨p1, p2, rfl, r5, r6, d6⟩
      have C6 := CE.trans (d6.mono CE.size)
      clear k0 k1 k2 k3
      have A7 : Below w6.heap.size w6 (w6.alloc (.cells #[.slice (some ⟨p1, 0, none⟩) l1.length l1.length, .slice (some ⟨p2, 0, none⟩) l2.length l2.length] 84)) := (Below.refl _ _).alloc (Nat.le_refl _) _
      have KX := Blk.at_ w6 84 [.slice (some ⟨p1, 0, none⟩) l1.length l1.length, .slice (some ⟨p2, 0, none⟩) l2.length l2.length] (b := w6.heap.size) rfl
      have r5 := r5.up A7; have r6 := r6.up A7
      have C7 := C6.trans (A7.mono C6.size)
      obtain ⟨k0, k1, k2, k3⟩ := carry.out _ C7
      go_wp2_with fail
      obtain ⟨w7, hw7⟩ : ∃ u, u = w6.alloc (.cells #[.slice (some ⟨p1, 0, none⟩) l1.length l1.length, .slice (some ⟨p2, 0, none⟩) l2.length l2.length] 84) := ⟨_, rfl⟩
      rw [← hw7] at KX r5 r6 C7 k0 k1 k2 k3 ⊢
      clear hw7 A7
      have B7 := B0.trans (C7.mono B0.size)
      clear k0 k1 k2 k3
      refine (laws_toProof _ _ _ _ _ _ l3 l4 _ rfl rfl (h3.below B7 (Nat.le_refl _)) (h4.below B7 (Nat.le_refl _)) n3 n4).mono ?_; rintro e w8 ⟨p3, p4, rfl, r7, r8, d8⟩
      have C8 := C7.trans (d8.mono C7.size)
      have A9 : Below w8.heap.size w8 (w8.alloc (.cells #[.slice (some ⟨p3, 0, none⟩) l3.length l3.length, .slice (some ⟨p4, 0, none⟩) l4.length l4.length] 84)) := (Below.refl _ _).alloc (Nat.le_refl _) _
      have KX8 := (KX.up d8).alloc (.cells #[.slice (some ⟨p3, 0, none⟩) l3.length l3.length, .slice (some ⟨p4, 0, none⟩) l4.length l4.length] 84)
      have KY := Blk.at_ w8 84 [.slice (some ⟨p3, 0, none⟩) l3.length l3.length, .slice (some ⟨p4, 0, none⟩) l4.length l4.length] (b := w8.heap.size) rfl
      have r5 := (r5.up d8).up A9; have r6 := (r6.up d8).up A9; have r7 := r7.up A9; have r8 := r8.up A9
      have C9 := C8.trans (A9.mono C8.size)
      have x0 := KX8.cell 0; have x1 := KX8.cell 1; have x2 := KY.cell 0; have x3 := KY.cell 1
      simp only [List.getElem?_cons_zero, List.getElem?_cons_succ] at x0 x1 x2 x3
      go_wp2_with fail
      obtain ⟨w9, hw9⟩ : ∃ u, u = w8.alloc (.cells #[.slice (some ⟨p3, 0, none⟩) l3.length l3.length, .slice (some ⟨p4, 0, none⟩) l4.length l4.length] 84) := ⟨_, rfl⟩
      rw [← hw9] at KX8 KY r5 r6 r7 r8 C9 ⊢
      clear x0 x1 x2 x3 hw9 A9 KX
      have carry2 : Hid (∀ u : World, Below w9.heap.size w9 u → u.cell? ⟨w.heap.size, 0, none⟩ = some (.slice A1 l1.length c1) ∧ u.cell? ⟨w.heap.size, 1, none⟩ = some (.slice A2 l2.length c2) ∧ u.cell? ⟨w.heap.size + 1, 0, none⟩ = some (.slice A3 l3.length c3) ∧ u.cell? ⟨w.heap.size + 1, 1, none⟩ = some (.slice A4 l4.length c4) ∧ u.cell? ⟨w6.heap.size, 0, none⟩ = some (.slice (some ⟨p1, 0, none⟩) l1.length l1.length) ∧ u.cell? ⟨w6.heap.size, 1, none⟩ = some (.slice (some ⟨p2, 0, none⟩) l2.length l2.length) ∧ u.cell? ⟨w8.heap.size, 0, none⟩ = some (.slice (some ⟨p3, 0, none⟩) l3.length l3.length) ∧ u.cell? ⟨w8.heap.size, 1, none⟩ = some (.slice (some ⟨p4, 0, none⟩) l4.length l4.length)) := Lib.hid (fun u hu => by
        have q := carry.out u (C9.trans (hu.mono C9.size))
        have L0 := KX8.up hu; have L1 := KY.up hu
        exact ⟨q.1, q.2.1, q.2.2.1, q.2.2.2, by simpa using L0.cell 0, by simpa using L0.cell 1, by simpa using L1.cell 0, by simpa using L1.cell 1⟩)
      clear KX8 KY carry
      have B9 := B0.trans (C9.mono B0.size)
      refine (impl_SameProof rfl rfl rfl rfl r5 r7 r6 r8 (by omega) (by omega) (by omega) (by omega)).mono ?_; rintro e w10 ⟨rfl, d10⟩
      have B10 := B9.trans (d10.mono B9.size)
      obtain ⟨k0, k1, k2, k3, k4, k5, k6, k7⟩ := carry2.out _ d10
      go_wp2_with fail
      go_region_held3 (fun u => u.cell? ⟨w.heap.size, 0, none⟩ = some (.slice A1 l1.length c1) ∧ u.cell? ⟨w.heap.size, 1, none⟩ = some (.slice A2 l2.length c2) ∧ u.cell? ⟨w.heap.size + 1, 0, none⟩ = some (.slice A3 l3.length c3) ∧ u.cell? ⟨w.heap.size + 1, 1, none⟩ = some (.slice A4 l4.length c4) ∧ u.cell? ⟨w6.heap.size, 0, none⟩ = some (.slice (some ⟨p1, 0, none⟩) l1.length l1.length) ∧ u.cell? ⟨w6.heap.size, 1, none⟩ = some (.slice (some ⟨p2, 0, none⟩) l2.length l2.length) ∧ u.cell? ⟨w8.heap.size, 0, none⟩ = some (.slice (some ⟨p3, 0, none⟩) l3.length l3.length) ∧ u.cell? ⟨w8.heap.size, 1, none⟩ = some (.slice (some ⟨p4, 0, none⟩) l4.length l4.length)) (first | exact carry2.out _ E12 | exact carry2.out _ E11 | exact carry2.out _ (d10.drew)) (first | (go_at_call 61; refine (laws_toProof _ _ _ _ _ _ l1 l2 _ rfl rfl (h1.below B10 (Nat.le_refl _)).drew (h2.below B10 (Nat.le_refl _)).drew n1 n2).mono ?_; rintro e w11 ⟨q1, q2, rfl, r1, r2, dd⟩; have d11 := below_of_drew dd; have E11 := d10.trans (d11.mono d10.size)) | (go_at_call 63; refine (laws_eqProof _ _ _ _ _ _ _ _ _ _ _ _ l1 l1 l2 l2 _ rfl rfl rfl rfl ((r5.up d10).up d11) r1 ((r6.up d10).up d11) r2 (by omega) (by omega) (by omega) (by omega)).mono ?_; rw [show (decide (l1 = l1) && decide (l2 = l2)) = true by simp]; rintro e w12 ⟨rfl, d12⟩; have E12 := E11.trans (d12.mono E11.size)))
      have B12 := B9.trans (E12.mono B9.size)
      clear k0 k1 k2 k3 k4 k5 k6 k7
      obtain ⟨k0, k1, k2, k3, k4, k5, k6, k7⟩ := carry2.out _ E12
      go_wp2_with fail
      go_region_held3 (fun u => u.cell? ⟨w.heap.size, 0, none⟩ = some (.slice A1 l1.length c1) ∧ u.cell? ⟨w.heap.size, 1, none⟩ = some (.slice A2 l2.length c2) ∧ u.cell? ⟨w.heap.size + 1, 0, none⟩ = some (.slice A3 l3.length c3) ∧ u.cell? ⟨w.heap.size + 1, 1, none⟩ = some (.slice A4 l4.length c4) ∧ u.cell? ⟨w6.heap.size, 0, none⟩ = some (.slice (some ⟨p1, 0, none⟩) l1.length l1.length) ∧ u.cell? ⟨w6.heap.size, 1, none⟩ = some (.slice (some ⟨p2, 0, none⟩) l2.length l2.length) ∧ u.cell? ⟨w8.heap.size, 0, none⟩ = some (.slice (some ⟨p3, 0, none⟩) l3.length l3.length) ∧ u.cell? ⟨w8.heap.size, 1, none⟩ = some (.slice (some ⟨p4, 0, none⟩) l4.length l4.length)) (first | exact carry2.out _ E14 | exact carry2.out _ E13 | exact carry2.out _ (E12.drew)) (first | (go_at_call 61; refine (laws_toProof _ _ _ _ _ _ l3 l4 _ rfl rfl (h3.below B12 (Nat.le_refl _)).drew (h4.below B12 (Nat.le_refl _)).drew n3 n4).mono ?_; rintro e w13 ⟨q3, q4, rfl, r3, r4, dd2⟩; have d13 := below_of_drew dd2; have E13 := E12.trans (d13.mono E12.size)) | (go_at_call 63; refine (laws_eqProof _ _ _ _ _ _ _ _ _ _ _ _ l3 l3 l4 l4 _ rfl rfl rfl rfl ((r7.up E12).up d13) r3 ((r8.up E12).up d13) r4 (by omega) (by omega) (by omega) (by omega)).mono ?_; rw [show (decide (l3 = l3) && decide (l4 = l4)) = true by simp]; rintro e w14 ⟨rfl, d14⟩; have E14 := E13.trans (d14.mono E13.size)))
      have B14 := B9.trans (E14.mono B9.size)
      go_wp2
      go_ret
      exact ⟨rfl, B14⟩
    · go_in
      have z2' : ¬ Z2 ≤ 1048576 - Z1 := z2
      have m1 : (0 : Int) ≤ 1048576 - Z1 ∧ (1048576 - Z1 : Int) ≤ 1048576 := by omega
      have HZ := Lib.hid z2
      clear z2 z2' hZ1 hZ2
      go_wp2_with fail
      refine (laws_szProof _ _ _ _ _ _ _ _ _ _ rfl rfl (h1.below B0 (Nat.le_refl _)) (h2.below B0 (Nat.le_refl _)) (by omega) (by omega) hm1 hm2 hb1 s2).mono ?_
      rw [← HZ1.out, szV_t z1]; rintro e w1 ⟨rfl, d1⟩
      have B1 := below_go B0 d1
      have L1 := K1.up d1
      have k2 := L1.cell 0; have k3 := L1.cell 1
      simp only [List.getElem?_cons_zero, List.getElem?_cons_succ] at k2 k3
      go_wp2_with fail
      refine (laws_szProof _ _ _ _ _ _ _ _ _ _ rfl rfl (h3.below B1 (Nat.le_refl _)) (h4.below B1 (Nat.le_refl _)) m1.2 m1.1 hm3 hm4 hb3 s4).mono ?_
      rw [← HZ2.out, szV_f (Int.not_le.2 HZ.out)]; rintro e w2 ⟨rfl, d2⟩
      go_wp2
      go_ret
      exact ⟨rfl, below_go B1 d2⟩
  · have HZ := Lib.hid z1
    clear hZ1 hZ2
    go_in
    go_wp2_with fail
    refine (laws_szProof _ _ _ _ _ _ _ _ _ _ rfl rfl (h1.below B0 (Nat.le_refl _)) (h2.below B0 (Nat.le_refl _)) (by omega) (by omega) hm1 hm2 hb1 s2).mono ?_
    rw [← HZ1.out, szV_f (Int.not_le.2 HZ.out)]; rintro e w1 ⟨rfl, d1⟩
    go_wp2
    go_ret
    exact ⟨rfl, below_go B0 d1⟩
end Go.Proofs.Ytcpfcgcdahhnjaa
