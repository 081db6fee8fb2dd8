/- The walk through FnExactCheckPrices: both sides give the same, the arguments are left alone. -/
import Derived.Test.YtcpfcgcdahhnjaaCmatch
import Derived.Test.YtcpfcgcdahhnjaaCtab2
import Derived.Test.YtcpfcgcdahhnjaaW22v
import Derived.Test.YtcpfcgcdahhnjaaW22x
namespace Go.Proofs.Ytcpfcgcdahhnjaa
set_option linter.unusedVariables false
set_option linter.unusedSimpArgs false
open Go.ChangeShapes Go.WideShapes Go.ChangeAt Go.RowKit Go.Deep
set_option maxHeartbeats 2000000 in
set_option maxRecDepth 100000 in
theorem law_CheckPrices (A1 : Option Addr) (c1 : Nat) (l1 : List Int) (A2 : Option Addr) (c2 : Nat) (l2 : List Int) (x3 : Int) (A4 : Option Addr) (c4 : Nat) (vs : List Hd) (T : List (List Int)) (A5 : Option Addr) (c5 : Nat) (l5 : List Int) (x6 : Int) (w : World)
    (h1 : Recs intE 1 w A1 l1) (hm1 : l1.length ≤ 9223372036854775807) (_hb1 : ∀ x ∈ l1, -9223372036854775808 ≤ x ∧ x ≤ 9223372036854775807) (h2 : Recs intE 1 w A2 l2) (hm2 : l2.length ≤ 9223372036854775807) (_hb2 : ∀ x ∈ l2, -9223372036854775808 ≤ x ∧ x ≤ 9223372036854775807) (_hx3 : -9223372036854775808 ≤ x3 ∧ x3 ≤ 9223372036854775807)
    (hT : TabR vs w A4 T) (hmT : T.length ≤ 9223372036854775807) (hrT : ∀ r ∈ T, r.length ≤ maxLen) (h5 : Recs intE 1 w A5 l5) (hm5 : l5.length ≤ 9223372036854775807) (hb5 : ∀ x ∈ l5, -9223372036854775808 ≤ x ∧ x ≤ 9223372036854775807) (_hx6 : -9223372036854775808 ≤ x6 ∧ x6 ≤ 9223372036854775807) :
    Calls Try.prog 7 #[.slice A1 l1.length c1, .slice A2 l2.length c2, .int .i64 x3, .slice A4 T.length c4, .agg #[.slice A5 l5.length c5, .int .i64 x6]] w fun e w' => e = .returned (.bool true) ∧ Below w.heap.size w w' := by
  clear _hb1 _hb2 _hx3 _hx6
  have hrT' : ∀ r ∈ T, r.length ≤ 9223372036854775807 := fun r hr => Nat.le_trans (hrT r hr) (by decide)
  have B0 : Below w.heap.size w (w.alloc (.cells #[.slice A5 l5.length c5, .int .i64 x6] 53)) := by (repeat' (first | (with_reducible exact Below.refl _ _) | (with_reducible assumption) | (with_reducible refine below_drewN ?_ _) | (with_reducible refine Below.drew ?_) | (with_reducible refine below_alloc ?_ _) | (with_reducible refine Below.alloc ?_ ?_ _) | (with_reducible refine Below.setCell ?_ ?_ _) | (with_reducible refine below_go ?_ (by with_reducible assumption)) | (with_reducible refine below_then (by with_reducible assumption) ?_ ?_) | go_size))
  have K0 := Blk.at_ w 53 [.slice A5 l5.length c5, .int .i64 x6] (b := w.heap.size) rfl
  have yT := szT_len T
  have yR := Lib.hid (szT_row (T := T))
  obtain ⟨Z, hZ⟩ : ∃ z, z = szT T := ⟨_, rfl⟩
  rw [← hZ] at yT yR
  have HZ := Lib.hid hZ
  have hrH := Lib.hid hrT'
  clear hZ hrT hrT'
  by_cases n1N : ¬ (l1.length ≤ 1048576)
  · go_in
    go_wp2
    go_ret
    exact ⟨rfl, B0⟩
  have n1 : l1.length ≤ 1048576 := Decidable.not_not.1 n1N
  clear n1N
  by_cases n2N : ¬ (l2.length ≤ 1048576)
  · go_in
    go_wp2
    go_ret
    exact ⟨rfl, B0⟩
  have n2 : l2.length ≤ 1048576 := Decidable.not_not.1 n2N
  clear n2N
  by_cases z1N : ¬ (Z ≤ 1048576)
  · have HN := Lib.hid z1N
    go_in
    go_wp2_with fail
    refine (laws_szIntSS _ _ _ _ _ _ _ rfl (hT.below B0 (Nat.le_refl _)) (by omega) (by omega) hmT hrH.out).mono ?_
    rw [← HZ.out, szW_f (Int.not_le.2 (by have := HN.out; omega))]; rintro e w1 ⟨rfl, rfl⟩
    go_wp2
    go_ret
    exact ⟨rfl, B0⟩
  have z1 : Z ≤ 1048576 := Decidable.not_not.1 z1N
  clear z1N
  by_cases n5N : ¬ ((l5.length : Int) ≤ 1048576 - Z)
  · go_in
    go_wp2_with fail
    refine (laws_szIntSS _ _ _ _ _ _ _ rfl (hT.below B0 (Nat.le_refl _)) (by omega) (by omega) hmT hrH.out).mono ?_
    rw [← HZ.out, szW_t z1]; rintro e w1 ⟨rfl, rfl⟩
    go_wp2_with fail
    refine (laws_szMatch_no _ _ _ _ _ _ (by omega) (by omega) hm5).mono ?_; rintro e w1 ⟨rfl, d1⟩
    go_wp2
    go_ret
    exact ⟨rfl, below_go B0 d1⟩
  have n5 : (l5.length : Int) ≤ 1048576 - Z := Decidable.not_not.1 n5N
  clear n5N
  have n4 : T.length ≤ 1048576 := by omega
  have n5' : l5.length ≤ 1048576 := by omega
  have r4 : Hid (∀ r ∈ T, r.length ≤ 1048576) := Lib.hid (fun r hr => by have := yR.out r hr; omega)
  have r4' : Hid (∀ r ∈ T, r.length ≤ 16777216) := Lib.hid (fun r hr => by have := yR.out r hr; omega)
  go_in
  go_wp2_with fail
  obtain ⟨w0, hw0⟩ : ∃ u, u = w.alloc (.cells #[.slice A5 l5.length c5, .int .i64 x6] 53) := ⟨_, rfl⟩
  rw [← hw0] at B0 K0 ⊢
  clear hw0
  refine (laws_szIntSS _ _ _ _ _ _ _ rfl (hT.below B0 (Nat.le_refl _)) (by omega) (by omega) hmT hrH.out).mono ?_
  rw [← HZ.out, szW_t z1]; rintro e w' ⟨rfl, rfl⟩
  have carry : Hid (∀ u : World, Below w0.heap.size w0 u → u.cell? ⟨w.heap.size, 0, none⟩ = some (.slice A5 l5.length c5) ∧ u.cell? ⟨w.heap.size, 1, none⟩ = some (.int .i64 x6)) := Lib.hid (fun u hu => by
    have L := K0.up hu
    exact ⟨by simpa using L.cell 0, by simpa using L.cell 1⟩)
  clear K0
  obtain ⟨k0, k1⟩ := carry.out _ (Below.refl _ _)
  go_wp2_with fail
  refine (laws_szMatch_ok _ _ _ _ _ _ n5 (by omega)).mono ?_; rintro e w1 ⟨rfl, C1⟩
  have B1 := B0.trans (C1.mono B0.size)
  clear k0 k1
  obtain ⟨k0, k1⟩ := carry.out _ C1
  go_wp2_with fail
  go_region_held3 (fun u => u.cell? ⟨w.heap.size, 0, none⟩ = some (.slice A5 l5.length c5) ∧ u.cell? ⟨w.heap.size, 1, none⟩ = some (.int .i64 x6)) (first | exact carry.out _ C6 | exact carry.out _ C5 | exact carry.out _ C4 | exact carry.out _ C3 | exact carry.out _ C2 | exact carry.out _ (C1.drew)) (first | (go_at_call 28; refine (laws_toIntS _ _ _ l2 _ rfl (h2.below B2 (Nat.le_refl _)) n2).mono ?_; rintro e w3 ⟨q2, rfl, o2, d3⟩; have C3 := C2.trans (d3.mono C2.size); have B3 := B2.trans (d3.mono B2.size)) | (go_at_call 28; refine (laws_toIntS _ _ _ l1 _ rfl (h1.below B1 (Nat.le_refl _)).drew n1).mono ?_; rintro e w2 ⟨q1, rfl, o1, dd⟩; have d2 := below_of_drew dd; have C2 := C1.trans (d2.mono C1.size); have B2 := B1.trans (d2.mono B1.size)) | (go_at_call 41; refine (laws_toIntSS _ _ _ _ T _ rfl (hT.below B3 (Nat.le_refl _)) n4 r4.out).mono ?_; rintro e w4 ⟨us, q4, rfl, o4, d4⟩; have C4 := C3.trans (d4.mono C3.size); have B4 := B3.trans (d4.mono B3.size)) | (go_at_call 42; refine (laws_toMatch _ _ _ l5 _ _ rfl (h5.below B4 (Nat.le_refl _)) n5').mono ?_; rintro e w5 ⟨q5, rfl, o5, d5⟩; have C5 := C4.trans (d5.mono C4.size); have B5 := B4.trans (d5.mono B4.size)) | (go_at_call 40; refine (spec_CheckPrices rfl (((o1.up d3).up d4).up d5).recs (by omega) rfl ((o2.up d4).up d5).recs (by omega) rfl (o4.up d5).recs (by omega) r4'.out rfl o5.recs (by omega) hb5).mono ?_; rintro e w6 ⟨rfl, d6⟩; have C6 := C5.trans (d6.mono C5.size); have B6 := B5.trans (d6.mono B5.size)))
  clear k0 k1
  obtain ⟨bo, hbo⟩ : ∃ b, b = cpOk l1 l2 x3 T := ⟨_, rfl⟩
  obtain ⟨br, hbr⟩ : ∃ b, b = cpR l1 l2 x3 T l5 x6 := ⟨_, rfl⟩
  rw [← hbo, ← hbr]
  have HBO := Lib.hid hbo; have HBR := Lib.hid hbr
  clear hbo hbr
  go_wp2_with fail
  refine (laws_toIntS _ _ _ l1 _ rfl (h1.below B6 (Nat.le_refl _)) n1).mono ?_; rintro e w7 ⟨p1, rfl, s1, d7⟩
  have C7 := C6.trans (d7.mono C6.size); have B7 := B6.trans (d7.mono B6.size)
  go_wp2_with fail
  refine (laws_toIntS _ _ _ l2 _ rfl (h2.below B7 (Nat.le_refl _)) n2).mono ?_; rintro e w8 ⟨p2, rfl, s2, d8⟩
  have C8 := C7.trans (d8.mono C7.size); have B8 := B7.trans (d8.mono B7.size)
  go_wp2_with fail
  refine (laws_toIntSS _ _ _ _ T _ rfl (hT.below B8 (Nat.le_refl _)) n4 r4.out).mono ?_; rintro e w9 ⟨ts, p4, rfl, s4, d9⟩
  have C9 := C8.trans (d9.mono C8.size); have B9 := B8.trans (d9.mono B8.size)
  obtain ⟨k0, k1⟩ := carry.out _ C9
  go_wp2_with fail
  refine (laws_toMatch _ _ _ l5 _ _ rfl (h5.below B9 (Nat.le_refl _)) n5').mono ?_; rintro e w10 ⟨p5, rfl, s5, d10⟩
  have C10 := C9.trans (d10.mono C9.size); have B10 := B9.trans (d10.mono B9.size)
  clear k0 k1
  have A11 : Below w10.heap.size w10 (w10.alloc (.cells #[.slice (some ⟨p5, 0, none⟩) l5.length l5.length, .int .i64 x6] 48)) := (Below.refl _ _).alloc (Nat.le_refl _) _
  have KX := Blk.at_ w10 48 [.slice (some ⟨p5, 0, none⟩) l5.length l5.length, .int .i64 x6] (b := w10.heap.size) rfl
  have e0 := KX.cell 0; have e1 := KX.cell 1
  simp only [List.getElem?_cons_zero, List.getElem?_cons_succ] at e0 e1
  go_wp2_with fail
  obtain ⟨w11, hw11⟩ : ∃ u, u = w10.alloc (.cells #[.slice (some ⟨p5, 0, none⟩) l5.length l5.length, .int .i64 x6] 48) := ⟨_, rfl⟩
  rw [← hw11] at A11 KX ⊢
  clear e0 e1 hw11
  have C11 := C10.trans (A11.mono C10.size); have B11 := B10.trans (A11.mono B10.size)
  have d11 := A11
  have S1 := (((s1.up d8).up d9).up d10).up d11
  have S2 := ((s2.up d9).up d10).up d11
  have S4 := (s4.up d10).up d11
  have S5 := s5.up d11
  have carry2 : Hid (∀ u : World, Below w11.heap.size w11 u → u.cell? ⟨w.heap.size, 0, none⟩ = some (.slice A5 l5.length c5) ∧ u.cell? ⟨w.heap.size, 1, none⟩ = some (.int .i64 x6) ∧ u.cell? ⟨w10.heap.size, 0, none⟩ = some (.slice (some ⟨p5, 0, none⟩) l5.length l5.length) ∧ u.cell? ⟨w10.heap.size, 1, none⟩ = some (.int .i64 x6)) := Lib.hid (fun u hu => by
    have q := carry.out u (C11.trans (hu.mono C11.size))
    have L := KX.up hu
    exact ⟨q.1, q.2, by simpa using L.cell 0, by simpa using L.cell 1⟩)
  clear KX
  refine (impl_CheckPrices rfl S1.recs (by omega) rfl S2.recs (by omega) rfl S4.recs (by omega) r4'.out rfl S5.recs (by omega) hb5).mono ?_
  rw [← HBO.out, ← HBR.out]; rintro e w12 ⟨rfl, d12⟩
  have B12 := B11.trans (d12.mono B11.size)
  have E12 := d12
  go_wp2_with fail
  refine (laws_toIntS _ _ _ l1 _ rfl (h1.below B12 (Nat.le_refl _)) n1).mono ?_; rintro e w13 ⟨t1, rfl, u1, d13⟩
  have E13 := E12.trans (d13.mono E12.size); have B13 := B12.trans (d13.mono B12.size)
  go_wp2_with fail
  refine (laws_eqIntS _ _ _ _ _ _ l1 l1 _ rfl rfl (S1.up E13).recs u1.recs (by omega) (by omega)).mono ?_; rw [decide_eq_true (rfl : l1 = l1)]; rintro e w14 ⟨rfl, d14⟩
  have E14 := E13.trans (d14.mono E13.size); have B14 := B13.trans (d14.mono B13.size)
  go_wp2_with fail
  refine (laws_toIntS _ _ _ l2 _ rfl (h2.below B14 (Nat.le_refl _)) n2).mono ?_; rintro e w15 ⟨t2, rfl, u2, d15⟩
  have E15 := E14.trans (d15.mono E14.size); have B15 := B14.trans (d15.mono B14.size)
  go_wp2_with fail
  refine (laws_eqIntS _ _ _ _ _ _ l2 l2 _ rfl rfl (S2.up E15).recs u2.recs (by omega) (by omega)).mono ?_; rw [decide_eq_true (rfl : l2 = l2)]; rintro e w16 ⟨rfl, d16⟩
  have E16 := E15.trans (d16.mono E15.size); have B16 := B15.trans (d16.mono B15.size)
  go_wp2_with fail
  refine (laws_toIntSS _ _ _ _ T _ rfl (hT.below B16 (Nat.le_refl _)) n4 r4.out).mono ?_; rintro e w17 ⟨us4, t4, rfl, u4, d17⟩
  have E17 := E16.trans (d17.mono E16.size); have B17 := B16.trans (d17.mono B16.size)
  go_wp2_with fail
  refine (laws_eqIntSS _ _ _ _ _ _ _ _ T T _ rfl rfl (S4.up E17).recs u4.recs (by omega) (by omega) r4'.out r4'.out).mono ?_; rw [decide_eq_true (rfl : T = T)]; rintro e w18 ⟨rfl, d18⟩
  have E18 := E17.trans (d18.mono E17.size); have B18 := B17.trans (d18.mono B17.size)
  obtain ⟨k0, k1, k2, k3⟩ := carry2.out _ E18
  go_wp2_with fail
  go_region_held3 (fun u => u.cell? ⟨w.heap.size, 0, none⟩ = some (.slice A5 l5.length c5) ∧ u.cell? ⟨w.heap.size, 1, none⟩ = some (.int .i64 x6) ∧ u.cell? ⟨w10.heap.size, 0, none⟩ = some (.slice (some ⟨p5, 0, none⟩) l5.length l5.length) ∧ u.cell? ⟨w10.heap.size, 1, none⟩ = some (.int .i64 x6)) (first | exact carry2.out _ E20 | exact carry2.out _ E19 | exact carry2.out _ (E18.drew)) (first | (go_at_call 42; refine (laws_toMatch _ _ _ l5 _ _ rfl (h5.below B18 (Nat.le_refl _)).drew n5').mono ?_; rintro e w19 ⟨t5, rfl, u5, dd9⟩; have d19 := below_of_drew dd9; have E19 := E18.trans (d19.mono E18.size); have B19 := B18.trans (d19.mono B18.size)) | (go_at_call 35; refine (laws_eqMatch _ _ _ _ _ _ l5 l5 _ _ _ rfl rfl (S5.up E19).recs u5.recs (by omega) (by omega)).mono ?_; rw [decide_eq_true (show l5 = l5 ∧ x6 = x6 from ⟨rfl, rfl⟩)]; rintro e w20 ⟨rfl, d20⟩; have E20 := E19.trans (d20.mono E19.size); have B20 := B19.trans (d20.mono B19.size)))
  go_wp2
  go_ret
  exact ⟨rfl, B20⟩
end Go.Proofs.Ytcpfcgcdahhnjaa
