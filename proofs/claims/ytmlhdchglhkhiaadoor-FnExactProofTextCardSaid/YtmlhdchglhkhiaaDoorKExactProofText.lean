/- The walk through FnExactProofText: both sides give the same, the arguments are left alone. -/
import Derived.Test.YtmlhdchglhkhiaaDoorW20u
namespace Go.Proofs.YtmlhdchglhkhiaaDoor
set_option linter.unusedVariables false
set_option linter.unusedSimpArgs false
open Go.ChangeShapes Go.WideShapes Go.ChangeAt Go.RowKit Go.Deep
set_option maxHeartbeats 2000000 in
set_option maxRecDepth 100000 in
theorem law_ProofText (A1 : Option Addr) (c1 : Nat) (l1 : List ByteArray) (A2 : Option Addr) (c2 : Nat) (l2 : List Line3) (w : World)
    (h1 : Recs strE 1 w A1 l1) (hm1 : l1.length ≤ 9223372036854775807) (hb1 : ∀ s ∈ l1, s.size ≤ maxLen) (h2 : Recs lineE 3 w A2 l2) (hm2 : l2.length ≤ 9223372036854775807) (hb2 : ∀ x ∈ l2, x.1.size ≤ maxLen ∧ I64 x.2.1 ∧ I64 x.2.2) :
    Calls Tryd.prog 6 #[.agg #[.slice A1 l1.length c1, .slice A2 l2.length c2]] w fun e w' => e = .returned (.bool true) ∧ Below w.heap.size w w' := by
  have s2 : ∀ x ∈ l2, x.1.size ≤ maxLen := fun x hx => (hb2 x hx).1
  have B0 : Below w.heap.size w (w.alloc (.cells #[.slice A1 l1.length c1, .slice A2 l2.length c2] 42)) := by (repeat' (first | (with_reducible exact Below.refl _ _) | (with_reducible assumption) | (with_reducible refine below_drewN ?_ _) | (with_reducible refine Below.drew ?_) | (with_reducible refine below_alloc ?_ _) | (with_reducible refine Below.alloc ?_ ?_ _) | (with_reducible refine Below.setCell ?_ ?_ _) | (with_reducible refine below_go ?_ (by with_reducible assumption)) | (with_reducible refine below_then (by with_reducible assumption) ?_ ?_) | go_size))
  have K0 := Blk.at_ w 42 [.slice A1 l1.length c1, .slice A2 l2.length c2] (b := w.heap.size) rfl
  have y1 := szS_len l1; have y2 := szL_len l2
  clear hb2
  obtain ⟨Z1, hZ1⟩ : ∃ z, z = szS l1 + szL l2 := ⟨_, rfl⟩
  have HZ1 := Lib.hid hZ1
  by_cases z1 : Z1 ≤ 1048576
  · have n1 : l1.length ≤ 1048576 := by omega
    have n2 : l2.length ≤ 1048576 := by omega
    have HE1 := Lib.hid (fun s (hs : s ∈ l1) => show s.size ≤ 16777216 by have := szS_each l1 s hs; omega)
    have HE2 := Lib.hid (fun x (hx : x ∈ l2) => show x.1.size ≤ 16777216 by have := szL_each2 l2 x hx; omega)
    have m1 : (0 : Int) ≤ 1048576 - Z1 ∧ (1048576 - Z1 : Int) ≤ 1048576 := by omega
    clear y1 y2 hZ1
    go_in
    go_wp2_with fail
    obtain ⟨w0, hw0⟩ : ∃ u, u = (w.alloc (.cells #[.slice A1 l1.length c1, .slice A2 l2.length c2] 42)) := ⟨_, rfl⟩
    rw [← hw0] at B0 K0 ⊢
    clear hw0
    have carry : Hid (∀ u : World, Below w0.heap.size w0 u → u.cell? ⟨w.heap.size, 0, none⟩ = some (.slice A1 l1.length c1) ∧ u.cell? ⟨w.heap.size, 1, none⟩ = some (.slice A2 l2.length c2)) := Lib.hid (fun u hu => by
      have L0 := K0.up hu
      exact ⟨by simpa using L0.cell 0, by simpa using L0.cell 1⟩)
    clear K0
    obtain ⟨k0, k1⟩ := carry.out _ (Below.refl _ _)
    refine (laws_szProof _ _ _ _ _ _ _ _ _ _ rfl rfl (h1.below B0 (Nat.le_refl _)) (h2.below B0 (Nat.le_refl _)) (by omega) (by omega) hm1 hm2 hb1 s2).mono ?_
    rw [← HZ1.out, szV_t z1]; rintro e w1 ⟨rfl, C1⟩
    have B1 := B0.trans (C1.mono B0.size)
    clear k0 k1
    obtain ⟨k0, k1⟩ := carry.out _ C1
    go_wp2_with fail
    refine (laws_toProof _ _ _ _ _ _ l1 l2 _ rfl rfl (h1.below B1 (Nat.le_refl _)) (h2.below B1 (Nat.le_refl _)) n1 n2).mono ?_; rintro e w2 ⟨q1, q2, rfl, r1, r2, d2⟩
    have C2 := C1.trans (d2.mono C1.size)
    clear k0 k1
    go_wp2_with fail
    refine (spec_ProofText rfl r1 rfl r2 n1 n2 HE1.out HE2.out).mono ?_; rintro e w3 ⟨rfl, d3⟩
    have C3 := C2.trans (d3.mono C2.size)
    have B3 := B0.trans (C3.mono B0.size)
    obtain ⟨k0, k1⟩ := carry.out _ C3
    go_wp2_with fail
    refine (laws_toProof _ _ _ _ _ _ l1 l2 _ rfl rfl (h1.below B3 (Nat.le_refl _)) (h2.below B3 (Nat.le_refl _)) n1 n2).mono ?_; rintro e w6 ⟨p1, p2, rfl, r5, r6, d6⟩
    have C6 := C3.trans (d6.mono C3.size)
    clear k0 k1
    have A7 : Below w6.heap.size w6 (w6.alloc (.cells #[.slice (some ⟨p1, 0, none⟩) l1.length l1.length, .slice (some ⟨p2, 0, none⟩) l2.length l2.length] 47)) := (Below.refl _ _).alloc (Nat.le_refl _) _
    have KX := Blk.at_ w6 47 [.slice (some ⟨p1, 0, none⟩) l1.length l1.length, .slice (some ⟨p2, 0, none⟩) l2.length l2.length] (b := w6.heap.size) rfl
    have r5 := r5.up A7; have r6 := r6.up A7
    have C7 := C6.trans (A7.mono C6.size)
    have x0 := KX.cell 0; have x1 := KX.cell 1
    simp only [List.getElem?_cons_zero, List.getElem?_cons_succ] at x0 x1
    go_wp2_with fail
    obtain ⟨w7, hw7⟩ : ∃ u, u = w6.alloc (.cells #[.slice (some ⟨p1, 0, none⟩) l1.length l1.length, .slice (some ⟨p2, 0, none⟩) l2.length l2.length] 47) := ⟨_, rfl⟩
    rw [← hw7] at KX r5 r6 C7 ⊢
    clear x0 x1 hw7 A7
    have carry2 : Hid (∀ u : World, Below w7.heap.size w7 u → u.cell? ⟨w.heap.size, 0, none⟩ = some (.slice A1 l1.length c1) ∧ u.cell? ⟨w.heap.size, 1, none⟩ = some (.slice A2 l2.length c2) ∧ u.cell? ⟨w6.heap.size, 0, none⟩ = some (.slice (some ⟨p1, 0, none⟩) l1.length l1.length) ∧ u.cell? ⟨w6.heap.size, 1, none⟩ = some (.slice (some ⟨p2, 0, none⟩) l2.length l2.length)) := Lib.hid (fun u hu => by
      have q := carry.out u (C7.trans (hu.mono C7.size))
      have L0 := KX.up hu
      exact ⟨q.1, q.2, by simpa using L0.cell 0, by simpa using L0.cell 1⟩)
    clear KX carry
    have B7 := B0.trans (C7.mono B0.size)
    refine (impl_ProofText rfl r5 rfl r6 n1 n2 HE1.out HE2.out (Nat.le_refl _)).mono ?_; rintro e w10 ⟨rfl, d10⟩
    have B10 := B7.trans (d10.mono B7.size)
    obtain ⟨k0, k1, k4, k5⟩ := carry2.out _ d10
    obtain ⟨rs, hrs⟩ : ∃ rs, rs = pfR l1 l2 := ⟨_, rfl⟩
    obtain ⟨rb, hrb⟩ : ∃ rb, rb = goodPf l1 l2 := ⟨_, rfl⟩
    rw [← hrs, ← hrb]
    have hbs : (rs.toList == rs.toList) = true := by simp
    have hbb : (rb == rb) = true := by simp
    clear hrs hrb
    go_wp2_with fail
    go_region_held3 (fun u => u.cell? ⟨w.heap.size, 0, none⟩ = some (.slice A1 l1.length c1) ∧ u.cell? ⟨w.heap.size, 1, none⟩ = some (.slice A2 l2.length c2) ∧ u.cell? ⟨w6.heap.size, 0, none⟩ = some (.slice (some ⟨p1, 0, none⟩) l1.length l1.length) ∧ u.cell? ⟨w6.heap.size, 1, none⟩ = some (.slice (some ⟨p2, 0, none⟩) l2.length l2.length)) (first | exact carry2.out _ E12 | exact carry2.out _ E11 | exact carry2.out _ (d10.drew)) (first | (go_at_call 24; refine (laws_toProof _ _ _ _ _ _ l1 l2 _ rfl rfl (h1.below B10 (Nat.le_refl _)).drew (h2.below B10 (Nat.le_refl _)).drew n1 n2).mono ?_; rintro e w11 ⟨q1, q2, rfl, r1, r2, dd⟩; have d11 := below_of_drew dd; have E11 := d10.trans (d11.mono d10.size)) | (go_at_call 26; refine (laws_eqProof _ _ _ _ _ _ _ _ _ _ _ _ l1 l1 l2 l2 _ rfl rfl rfl rfl ((r5.up d10).up d11) r1 ((r6.up d10).up d11) r2 (by omega) (by omega) (by omega) (by omega)).mono ?_; rw [show (decide (l1 = l1) && decide (l2 = l2)) = true by simp]; rintro e w12 ⟨rfl, d12⟩; have E12 := E11.trans (d12.mono E11.size)))
    have B12 := B7.trans (E12.mono B7.size)
    go_wp2
    go_ret
    exact ⟨rfl, B12⟩
  · have HZ := Lib.hid z1
    clear hZ1
    go_in
    go_wp2_with fail
    refine (laws_szProof _ _ _ _ _ _ _ _ _ _ rfl rfl (h1.below B0 (Nat.le_refl _)) (h2.below B0 (Nat.le_refl _)) (by omega) (by omega) hm1 hm2 hb1 s2).mono ?_
    rw [← HZ1.out, szV_f (Int.not_le.2 HZ.out)]; rintro e w1 ⟨rfl, d1⟩
    go_wp2
    go_ret
    exact ⟨rfl, below_go B0 d1⟩
end Go.Proofs.YtmlhdchglhkhiaaDoor
