/- Texts 7 of 7 that the claim leans on: plain laws and the walks' contracts, in order. -/
import Derived.Test.YtpccbmndgdiloaaMMatched6
/- The walk through FnMatched: for all bytes the law answers true. -/
namespace Go.Proofs.Ytpccbmndgdiloaa
set_option linter.unusedVariables false
set_option linter.unusedSimpArgs false
open Go.ChangeShapes Go.WideShapes Go.ChangeAt Go.RowKit Go.Deep
set_option maxHeartbeats 4000000 in
set_option maxRecDepth 100000 in
theorem law_Matched (A0 : Option Addr) (c0 : Nat) (l0 : List Int) (A1 : Option Addr) (c1 : Nat) (l1 : List Int) (w : World) (h0 : Recs byteE 1 w A0 l0) (hm0 : l0.length ≤ 9223372036854775807) (hb0 : ∀ x ∈ l0, 0 ≤ x ∧ x ≤ 255)
    (h1 : Recs byteE 1 w A1 l1) (hm1 : l1.length ≤ 9223372036854775807) (hb1 : ∀ x ∈ l1, 0 ≤ x ∧ x ≤ 255) :
    Calls Try.prog 6 #[.slice A0 l0.length c0, .slice A1 l1.length c1] w fun e w' => e = .returned (.bool true) ∧ Below w.heap.size w w' := by
  by_cases hz : l0.length + l1.length ≤ 1048576
  · have S0 := Lib.hid (show Src w A0 l0.length from ⟨l0, rfl, by omega, hb0, h0⟩)
    have S1 := Lib.hid (show Src w A1 l1.length from ⟨l1, rfl, by omega, hb1, h1⟩)
    clear h0 h1 hb0 hb1
    go_in
    go_wp2_with fail
    refine (laws_big _ _ _ _ _ _ _ (by omega) (by omega)).mono ?_; rintro e w' ⟨rfl, rfl⟩
    go_wp2_with fail
    refine (draw_BestMatch S0.out).mono ?_; rintro e w1 ⟨A2, n2, c2, a, A3, n3, c3, b, s, rfl, ea, eb, k2, k3, o2, o3, s0, s1, hB1⟩
    have HW := hB1
    have R2 := o2.recs
    have R3 := o3.recs
    clear hB1 o2 o3
    obtain ⟨M, hM⟩ : ∃ u, u = bestOf a b s := ⟨_, rfl⟩
    have GM := Lib.hid hM
    clear hM
    obtain ⟨X, hX⟩ : ∃ u, u = bestCost a b s := ⟨_, rfl⟩
    have GX := Lib.hid hX
    clear hX
    have HM := GM
    rcases hA : askedM a b s
    · go_wp2_with fail
      refine (impl_BestMatch ea R2 (by omega) eb R3 (by omega)).mono ?_; rw [hA, ← GM.out, ← GX.out]; rintro e w4 ⟨A5, c5, rfl, o5, z5, hb4⟩
      have R2 := R2.up hb4
      have R3 := R3.up hb4
      have HW := below_go HW hb4
      have R5 := o5.recs
      clear hb4 o5
      have hbb : Below w4.heap.size w4 (w4.alloc (.cells #[.slice A5 M.length c5, .int .i64 X] 64)) := by (repeat' (first | (with_reducible exact Below.refl _ _) | (with_reducible assumption) | (with_reducible refine below_drewN ?_ _) | (with_reducible refine Below.drew ?_) | (with_reducible refine below_alloc ?_ _) | (with_reducible refine Below.alloc ?_ ?_ _) | (with_reducible refine Below.setCell ?_ ?_ _) | (with_reducible refine below_go ?_ (by with_reducible assumption)) | (with_reducible refine below_then (by with_reducible assumption) ?_ ?_) | go_size))
      have K5 := Blk.at_ w4 64 [.slice A5 M.length c5, .int .i64 X] (b := w4.heap.size) rfl
      go_upto_region 5 with fail
      obtain ⟨v4, hv⟩ : ∃ u, u = w4.alloc (.cells #[.slice A5 M.length c5, .int .i64 X] 64) := ⟨_, rfl⟩
      rw [← hv] at hbb K5 ⊢
      clear hv
      have R2 := R2.up hbb
      have R3 := R3.up hbb
      have R5 := R5.up hbb
      have HW := below_go HW hbb
      clear hbb
      go_wp2_with fail
      refine (spec_BestMatch ea R2 (by omega) eb R3 (by omega)).mono ?_; rw [hA, ← GM.out, ← GX.out]; rintro e w6 ⟨A6, c6, rfl, o6, _, hb6⟩
      have R2 := R2.up hb6
      have R3 := R3.up hb6
      have R5 := R5.up hb6
      have K5 := K5.up hb6
      have HW := below_go HW hb6
      have R6 := o6.recs
      clear hb6 o6
      have hbb : Below w6.heap.size w6 (w6.alloc (.cells #[.slice A6 M.length c6, .int .i64 X] 64)) := by (repeat' (first | (with_reducible exact Below.refl _ _) | (with_reducible assumption) | (with_reducible refine below_drewN ?_ _) | (with_reducible refine Below.drew ?_) | (with_reducible refine below_alloc ?_ _) | (with_reducible refine Below.alloc ?_ ?_ _) | (with_reducible refine Below.setCell ?_ ?_ _) | (with_reducible refine below_go ?_ (by with_reducible assumption)) | (with_reducible refine below_then (by with_reducible assumption) ?_ ?_) | go_size))
      have K6 := Blk.at_ w6 64 [.slice A6 M.length c6, .int .i64 X] (b := w6.heap.size) rfl
      go_upto_region 6 with fail
      obtain ⟨v6, hv⟩ : ∃ u, u = w6.alloc (.cells #[.slice A6 M.length c6, .int .i64 X] 64) := ⟨_, rfl⟩
      rw [← hv] at hbb K6 ⊢
      clear hv
      have R2 := R2.up hbb
      have R3 := R3.up hbb
      have R5 := R5.up hbb
      have K5 := K5.up hbb
      have R6 := R6.up hbb
      have HW := below_go HW hbb
      clear hbb
      have p0 := K5.cell 0; have p1 := K5.cell 1
      simp only [List.getElem?_cons_zero, List.getElem?_cons_succ] at p0 p1
      have r0 := K6.cell 0; have r1 := K6.cell 1
      simp only [List.getElem?_cons_zero, List.getElem?_cons_succ] at r0 r1
      go_wp2_with fail
      refine (laws_sameInts rfl R5 R6 z5).mono ?_; rintro e w7 ⟨rfl, hd⟩
      have hb7 := hd.below
      have R2 := R2.up hb7
      have R3 := R3.up hb7
      have R5 := R5.up hb7
      have K5 := K5.up hb7
      have R6 := R6.up hb7
      have K6 := K6.up hb7
      have HW := below_go HW hb7
      clear hd hb7
      go_wp2_with fail
      refine (impl_GoodTimes ea R2 (by omega)).mono ?_; rintro e w8 ⟨rfl, rfl⟩
      go_wp2_with fail
      refine (spec_GoodTimes ea R2 (by omega)).mono ?_; rintro e w9 ⟨rfl, rfl⟩
      clear R2 R3 R5 R6 K5 K6 p0 p1 r0 r1 HM GM GX hA
      go_wp2_with fail
      refine (draw_MissedIn (S1.out.over HW)).mono ?_; rintro e w20 ⟨A20, m20, c20, L20, x20, rfl, e20, k20, R20, hb20⟩
      have HW := below_go HW hb20
      clear hb20
      have hbb : Below w20.heap.size w20 (w20.alloc (.cells #[.slice A20 m20 c20, .int .i64 x20] 64)) := by (repeat' (first | (with_reducible exact Below.refl _ _) | (with_reducible assumption) | (with_reducible refine below_drewN ?_ _) | (with_reducible refine Below.drew ?_) | (with_reducible refine below_alloc ?_ _) | (with_reducible refine Below.alloc ?_ ?_ _) | (with_reducible refine Below.setCell ?_ ?_ _) | (with_reducible refine below_go ?_ (by with_reducible assumption)) | (with_reducible refine below_then (by with_reducible assumption) ?_ ?_) | go_size))
      have K20 := Blk.at_ w20 64 [.slice A20 m20 c20, .int .i64 x20] (b := w20.heap.size) rfl
      go_upto_region 15 with fail
      obtain ⟨v20, hv⟩ : ∃ u, u = w20.alloc (.cells #[.slice A20 m20 c20, .int .i64 x20] 64) := ⟨_, rfl⟩
      rw [← hv] at hbb K20 ⊢
      clear hv
      have R20 := R20.up hbb
      have HW := below_go HW hbb
      clear hbb
      have p0 := K20.cell 0; have p1 := K20.cell 1
      simp only [List.getElem?_cons_zero, List.getElem?_cons_succ] at p0 p1
      obtain ⟨M20, hM20⟩ : ∃ u, u = missR L20 := ⟨_, rfl⟩
      have GM20 := Lib.hid hM20
      clear hM20
      obtain ⟨q20, hq20⟩ : ∃ u, u = ofOk L20 60 := ⟨_, rfl⟩
      have Gq20 := Lib.hid hq20
      clear hq20
      go_wp2_with fail
      refine (impl_MissedIn (x := x20) e20 R20 (by omega)).mono ?_; rw [← GM20.out, ← Gq20.out]; rintro e w21 ⟨A21, c21, rfl, o21, z21, hb21⟩
      have R20 := R20.up hb21
      have K20 := K20.up hb21
      have HW := below_go HW hb21
      have p0 := K20.cell 0; have p1 := K20.cell 1
      simp only [List.getElem?_cons_zero, List.getElem?_cons_succ] at p0 p1
      have R21 := o21.recs
      clear hb21 o21
      go_wp2_with fail
      refine (spec_MissedIn (x := x20) e20 R20 (by omega)).mono ?_; rw [← GM20.out, ← Gq20.out]; rintro e w22 ⟨A22, c22, rfl, o22, _, hb22⟩
      have R21 := R21.up hb22
      have HW := below_go HW hb22
      have R22 := o22.recs
      clear hb22 o22 K20 R20 p0 p1 GM20 Gq20
      go_wp2_with fail
      refine (draw_ExtraIn (S1.out.over HW)).mono ?_; rintro e w23 ⟨A23, m23, c23, L23, x23, s23, rfl, e23, k23, R23, hb23⟩
      have R21 := R21.up hb23
      have R22 := R22.up hb23
      have HW := below_go HW hb23
      clear hb23
      have hbb : Below w23.heap.size w23 (w23.alloc (.cells #[.slice A23 m23 c23, .int .i64 x23] 64)) := by (repeat' (first | (with_reducible exact Below.refl _ _) | (with_reducible assumption) | (with_reducible refine below_drewN ?_ _) | (with_reducible refine Below.drew ?_) | (with_reducible refine below_alloc ?_ _) | (with_reducible refine Below.alloc ?_ ?_ _) | (with_reducible refine Below.setCell ?_ ?_ _) | (with_reducible refine below_go ?_ (by with_reducible assumption)) | (with_reducible refine below_then (by with_reducible assumption) ?_ ?_) | go_size))
      have K23 := Blk.at_ w23 64 [.slice A23 m23 c23, .int .i64 x23] (b := w23.heap.size) rfl
      go_upto_region 18 with fail
      obtain ⟨v23, hv⟩ : ∃ u, u = w23.alloc (.cells #[.slice A23 m23 c23, .int .i64 x23] 64) := ⟨_, rfl⟩
      rw [← hv] at hbb K23 ⊢
      clear hv
      have R21 := R21.up hbb
      have R22 := R22.up hbb
      have R23 := R23.up hbb
      have HW := below_go HW hbb
      clear hbb
      have p0 := K23.cell 0; have p1 := K23.cell 1
      simp only [List.getElem?_cons_zero, List.getElem?_cons_succ] at p0 p1
      obtain ⟨M23, hM23⟩ : ∃ u, u = extraR s23 L23 := ⟨_, rfl⟩
      have GM23 := Lib.hid hM23
      clear hM23
      obtain ⟨q23, hq23⟩ : ∃ u, u = extraOk s23 L23 := ⟨_, rfl⟩
      have Gq23 := Lib.hid hq23
      clear hq23
      go_wp2_with fail
      refine (impl_ExtraIn (x := x23) (s := s23) e23 R23 (by omega)).mono ?_; rw [← GM23.out, ← Gq23.out]; rintro e w24 ⟨A24, c24, rfl, o24, z24, hb24⟩
      have R21 := R21.up hb24
      have R22 := R22.up hb24
      have R23 := R23.up hb24
      have K23 := K23.up hb24
      have HW := below_go HW hb24
      have p0 := K23.cell 0; have p1 := K23.cell 1
      simp only [List.getElem?_cons_zero, List.getElem?_cons_succ] at p0 p1
      have R24 := o24.recs
      clear hb24 o24
      go_wp2_with fail
      refine (spec_ExtraIn (x := x23) (s := s23) e23 R23 (by omega)).mono ?_; rw [← GM23.out, ← Gq23.out]; rintro e w25 ⟨A25, c25, rfl, o25, _, hb25⟩
      have R21 := R21.up hb25
      have R22 := R22.up hb25
      have R24 := R24.up hb25
      have HW := below_go HW hb25
      have R25 := o25.recs
      clear hb25 o25 K23 R23 p0 p1 GM23 Gq23
      go_wp2_with fail
      refine (draw_ClippedIn (S1.out.over HW)).mono ?_; rintro e w26 ⟨A26, m26, c26, L26, s26, rfl, e26, k26, R26, hb26⟩
      have R21 := R21.up hb26
      have R22 := R22.up hb26
      have R24 := R24.up hb26
      have R25 := R25.up hb26
      have HW := below_go HW hb26
      clear hb26
      obtain ⟨M26, hM26⟩ : ∃ u, u = clipR L26 s26 := ⟨_, rfl⟩
      have GM26 := Lib.hid hM26
      clear hM26
      obtain ⟨q26, hq26⟩ : ∃ u, u = clipOk L26 s26 := ⟨_, rfl⟩
      have Gq26 := Lib.hid hq26
      clear hq26
      go_wp2_with fail
      refine (impl_ClippedIn (d := s26) e26 R26 (by omega)).mono ?_; rw [← GM26.out, ← Gq26.out]; rintro e w27 ⟨A27, c27, rfl, o27, z27, hb27⟩
      have R21 := R21.up hb27
      have R22 := R22.up hb27
      have R24 := R24.up hb27
      have R25 := R25.up hb27
      have R26 := R26.up hb27
      have HW := below_go HW hb27
      have R27 := o27.recs
      clear hb27 o27
      go_wp2_with fail
      refine (spec_ClippedIn (d := s26) e26 R26 (by omega)).mono ?_; rw [← GM26.out, ← Gq26.out]; rintro e w28 ⟨A28, c28, rfl, o28, _, hb28⟩
      have R21 := R21.up hb28
      have R22 := R22.up hb28
      have R24 := R24.up hb28
      have R25 := R25.up hb28
      have R27 := R27.up hb28
      have HW := below_go HW hb28
      have R28 := o28.recs
      clear hb28 o28 R26 GM26 Gq26
      go_wp2_with fail
      refine (draw_MatchBell (S1.out.over HW)).mono ?_; rintro e w29 ⟨x, y, z, A29, m29, c29, L29, A30, m30, c30, L30, bell, s, rfl, e29, k29, d29, R29, e30, k30, R30, hb29⟩
      have R21 := R21.up hb29
      have R22 := R22.up hb29
      have R24 := R24.up hb29
      have R25 := R25.up hb29
      have R27 := R27.up hb29
      have R28 := R28.up hb29
      have HW := below_go HW hb29
      have HD := Lib.hid d29
      clear hb29 d29
      have hbb : Below w29.heap.size w29 (w29.alloc (.cells #[.int .i64 x, .int .i64 y, .int .i64 z] 80)) := by (repeat' (first | (with_reducible exact Below.refl _ _) | (with_reducible assumption) | (with_reducible refine below_drewN ?_ _) | (with_reducible refine Below.drew ?_) | (with_reducible refine below_alloc ?_ _) | (with_reducible refine Below.alloc ?_ ?_ _) | (with_reducible refine Below.setCell ?_ ?_ _) | (with_reducible refine below_go ?_ (by with_reducible assumption)) | (with_reducible refine below_then (by with_reducible assumption) ?_ ?_) | go_size))
      have K29 := Blk.at_ w29 80 [.int .i64 x, .int .i64 y, .int .i64 z] (b := w29.heap.size) rfl
      go_upto_region 24 with fail
      obtain ⟨v29, hv⟩ : ∃ u, u = w29.alloc (.cells #[.int .i64 x, .int .i64 y, .int .i64 z] 80) := ⟨_, rfl⟩
      rw [← hv] at hbb K29 ⊢
      clear hv
      have R21 := R21.up hbb
      have R22 := R22.up hbb
      have R24 := R24.up hbb
      have R25 := R25.up hbb
      have R27 := R27.up hbb
      have R28 := R28.up hbb
      have R29 := R29.up hbb
      have R30 := R30.up hbb
      have HW := below_go HW hbb
      clear hbb
      have p0 := K29.cell 0; have p1 := K29.cell 1; have p2 := K29.cell 2
      simp only [List.getElem?_cons_zero, List.getElem?_cons_succ] at p0 p1 p2
      obtain ⟨M31, hM31⟩ : ∃ u, u = mbOf x y z L29 L30 bell s := ⟨_, rfl⟩
      have GM31 := Lib.hid hM31
      clear hM31
      obtain ⟨q31, hq31⟩ : ∃ u, u = mbAsk x y z L29 L30 bell s := ⟨_, rfl⟩
      have Gq31 := Lib.hid hq31
      clear hq31
      obtain ⟨x31, hx31⟩ : ∃ u, u = mbCost x y z L29 L30 bell s := ⟨_, rfl⟩
      have Gx31 := Lib.hid hx31
      clear hx31
      go_wp2_with fail
      refine (impl_MatchBell e29 R29 (by omega) e30 R30 (by omega) HD.out).mono ?_; rw [← GM31.out, ← Gq31.out, ← Gx31.out]; rintro e w31 ⟨A31, c31, rfl, o31, z31, hb31⟩
      have R21 := R21.up hb31
      have R22 := R22.up hb31
      have R24 := R24.up hb31
      have R25 := R25.up hb31
      have R27 := R27.up hb31
      have R28 := R28.up hb31
      have R29 := R29.up hb31
      have R30 := R30.up hb31
      have K29 := K29.up hb31
      have HW := below_go HW hb31
      have R31 := o31.recs
      clear hb31 o31
      have hbb : Below w31.heap.size w31 (w31.alloc (.cells #[.slice A31 M31.length c31, .int .i64 x31] 64)) := by (repeat' (first | (with_reducible exact Below.refl _ _) | (with_reducible assumption) | (with_reducible refine below_drewN ?_ _) | (with_reducible refine Below.drew ?_) | (with_reducible refine below_alloc ?_ _) | (with_reducible refine Below.alloc ?_ ?_ _) | (with_reducible refine Below.setCell ?_ ?_ _) | (with_reducible refine below_go ?_ (by with_reducible assumption)) | (with_reducible refine below_then (by with_reducible assumption) ?_ ?_) | go_size))
      have K31 := Blk.at_ w31 64 [.slice A31 M31.length c31, .int .i64 x31] (b := w31.heap.size) rfl
      go_upto_region 25 with fail
      obtain ⟨v31, hv⟩ : ∃ u, u = w31.alloc (.cells #[.slice A31 M31.length c31, .int .i64 x31] 64) := ⟨_, rfl⟩
      rw [← hv] at hbb K31 ⊢
      clear hv
      have R21 := R21.up hbb
      have R22 := R22.up hbb
      have R24 := R24.up hbb
      have R25 := R25.up hbb
      have R27 := R27.up hbb
      have R28 := R28.up hbb
      have R29 := R29.up hbb
      have R30 := R30.up hbb
      have K29 := K29.up hbb
      have R31 := R31.up hbb
      have HW := below_go HW hbb
      clear hbb
      have p0 := K29.cell 0; have p1 := K29.cell 1; have p2 := K29.cell 2
      simp only [List.getElem?_cons_zero, List.getElem?_cons_succ] at p0 p1 p2
      go_wp2_with fail
      refine (spec_MatchBell e29 R29 (by omega) e30 R30 (by omega) HD.out).mono ?_; rw [← GM31.out, ← Gq31.out, ← Gx31.out]; rintro e w32 ⟨A32, c32, rfl, o32, _, hb32⟩
      have R21 := R21.up hb32
      have R22 := R22.up hb32
      have R24 := R24.up hb32
      have R25 := R25.up hb32
      have R27 := R27.up hb32
      have R28 := R28.up hb32
      have R29 := R29.up hb32
      have R30 := R30.up hb32
      have K29 := K29.up hb32
      have R31 := R31.up hb32
      have K31 := K31.up hb32
      have HW := below_go HW hb32
      have R32 := o32.recs
      clear hb32 o32 K29 R29 R30 p0 p1 p2 GM31 Gq31 Gx31 HD
      have hbb : Below w32.heap.size w32 (w32.alloc (.cells #[.slice A32 M31.length c32, .int .i64 x31] 64)) := by (repeat' (first | (with_reducible exact Below.refl _ _) | (with_reducible assumption) | (with_reducible refine below_drewN ?_ _) | (with_reducible refine Below.drew ?_) | (with_reducible refine below_alloc ?_ _) | (with_reducible refine Below.alloc ?_ ?_ _) | (with_reducible refine Below.setCell ?_ ?_ _) | (with_reducible refine below_go ?_ (by with_reducible assumption)) | (with_reducible refine below_then (by with_reducible assumption) ?_ ?_) | go_size))
      have K32 := Blk.at_ w32 64 [.slice A32 M31.length c32, .int .i64 x31] (b := w32.heap.size) rfl
      go_upto_region 26 with fail
      obtain ⟨v32, hv⟩ : ∃ u, u = w32.alloc (.cells #[.slice A32 M31.length c32, .int .i64 x31] 64) := ⟨_, rfl⟩
      rw [← hv] at hbb K32 ⊢
      clear hv
      have R21 := R21.up hbb
      have R22 := R22.up hbb
      have R24 := R24.up hbb
      have R25 := R25.up hbb
      have R27 := R27.up hbb
      have R28 := R28.up hbb
      have R31 := R31.up hbb
      have K31 := K31.up hbb
      have R32 := R32.up hbb
      have HW := below_go HW hbb
      clear hbb
      have p0 := K31.cell 0; have p1 := K31.cell 1
      simp only [List.getElem?_cons_zero, List.getElem?_cons_succ] at p0 p1
      have r0 := K32.cell 0; have r1 := K32.cell 1
      simp only [List.getElem?_cons_zero, List.getElem?_cons_succ] at r0 r1
      go_wp2_with fail
      refine (laws_sameInts rfl R21 R22 z21).mono ?_; rintro e w33 ⟨rfl, hd⟩
      have hb33 := hd.below
      have R21 := R21.up hb33
      have R22 := R22.up hb33
      have R24 := R24.up hb33
      have R25 := R25.up hb33
      have R27 := R27.up hb33
      have R28 := R28.up hb33
      have R31 := R31.up hb33
      have K31 := K31.up hb33
      have R32 := R32.up hb33
      have K32 := K32.up hb33
      have HW := below_go HW hb33
      clear hd hb33
      have p0 := K31.cell 0; have p1 := K31.cell 1
      simp only [List.getElem?_cons_zero, List.getElem?_cons_succ] at p0 p1
      have r0 := K32.cell 0; have r1 := K32.cell 1
      simp only [List.getElem?_cons_zero, List.getElem?_cons_succ] at r0 r1
      go_wp2_with fail
      refine (laws_sameInts rfl R24 R25 z24).mono ?_; rintro e w34 ⟨rfl, hd⟩
      have hb34 := hd.below
      have R21 := R21.up hb34
      have R22 := R22.up hb34
      have R24 := R24.up hb34
      have R25 := R25.up hb34
      have R27 := R27.up hb34
      have R28 := R28.up hb34
      have R31 := R31.up hb34
      have K31 := K31.up hb34
      have R32 := R32.up hb34
      have K32 := K32.up hb34
      have HW := below_go HW hb34
      clear hd hb34
      have p0 := K31.cell 0; have p1 := K31.cell 1
      simp only [List.getElem?_cons_zero, List.getElem?_cons_succ] at p0 p1
      have r0 := K32.cell 0; have r1 := K32.cell 1
      simp only [List.getElem?_cons_zero, List.getElem?_cons_succ] at r0 r1
      go_wp2_with fail
      refine (laws_sameInts rfl R27 R28 z27).mono ?_; rintro e w35 ⟨rfl, hd⟩
      have hb35 := hd.below
      have R21 := R21.up hb35
      have R22 := R22.up hb35
      have R24 := R24.up hb35
      have R25 := R25.up hb35
      have R27 := R27.up hb35
      have R28 := R28.up hb35
      have R31 := R31.up hb35
      have K31 := K31.up hb35
      have R32 := R32.up hb35
      have K32 := K32.up hb35
      have HW := below_go HW hb35
      clear hd hb35
      have p0 := K31.cell 0; have p1 := K31.cell 1
      simp only [List.getElem?_cons_zero, List.getElem?_cons_succ] at p0 p1
      have r0 := K32.cell 0; have r1 := K32.cell 1
      simp only [List.getElem?_cons_zero, List.getElem?_cons_succ] at r0 r1
      go_wp2_with fail
      refine (laws_sameInts rfl R31 R32 z31).mono ?_; rintro e w36 ⟨rfl, hd⟩
      go_wp2
      go_ret
      exact ⟨rfl, below_go HW hd.below⟩
    · obtain ⟨u1, u2, u3, u4, u5⟩ := matched_all hA
      obtain ⟨v1, v2⟩ := self_free hA
      rw [← GM.out] at u1 u2 u3 u4 u5
      have UU := Lib.hid u5
      have u6 : (a.length : Int) - ((missR M).length : Int) = (b.length : Int) - ((extraR b.length M).length : Int) := by omega
      rw [eb, ea] at u6
      have U6 := Lib.hid u6
      rw [eb] at u2
      clear u3 u4 u5 u6
      go_wp2_with fail
      refine (impl_BestMatch ea R2 (by omega) eb R3 (by omega)).mono ?_; rw [hA, ← GM.out, ← GX.out]; rintro e w4 ⟨A5, c5, rfl, o5, z5, hb4⟩
      have R2 := R2.up hb4
      have R3 := R3.up hb4
      have HW := below_go HW hb4
      have R5 := o5.recs
      clear hb4 o5
      have hbb : Below w4.heap.size w4 (w4.alloc (.cells #[.slice A5 M.length c5, .int .i64 X] 64)) := by (repeat' (first | (with_reducible exact Below.refl _ _) | (with_reducible assumption) | (with_reducible refine below_drewN ?_ _) | (with_reducible refine Below.drew ?_) | (with_reducible refine below_alloc ?_ _) | (with_reducible refine Below.alloc ?_ ?_ _) | (with_reducible refine Below.setCell ?_ ?_ _) | (with_reducible refine below_go ?_ (by with_reducible assumption)) | (with_reducible refine below_then (by with_reducible assumption) ?_ ?_) | go_size))
      have K5 := Blk.at_ w4 64 [.slice A5 M.length c5, .int .i64 X] (b := w4.heap.size) rfl
      go_upto_region 5 with fail
      obtain ⟨v4, hv⟩ : ∃ u, u = w4.alloc (.cells #[.slice A5 M.length c5, .int .i64 X] 64) := ⟨_, rfl⟩
      rw [← hv] at hbb K5 ⊢
      clear hv
      have R2 := R2.up hbb
      have R3 := R3.up hbb
      have R5 := R5.up hbb
      have HW := below_go HW hbb
      clear hbb
      go_wp2_with fail
      refine (spec_BestMatch ea R2 (by omega) eb R3 (by omega)).mono ?_; rw [hA, ← GM.out, ← GX.out]; rintro e w6 ⟨A6, c6, rfl, o6, _, hb6⟩
      have R2 := R2.up hb6
      have R3 := R3.up hb6
      have R5 := R5.up hb6
      have K5 := K5.up hb6
      have HW := below_go HW hb6
      have R6 := o6.recs
      clear hb6 o6
      have hbb : Below w6.heap.size w6 (w6.alloc (.cells #[.slice A6 M.length c6, .int .i64 X] 64)) := by (repeat' (first | (with_reducible exact Below.refl _ _) | (with_reducible assumption) | (with_reducible refine below_drewN ?_ _) | (with_reducible refine Below.drew ?_) | (with_reducible refine below_alloc ?_ _) | (with_reducible refine Below.alloc ?_ ?_ _) | (with_reducible refine Below.setCell ?_ ?_ _) | (with_reducible refine below_go ?_ (by with_reducible assumption)) | (with_reducible refine below_then (by with_reducible assumption) ?_ ?_) | go_size))
      have K6 := Blk.at_ w6 64 [.slice A6 M.length c6, .int .i64 X] (b := w6.heap.size) rfl
      go_upto_region 6 with fail
      obtain ⟨v6, hv⟩ : ∃ u, u = w6.alloc (.cells #[.slice A6 M.length c6, .int .i64 X] 64) := ⟨_, rfl⟩
      rw [← hv] at hbb K6 ⊢
      clear hv
      have R2 := R2.up hbb
      have R3 := R3.up hbb
      have R5 := R5.up hbb
      have K5 := K5.up hbb
      have R6 := R6.up hbb
      have HW := below_go HW hbb
      clear hbb
      have p0 := K5.cell 0; have p1 := K5.cell 1
      simp only [List.getElem?_cons_zero, List.getElem?_cons_succ] at p0 p1
      have r0 := K6.cell 0; have r1 := K6.cell 1
      simp only [List.getElem?_cons_zero, List.getElem?_cons_succ] at r0 r1
      go_wp2_with fail
      refine (laws_sameInts rfl R5 R6 z5).mono ?_; rintro e w7 ⟨rfl, hd⟩
      have hb7 := hd.below
      have R2 := R2.up hb7
      have R3 := R3.up hb7
      have R5 := R5.up hb7
      have K5 := K5.up hb7
      have R6 := R6.up hb7
      have K6 := K6.up hb7
      have HW := below_go HW hb7
      clear hd hb7
      go_wp2_with fail
      refine (impl_GoodTimes ea R2 (by omega)).mono ?_; rintro e w8 ⟨rfl, rfl⟩
      go_wp2_with fail
      refine (spec_GoodTimes ea R2 (by omega)).mono ?_; rintro e w9 ⟨rfl, rfl⟩
      have p0 := K5.cell 0; have p1 := K5.cell 1
      simp only [List.getElem?_cons_zero, List.getElem?_cons_succ] at p0 p1
      clear K6 r0 r1 R6
      obtain ⟨N1, hN1⟩ : ∃ u, u = missR M := ⟨_, rfl⟩
      have GN1 := Lib.hid hN1
      clear hN1
      obtain ⟨N2, hN2⟩ : ∃ u, u = extraR (n3 : Int) M := ⟨_, rfl⟩
      have GN2 := Lib.hid hN2
      clear hN2
      rw [← GN1.out, ← GN2.out] at U6
      go_wp2_with fail
      refine (impl_MissedIn (x := X) rfl R5 z5).mono ?_; rw [u1, ← GN1.out]; rintro e w11 ⟨A11, c11, rfl, _, z11, hb11⟩
      have R2 := R2.up hb11
      have R3 := R3.up hb11
      have R5 := R5.up hb11
      have K5 := K5.up hb11
      have HW := below_go HW hb11
      have p0 := K5.cell 0; have p1 := K5.cell 1
      simp only [List.getElem?_cons_zero, List.getElem?_cons_succ] at p0 p1
      clear hb11
      go_wp2_with fail
      refine (impl_ExtraIn (x := X) (s := (n3 : Int)) rfl R5 z5).mono ?_; rw [u2, ← GN2.out]; rintro e w12 ⟨A12, c12, rfl, _, z12, hb12⟩
      have R2 := R2.up hb12
      have R3 := R3.up hb12
      have R5 := R5.up hb12
      have K5 := K5.up hb12
      have HW := below_go HW hb12
      clear hb12 K5 R5 p0 p1
      go_wp2_with fail
      refine (impl_BestMatch ea R2 (by omega) ea R2 (by omega)).mono ?_; rw [v1, v2]; rintro e w13 ⟨A13, c13, rfl, _, z13, hb13⟩
      have R2 := R2.up hb13
      have R3 := R3.up hb13
      have HW := below_go HW hb13
      clear hb13
      have hbb : Below w13.heap.size w13 (w13.alloc (.cells #[.slice A13 (bestOf a a s).length c13, .int .i64 0] 64)) := by (repeat' (first | (with_reducible exact Below.refl _ _) | (with_reducible assumption) | (with_reducible refine below_drewN ?_ _) | (with_reducible refine Below.drew ?_) | (with_reducible refine below_alloc ?_ _) | (with_reducible refine Below.alloc ?_ ?_ _) | (with_reducible refine Below.setCell ?_ ?_ _) | (with_reducible refine below_go ?_ (by with_reducible assumption)) | (with_reducible refine below_then (by with_reducible assumption) ?_ ?_) | go_size))
      have K13 := Blk.at_ w13 64 [.slice A13 (bestOf a a s).length c13, .int .i64 0] (b := w13.heap.size) rfl
      go_upto_region 12 with fail
      obtain ⟨v13, hv⟩ : ∃ u, u = w13.alloc (.cells #[.slice A13 (bestOf a a s).length c13, .int .i64 0] 64) := ⟨_, rfl⟩
      rw [← hv] at hbb K13 ⊢
      clear hv
      have R2 := R2.up hbb
      have R3 := R3.up hbb
      have HW := below_go HW hbb
      clear hbb
      have p0 := K13.cell 0; have p1 := K13.cell 1
      simp only [List.getElem?_cons_zero, List.getElem?_cons_succ] at p0 p1
      have U7 := U6.out
      clear GN1 GN2 R2 R3 K13 hA HM GM GX UU u1 u2 v1 v2
      go_wp2_with fail
      refine (draw_MissedIn (S1.out.over HW)).mono ?_; rintro e w20 ⟨A20, m20, c20, L20, x20, rfl, e20, k20, R20, hb20⟩
      have HW := below_go HW hb20
      clear hb20
      have hbb : Below w20.heap.size w20 (w20.alloc (.cells #[.slice A20 m20 c20, .int .i64 x20] 64)) := by (repeat' (first | (with_reducible exact Below.refl _ _) | (with_reducible assumption) | (with_reducible refine below_drewN ?_ _) | (with_reducible refine Below.drew ?_) | (with_reducible refine below_alloc ?_ _) | (with_reducible refine Below.alloc ?_ ?_ _) | (with_reducible refine Below.setCell ?_ ?_ _) | (with_reducible refine below_go ?_ (by with_reducible assumption)) | (with_reducible refine below_then (by with_reducible assumption) ?_ ?_) | go_size))
      have K20 := Blk.at_ w20 64 [.slice A20 m20 c20, .int .i64 x20] (b := w20.heap.size) rfl
      go_upto_region 15 with fail
      obtain ⟨v20, hv⟩ : ∃ u, u = w20.alloc (.cells #[.slice A20 m20 c20, .int .i64 x20] 64) := ⟨_, rfl⟩
      rw [← hv] at hbb K20 ⊢
      clear hv
      have R20 := R20.up hbb
      have HW := below_go HW hbb
      clear hbb
      have p0 := K20.cell 0; have p1 := K20.cell 1
      simp only [List.getElem?_cons_zero, List.getElem?_cons_succ] at p0 p1
      obtain ⟨M20, hM20⟩ : ∃ u, u = missR L20 := ⟨_, rfl⟩
      have GM20 := Lib.hid hM20
      clear hM20
      obtain ⟨q20, hq20⟩ : ∃ u, u = ofOk L20 60 := ⟨_, rfl⟩
      have Gq20 := Lib.hid hq20
      clear hq20
      go_wp2_with fail
      refine (impl_MissedIn (x := x20) e20 R20 (by omega)).mono ?_; rw [← GM20.out, ← Gq20.out]; rintro e w21 ⟨A21, c21, rfl, o21, z21, hb21⟩
      have R20 := R20.up hb21
      have K20 := K20.up hb21
      have HW := below_go HW hb21
      have p0 := K20.cell 0; have p1 := K20.cell 1
      simp only [List.getElem?_cons_zero, List.getElem?_cons_succ] at p0 p1
      have R21 := o21.recs
      clear hb21 o21
      go_wp2_with fail
      refine (spec_MissedIn (x := x20) e20 R20 (by omega)).mono ?_; rw [← GM20.out, ← Gq20.out]; rintro e w22 ⟨A22, c22, rfl, o22, _, hb22⟩
      have R21 := R21.up hb22
      have HW := below_go HW hb22
      have R22 := o22.recs
      clear hb22 o22 K20 R20 p0 p1 GM20 Gq20
      go_wp2_with fail
      refine (draw_ExtraIn (S1.out.over HW)).mono ?_; rintro e w23 ⟨A23, m23, c23, L23, x23, s23, rfl, e23, k23, R23, hb23⟩
      have R21 := R21.up hb23
      have R22 := R22.up hb23
      have HW := below_go HW hb23
      clear hb23
      have hbb : Below w23.heap.size w23 (w23.alloc (.cells #[.slice A23 m23 c23, .int .i64 x23] 64)) := by (repeat' (first | (with_reducible exact Below.refl _ _) | (with_reducible assumption) | (with_reducible refine below_drewN ?_ _) | (with_reducible refine Below.drew ?_) | (with_reducible refine below_alloc ?_ _) | (with_reducible refine Below.alloc ?_ ?_ _) | (with_reducible refine Below.setCell ?_ ?_ _) | (with_reducible refine below_go ?_ (by with_reducible assumption)) | (with_reducible refine below_then (by with_reducible assumption) ?_ ?_) | go_size))
      have K23 := Blk.at_ w23 64 [.slice A23 m23 c23, .int .i64 x23] (b := w23.heap.size) rfl
      go_upto_region 18 with fail
      obtain ⟨v23, hv⟩ : ∃ u, u = w23.alloc (.cells #[.slice A23 m23 c23, .int .i64 x23] 64) := ⟨_, rfl⟩
      rw [← hv] at hbb K23 ⊢
      clear hv
      have R21 := R21.up hbb
      have R22 := R22.up hbb
      have R23 := R23.up hbb
      have HW := below_go HW hbb
      clear hbb
      have p0 := K23.cell 0; have p1 := K23.cell 1
      simp only [List.getElem?_cons_zero, List.getElem?_cons_succ] at p0 p1
      obtain ⟨M23, hM23⟩ : ∃ u, u = extraR s23 L23 := ⟨_, rfl⟩
      have GM23 := Lib.hid hM23
      clear hM23
      obtain ⟨q23, hq23⟩ : ∃ u, u = extraOk s23 L23 := ⟨_, rfl⟩
      have Gq23 := Lib.hid hq23
      clear hq23
      go_wp2_with fail
      refine (impl_ExtraIn (x := x23) (s := s23) e23 R23 (by omega)).mono ?_; rw [← GM23.out, ← Gq23.out]; rintro e w24 ⟨A24, c24, rfl, o24, z24, hb24⟩
      have R21 := R21.up hb24
      have R22 := R22.up hb24
      have R23 := R23.up hb24
      have K23 := K23.up hb24
      have HW := below_go HW hb24
      have p0 := K23.cell 0; have p1 := K23.cell 1
      simp only [List.getElem?_cons_zero, List.getElem?_cons_succ] at p0 p1
      have R24 := o24.recs
      clear hb24 o24
      go_wp2_with fail
      refine (spec_ExtraIn (x := x23) (s := s23) e23 R23 (by omega)).mono ?_; rw [← GM23.out, ← Gq23.out]; rintro e w25 ⟨A25, c25, rfl, o25, _, hb25⟩
      have R21 := R21.up hb25
      have R22 := R22.up hb25
      have R24 := R24.up hb25
      have HW := below_go HW hb25
      have R25 := o25.recs
      clear hb25 o25 K23 R23 p0 p1 GM23 Gq23
      go_wp2_with fail
      refine (draw_ClippedIn (S1.out.over HW)).mono ?_; rintro e w26 ⟨A26, m26, c26, L26, s26, rfl, e26, k26, R26, hb26⟩
      have R21 := R21.up hb26
      have R22 := R22.up hb26
      have R24 := R24.up hb26
      have R25 := R25.up hb26
      have HW := below_go HW hb26
      clear hb26
      obtain ⟨M26, hM26⟩ : ∃ u, u = clipR L26 s26 := ⟨_, rfl⟩
      have GM26 := Lib.hid hM26
      clear hM26
      obtain ⟨q26, hq26⟩ : ∃ u, u = clipOk L26 s26 := ⟨_, rfl⟩
      have Gq26 := Lib.hid hq26
      clear hq26
      go_wp2_with fail
      refine (impl_ClippedIn (d := s26) e26 R26 (by omega)).mono ?_; rw [← GM26.out, ← Gq26.out]; rintro e w27 ⟨A27, c27, rfl, o27, z27, hb27⟩
      have R21 := R21.up hb27
      have R22 := R22.up hb27
      have R24 := R24.up hb27
      have R25 := R25.up hb27
      have R26 := R26.up hb27
      have HW := below_go HW hb27
      have R27 := o27.recs
      clear hb27 o27
      go_wp2_with fail
      refine (spec_ClippedIn (d := s26) e26 R26 (by omega)).mono ?_; rw [← GM26.out, ← Gq26.out]; rintro e w28 ⟨A28, c28, rfl, o28, _, hb28⟩
      have R21 := R21.up hb28
      have R22 := R22.up hb28
      have R24 := R24.up hb28
      have R25 := R25.up hb28
      have R27 := R27.up hb28
      have HW := below_go HW hb28
      have R28 := o28.recs
      clear hb28 o28 R26 GM26 Gq26
      go_wp2_with fail
      refine (draw_MatchBell (S1.out.over HW)).mono ?_; rintro e w29 ⟨x, y, z, A29, m29, c29, L29, A30, m30, c30, L30, bell, s, rfl, e29, k29, d29, R29, e30, k30, R30, hb29⟩
      have R21 := R21.up hb29
      have R22 := R22.up hb29
      have R24 := R24.up hb29
      have R25 := R25.up hb29
      have R27 := R27.up hb29
      have R28 := R28.up hb29
      have HW := below_go HW hb29
      have HD := Lib.hid d29
      clear hb29 d29
      have hbb : Below w29.heap.size w29 (w29.alloc (.cells #[.int .i64 x, .int .i64 y, .int .i64 z] 80)) := by (repeat' (first | (with_reducible exact Below.refl _ _) | (with_reducible assumption) | (with_reducible refine below_drewN ?_ _) | (with_reducible refine Below.drew ?_) | (with_reducible refine below_alloc ?_ _) | (with_reducible refine Below.alloc ?_ ?_ _) | (with_reducible refine Below.setCell ?_ ?_ _) | (with_reducible refine below_go ?_ (by with_reducible assumption)) | (with_reducible refine below_then (by with_reducible assumption) ?_ ?_) | go_size))
      have K29 := Blk.at_ w29 80 [.int .i64 x, .int .i64 y, .int .i64 z] (b := w29.heap.size) rfl
      go_upto_region 24 with fail
      obtain ⟨v29, hv⟩ : ∃ u, u = w29.alloc (.cells #[.int .i64 x, .int .i64 y, .int .i64 z] 80) := ⟨_, rfl⟩
      rw [← hv] at hbb K29 ⊢
      clear hv
      have R21 := R21.up hbb
      have R22 := R22.up hbb
      have R24 := R24.up hbb
      have R25 := R25.up hbb
      have R27 := R27.up hbb
      have R28 := R28.up hbb
      have R29 := R29.up hbb
      have R30 := R30.up hbb
      have HW := below_go HW hbb
      clear hbb
      have p0 := K29.cell 0; have p1 := K29.cell 1; have p2 := K29.cell 2
      simp only [List.getElem?_cons_zero, List.getElem?_cons_succ] at p0 p1 p2
      obtain ⟨M31, hM31⟩ : ∃ u, u = mbOf x y z L29 L30 bell s := ⟨_, rfl⟩
      have GM31 := Lib.hid hM31
      clear hM31
      obtain ⟨q31, hq31⟩ : ∃ u, u = mbAsk x y z L29 L30 bell s := ⟨_, rfl⟩
      have Gq31 := Lib.hid hq31
      clear hq31
      obtain ⟨x31, hx31⟩ : ∃ u, u = mbCost x y z L29 L30 bell s := ⟨_, rfl⟩
      have Gx31 := Lib.hid hx31
      clear hx31
      go_wp2_with fail
      refine (impl_MatchBell e29 R29 (by omega) e30 R30 (by omega) HD.out).mono ?_; rw [← GM31.out, ← Gq31.out, ← Gx31.out]; rintro e w31 ⟨A31, c31, rfl, o31, z31, hb31⟩
      have R21 := R21.up hb31
      have R22 := R22.up hb31
      have R24 := R24.up hb31
      have R25 := R25.up hb31
      have R27 := R27.up hb31
      have R28 := R28.up hb31
      have R29 := R29.up hb31
      have R30 := R30.up hb31
      have K29 := K29.up hb31
      have HW := below_go HW hb31
      have R31 := o31.recs
      clear hb31 o31
      have hbb : Below w31.heap.size w31 (w31.alloc (.cells #[.slice A31 M31.length c31, .int .i64 x31] 64)) := by (repeat' (first | (with_reducible exact Below.refl _ _) | (with_reducible assumption) | (with_reducible refine below_drewN ?_ _) | (with_reducible refine Below.drew ?_) | (with_reducible refine below_alloc ?_ _) | (with_reducible refine Below.alloc ?_ ?_ _) | (with_reducible refine Below.setCell ?_ ?_ _) | (with_reducible refine below_go ?_ (by with_reducible assumption)) | (with_reducible refine below_then (by with_reducible assumption) ?_ ?_) | go_size))
      have K31 := Blk.at_ w31 64 [.slice A31 M31.length c31, .int .i64 x31] (b := w31.heap.size) rfl
      go_upto_region 25 with fail
      obtain ⟨v31, hv⟩ : ∃ u, u = w31.alloc (.cells #[.slice A31 M31.length c31, .int .i64 x31] 64) := ⟨_, rfl⟩
      rw [← hv] at hbb K31 ⊢
      clear hv
      have R21 := R21.up hbb
      have R22 := R22.up hbb
      have R24 := R24.up hbb
      have R25 := R25.up hbb
      have R27 := R27.up hbb
      have R28 := R28.up hbb
      have R29 := R29.up hbb
      have R30 := R30.up hbb
      have K29 := K29.up hbb
      have R31 := R31.up hbb
      have HW := below_go HW hbb
      clear hbb
      have p0 := K29.cell 0; have p1 := K29.cell 1; have p2 := K29.cell 2
      simp only [List.getElem?_cons_zero, List.getElem?_cons_succ] at p0 p1 p2
      go_wp2_with fail
      refine (spec_MatchBell e29 R29 (by omega) e30 R30 (by omega) HD.out).mono ?_; rw [← GM31.out, ← Gq31.out, ← Gx31.out]; rintro e w32 ⟨A32, c32, rfl, o32, _, hb32⟩
      have R21 := R21.up hb32
      have R22 := R22.up hb32
      have R24 := R24.up hb32
      have R25 := R25.up hb32
      have R27 := R27.up hb32
      have R28 := R28.up hb32
      have R29 := R29.up hb32
      have R30 := R30.up hb32
      have K29 := K29.up hb32
      have R31 := R31.up hb32
      have K31 := K31.up hb32
      have HW := below_go HW hb32
      have R32 := o32.recs
      clear hb32 o32 K29 R29 R30 p0 p1 p2 GM31 Gq31 Gx31 HD
      have hbb : Below w32.heap.size w32 (w32.alloc (.cells #[.slice A32 M31.length c32, .int .i64 x31] 64)) := by (repeat' (first | (with_reducible exact Below.refl _ _) | (with_reducible assumption) | (with_reducible refine below_drewN ?_ _) | (with_reducible refine Below.drew ?_) | (with_reducible refine below_alloc ?_ _) | (with_reducible refine Below.alloc ?_ ?_ _) | (with_reducible refine Below.setCell ?_ ?_ _) | (with_reducible refine below_go ?_ (by with_reducible assumption)) | (with_reducible refine below_then (by with_reducible assumption) ?_ ?_) | go_size))
      have K32 := Blk.at_ w32 64 [.slice A32 M31.length c32, .int .i64 x31] (b := w32.heap.size) rfl
      go_upto_region 26 with fail
      obtain ⟨v32, hv⟩ : ∃ u, u = w32.alloc (.cells #[.slice A32 M31.length c32, .int .i64 x31] 64) := ⟨_, rfl⟩
      rw [← hv] at hbb K32 ⊢
      clear hv
      have R21 := R21.up hbb
      have R22 := R22.up hbb
      have R24 := R24.up hbb
      have R25 := R25.up hbb
      have R27 := R27.up hbb
      have R28 := R28.up hbb
      have R31 := R31.up hbb
      have K31 := K31.up hbb
      have R32 := R32.up hbb
      have HW := below_go HW hbb
      clear hbb
      have p0 := K31.cell 0; have p1 := K31.cell 1
      simp only [List.getElem?_cons_zero, List.getElem?_cons_succ] at p0 p1
      have r0 := K32.cell 0; have r1 := K32.cell 1
      simp only [List.getElem?_cons_zero, List.getElem?_cons_succ] at r0 r1
      go_wp2_with fail
      refine (laws_sameInts rfl R21 R22 z21).mono ?_; rintro e w33 ⟨rfl, hd⟩
      have hb33 := hd.below
      have R21 := R21.up hb33
      have R22 := R22.up hb33
      have R24 := R24.up hb33
      have R25 := R25.up hb33
      have R27 := R27.up hb33
      have R28 := R28.up hb33
      have R31 := R31.up hb33
      have K31 := K31.up hb33
      have R32 := R32.up hb33
      have K32 := K32.up hb33
      have HW := below_go HW hb33
      clear hd hb33
      have p0 := K31.cell 0; have p1 := K31.cell 1
      simp only [List.getElem?_cons_zero, List.getElem?_cons_succ] at p0 p1
      have r0 := K32.cell 0; have r1 := K32.cell 1
      simp only [List.getElem?_cons_zero, List.getElem?_cons_succ] at r0 r1
      go_wp2_with fail
      refine (laws_sameInts rfl R24 R25 z24).mono ?_; rintro e w34 ⟨rfl, hd⟩
      have hb34 := hd.below
      have R21 := R21.up hb34
      have R22 := R22.up hb34
      have R24 := R24.up hb34
      have R25 := R25.up hb34
      have R27 := R27.up hb34
      have R28 := R28.up hb34
      have R31 := R31.up hb34
      have K31 := K31.up hb34
      have R32 := R32.up hb34
      have K32 := K32.up hb34
      have HW := below_go HW hb34
      clear hd hb34
      have p0 := K31.cell 0; have p1 := K31.cell 1
      simp only [List.getElem?_cons_zero, List.getElem?_cons_succ] at p0 p1
      have r0 := K32.cell 0; have r1 := K32.cell 1
      simp only [List.getElem?_cons_zero, List.getElem?_cons_succ] at r0 r1
      go_wp2_with fail
      refine (laws_sameInts rfl R27 R28 z27).mono ?_; rintro e w35 ⟨rfl, hd⟩
      have hb35 := hd.below
      have R21 := R21.up hb35
      have R22 := R22.up hb35
      have R24 := R24.up hb35
      have R25 := R25.up hb35
      have R27 := R27.up hb35
      have R28 := R28.up hb35
      have R31 := R31.up hb35
      have K31 := K31.up hb35
      have R32 := R32.up hb35
      have K32 := K32.up hb35
      have HW := below_go HW hb35
      clear hd hb35
      have p0 := K31.cell 0; have p1 := K31.cell 1
      simp only [List.getElem?_cons_zero, List.getElem?_cons_succ] at p0 p1
      have r0 := K32.cell 0; have r1 := K32.cell 1
      simp only [List.getElem?_cons_zero, List.getElem?_cons_succ] at r0 r1
      go_wp2_with fail
      refine (laws_sameInts rfl R31 R32 z31).mono ?_; rintro e w36 ⟨rfl, hd⟩
      go_wp2
      go_ret
      exact ⟨rfl, below_go HW hd.below⟩
  · go_in
    go_wp2_with fail
    refine (laws_big _ _ _ _ _ _ _ (by omega) (by omega)).mono ?_; rintro e w' ⟨rfl, rfl⟩
    go_wp2
    go_ret
    exact ⟨rfl, Below.refl _ _⟩
end Go.Proofs.Ytpccbmndgdiloaa
