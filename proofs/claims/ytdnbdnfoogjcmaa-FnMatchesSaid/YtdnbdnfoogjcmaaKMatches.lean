/- The walk through FnMatches: for all bytes the law answers true. -/
import Derived.Test.YtdnbdnfoogjcmaaWdcp
import Derived.Test.YtdnbdnfoogjcmaaWsam
import Derived.Test.YtdnbdnfoogjcmaaW22x
import Derived.Test.YtdnbdnfoogjcmaaW22v
namespace Go.Proofs.Ytdnbdnfoogjcmaa
set_option linter.unusedVariables false
set_option linter.unusedSimpArgs false
open Go.ChangeShapes Go.WideShapes Go.ChangeAt Go.RowKit Go.Deep
theorem cost_least {a b of : List Int} {s : Int} (h : costOk a b of s = true) : askedM a b s = true ∧ bestCost a b s ≤ costV a b of s := by
  have h' := h
  rw [costOk, Bool.and_eq_true] at h
  refine ⟨h.1, ?_⟩
  rw [costV_t h', (best_t h.1).2]
  exact least_cost (askedM_t h.1).2.2.1 h.2
theorem cost_best {a b : List Int} {s : Int} (h : askedM a b s = true) : costOk a b (bestOf a b s) s = true ∧ costV a b (bestOf a b s) s = bestCost a b s := by
  have q := best_way h
  have e : costOk a b (bestOf a b s) s = true := by rw [costOk, h, q.1]; rfl
  exact ⟨e, by rw [costV_t e, q.2]⟩
set_option maxHeartbeats 4000000 in
set_option maxRecDepth 100000 in
theorem law_Matches (A0 : Option Addr) (c0 : Nat) (l0 : List Int) (A1 : Option Addr) (c1 : Nat) (l1 : List Int) (w : World) (h0 : Recs byteE 1 w A0 l0) (hm0 : l0.length ≤ 9223372036854775807) (hb0 : ∀ x ∈ l0, 0 ≤ x ∧ x ≤ 255)
    (h1 : Recs byteE 1 w A1 l1) (hm1 : l1.length ≤ 9223372036854775807) (hb1 : ∀ x ∈ l1, 0 ≤ x ∧ x ≤ 255) :
    Calls Try.prog 3 #[.slice A0 l0.length c0, .slice A1 l1.length c1] w fun e w' => e = .returned (.bool true) ∧ Below w.heap.size w w' := by
  by_cases hz : l0.length + l1.length ≤ 1048576
  · have S0 := Lib.hid (show Src w A0 l0.length from ⟨l0, rfl, by omega, hb0, h0⟩)
    have S1 := Lib.hid (show Src w A1 l1.length from ⟨l1, rfl, by omega, hb1, h1⟩)
    clear h0 h1 hb0 hb1
    go_in
    go_wp2_with fail
    refine (laws_big _ _ _ _ _ _ _ (by omega) (by omega)).mono ?_; rintro e w' ⟨rfl, rfl⟩
    go_wp2_with fail
    refine (draw_CostOf S0.out).mono ?_; rintro e w1 ⟨A2, n2, c2, a, A3, n3, c3, b, A4, n4, c4, of, s, rfl, e2, e3, e4, k2, k3, k4, R2, R3, R4, hof, s0, s1, hB1⟩
    subst e2 e3 e4
    have HOF := Lib.hid hof
    clear hof
    go_wp2_with fail
    refine (impl_CostOf rfl R2 (by omega) rfl R3 (by omega) rfl R4 (by omega) HOF.out).mono ?_; rintro e w2 ⟨rfl, hb2⟩
    have R2 := R2.up hb2; have R3 := R3.up hb2; have R4 := R4.up hb2
    have HW := below_go hB1 hb2
    go_wp2_with fail
    refine (spec_CostOf rfl R2 (by omega) rfl R3 (by omega) rfl R4 (by omega) HOF.out).mono ?_; rintro e w3 ⟨rfl, hb3⟩
    have R2 := R2.up hb3; have R3 := R3.up hb3
    have HW := below_go HW hb3
    clear R4 hb2 hb3
    go_wp2_with fail
    refine (impl_BestMatch rfl R2 (by omega) rfl R3 (by omega)).mono ?_; rintro e w4 ⟨A5, c5, rfl, o5, n5, hb4⟩
    have R2 := R2.up hb4; have R3 := R3.up hb4
    have HW := below_go HW hb4
    go_wp2_with fail
    have hb5 : Below w4.heap.size w4 (w4.alloc (.cells #[.slice A5 (bestOf a b s).length c5, .int .i64 (bestCost a b s)] 30)) := by (repeat' (first | (with_reducible exact Below.refl _ _) | (with_reducible assumption) | (with_reducible refine below_drewN ?_ _) | (with_reducible refine Below.drew ?_) | (with_reducible refine below_alloc ?_ _) | (with_reducible refine Below.alloc ?_ ?_ _) | (with_reducible refine Below.setCell ?_ ?_ _) | (with_reducible refine below_go ?_ (by with_reducible assumption)) | (with_reducible refine below_then (by with_reducible assumption) ?_ ?_) | go_size))
    have K5 := Blk.at_ w4 30 [.slice A5 (bestOf a b s).length c5, .int .i64 (bestCost a b s)] (b := w4.heap.size) rfl
    obtain ⟨w5, hw5⟩ : ∃ u, u = (w4.alloc (.cells #[.slice A5 (bestOf a b s).length c5, .int .i64 (bestCost a b s)] 30)) := ⟨_, rfl⟩
    rw [← hw5] at hb5 K5 ⊢
    clear hw5
    have R2 := R2.up hb5; have R3 := R3.up hb5; have o5 := o5.up hb5
    have HW := below_go HW hb5
    refine (spec_BestMatch rfl R2 (by omega) rfl R3 (by omega)).mono ?_; rintro e w6 ⟨A6, c6, rfl, o6, n6, hb6⟩
    have R2 := R2.up hb6; have R3 := R3.up hb6; have o5 := o5.up hb6; have K5 := K5.up hb6
    have HW := below_go HW hb6
    go_wp2_with fail
    have hb7 : Below w6.heap.size w6 (w6.alloc (.cells #[.slice A6 (bestOf a b s).length c6, .int .i64 (bestCost a b s)] 30)) := by (repeat' (first | (with_reducible exact Below.refl _ _) | (with_reducible assumption) | (with_reducible refine below_drewN ?_ _) | (with_reducible refine Below.drew ?_) | (with_reducible refine below_alloc ?_ _) | (with_reducible refine Below.alloc ?_ ?_ _) | (with_reducible refine Below.setCell ?_ ?_ _) | (with_reducible refine below_go ?_ (by with_reducible assumption)) | (with_reducible refine below_then (by with_reducible assumption) ?_ ?_) | go_size))
    have K6 := Blk.at_ w6 30 [.slice A6 (bestOf a b s).length c6, .int .i64 (bestCost a b s)] (b := w6.heap.size) rfl
    obtain ⟨w7, hw7⟩ : ∃ u, u = (w6.alloc (.cells #[.slice A6 (bestOf a b s).length c6, .int .i64 (bestCost a b s)] 30)) := ⟨_, rfl⟩
    rw [← hw7] at hb7 K6 ⊢
    clear hw7
    have R2 := R2.up hb7; have R3 := R3.up hb7; have o5 := o5.up hb7; have K5 := K5.up hb7; have o6 := o6.up hb7
    have HW := below_go HW hb7
    refine (impl_PricesOf rfl R2 (by omega) rfl R3 (by omega)).mono ?_; rintro e w8 ⟨vs, A8, c8, rfl, T8, hb8⟩
    have R2 := R2.up hb8; have R3 := R3.up hb8; have o5 := o5.up hb8; have K5 := K5.up hb8; have o6 := o6.up hb8; have K6 := K6.up hb8
    have HW := below_go HW hb8
    go_wp2_with fail
    refine (spec_PricesOf rfl R2 (by omega) rfl R3 (by omega)).mono ?_; rintro e w9 ⟨us, A9, c9, rfl, T9, hb9⟩
    have R2 := R2.up hb9; have R3 := R3.up hb9; have o5 := o5.up hb9; have K5 := K5.up hb9; have o6 := o6.up hb9; have K6 := K6.up hb9; have T8 := T8.up hb9
    have HW := below_go HW hb9
    have q0 := K5.cell 0; have q1 := K5.cell 1; have q2 := K6.cell 0; have q3 := K6.cell 1
    simp only [List.getElem?_cons_zero, List.getElem?_cons_succ] at q0 q1 q2 q3
    have I5 := Lib.hid o5.recs; have I6 := Lib.hid o6.recs; have I8 := Lib.hid T8.recs; have I9 := Lib.hid T9.recs
    have HS := Lib.hid (pTabR_small (a := a) (b := b) (s := s))
    have HC := Lib.hid (cost_least (a := a) (b := b) (of := of) (s := s))
    have HB := Lib.hid (cost_best (a := a) (b := b) (s := s))
    clear hb4 hb5 hb6 hb7 hb8 hb9
    go_wp2_with fail
    refine (laws_sameInts rfl I5.out I6.out n5).mono ?_; rintro e w10 ⟨rfl, hd10⟩
    have hb10 := hd10.below
    have R2 := R2.up hb10; have R3 := R3.up hb10; have o5 := o5.up hb10; have K5 := K5.up hb10; have o6 := o6.up hb10; have K6 := K6.up hb10; have T8 := T8.up hb10; have T9 := T9.up hb10
    have HW := below_go HW hb10
    go_wp2_with fail
    refine (laws_sameLists rfl T8.recs T9.recs (fun r hr => by have := HS.out.2 r hr; omega) (by have := HS.out.1; omega)).mono ?_; rintro e w11 ⟨rfl, hd11⟩
    have hb11 := hd11.below
    have R2 := R2.up hb11; have R3 := R3.up hb11; have o5 := o5.up hb11; have K5 := K5.up hb11; have o6 := o6.up hb11; have K6 := K6.up hb11; have T8 := T8.up hb11; have T9 := T9.up hb11
    have HW := below_go HW hb11
    have q0 := K5.cell 0; have q1 := K5.cell 1; have q2 := K6.cell 0; have q3 := K6.cell 1
    simp only [List.getElem?_cons_zero, List.getElem?_cons_succ] at q0 q1 q2 q3
    clear hb10 hb11 hd10 hd11
    rcases hA : askedM a b s
    · have hk : costOk a b of s = false := by
        rcases h : costOk a b of s
        · rfl
        · have := (HC.out h).1; rw [hA] at this; cases this
      go_wp2_with fail
      refine (draw_CheckPrices (S1.out.up HW)).mono ?_; rintro e w20 ⟨D1, n1, d1, x1, D2, n2, d2, x2, t, us2, D4, n4, d4, T, D5, m5, d5, of2, x, rfl, e1, e2, e4, e5, k1, k2, k4, k5, r1, r2, rT, hT, r5, hof2, hb20⟩
      have HW := below_go HW hb20
      subst e1 e2 e4 e5
      have HT := Lib.hid hT; have HF := Lib.hid hof2
      clear hT hof2
      go_wp2_with fail
      have hb21 : Below w20.heap.size w20 (w20.alloc (.cells #[.slice D5 of2.length d5, .int .i64 x] 30)) := by (repeat' (first | (with_reducible exact Below.refl _ _) | (with_reducible assumption) | (with_reducible refine below_drewN ?_ _) | (with_reducible refine Below.drew ?_) | (with_reducible refine below_alloc ?_ _) | (with_reducible refine Below.alloc ?_ ?_ _) | (with_reducible refine Below.setCell ?_ ?_ _) | (with_reducible refine below_go ?_ (by with_reducible assumption)) | (with_reducible refine below_then (by with_reducible assumption) ?_ ?_) | go_size))
      have K7 := Blk.at_ w20 30 [.slice D5 of2.length d5, .int .i64 x] (b := w20.heap.size) rfl
      obtain ⟨w21, hw21⟩ : ∃ u, u = (w20.alloc (.cells #[.slice D5 of2.length d5, .int .i64 x] 30)) := ⟨_, rfl⟩
      rw [← hw21] at hb21 K7 ⊢
      clear hw21
      have r1 := r1.up hb21; have r2 := r2.up hb21; have rT := rT.up hb21; have r5 := r5.up hb21
      have HW := below_go HW hb21
      have q4 := K7.cell 0; have q5 := K7.cell 1
      simp only [List.getElem?_cons_zero, List.getElem?_cons_succ] at q4 q5
      refine (impl_CheckPrices rfl r1 (by omega) rfl r2 (by omega) rfl rT k4 HT.out rfl r5 k5 HF.out).mono ?_; rintro e w22 ⟨rfl, hb22⟩
      have r1 := r1.up hb22; have r2 := r2.up hb22; have rT := rT.up hb22; have r5 := r5.up hb22; have K7 := K7.up hb22
      have HW := below_go HW hb22
      have q4 := K7.cell 0; have q5 := K7.cell 1
      simp only [List.getElem?_cons_zero, List.getElem?_cons_succ] at q4 q5
      go_wp2_with fail
      refine (spec_CheckPrices rfl r1 (by omega) rfl r2 (by omega) rfl rT k4 HT.out rfl r5 k5 HF.out).mono ?_; rintro e w23 ⟨rfl, hb23⟩
      have r1 := r1.up hb23; have r2 := r2.up hb23; have K7 := K7.up hb23
      have HW := below_go HW hb23
      have HL := Lib.hid (cp_least (a := x1) (b := x2) (of := of2) (s := t) (x := x) (T := T))
      rcases c5 : cpOk x1 x2 t T
      · go_wp2
        go_ret
        exact ⟨rfl, HW⟩
      · rcases c6 : cpR x1 x2 t T of2 x
        · go_wp2
          go_ret
          exact ⟨rfl, HW⟩
        · have hm := HL.out c5 c6
          go_wp2_with fail
          refine (impl_BestMatch rfl r1 (by omega) rfl r2 (by omega)).mono ?_; rw [hm.1, hm.2]; rintro e w24 ⟨A7, c7, rfl, o7, n7, hb24⟩
          have HW := below_go HW hb24
          have K7 := K7.up hb24
          have q4 := K7.cell 0; have q5 := K7.cell 1
          simp only [List.getElem?_cons_zero, List.getElem?_cons_succ] at q4 q5
          have sz := K7.lt
          have q6 := ((Below.refl w24.heap.size w24).alloc (Nat.le_refl _) (.cells #[.slice A7 (bestOf x1 x2 t).length c7, .int .i64 x] 30)).cell (p := ⟨w20.heap.size, 1, none⟩) sz
          go_wp2
          go_ret
          exact ⟨rfl, by (repeat' (first | (with_reducible exact Below.refl _ _) | (with_reducible assumption) | (with_reducible refine below_drewN ?_ _) | (with_reducible refine Below.drew ?_) | (with_reducible refine below_alloc ?_ _) | (with_reducible refine Below.alloc ?_ ?_ _) | (with_reducible refine Below.setCell ?_ ?_ _) | (with_reducible refine below_go ?_ (by with_reducible assumption)) | (with_reducible refine below_then (by with_reducible assumption) ?_ ?_) | go_size))⟩
    · have hC := HB.out hA
      have hP := cp_best hA
      have lb : (bestOf a b s).length ≤ 7 := by rw [(best_t hA).1, bestGo_len]; exact k2
      rcases hk : costOk a b of s
      all_goals
        try have hle := (HC.out hk).2
        go_wp2_with fail
        refine (impl_CostOf rfl R2 (by omega) rfl R3 (by omega) rfl o5.recs (by omega) best_bd).mono ?_; rw [hC.1, hC.2]; rintro e w12 ⟨rfl, hb12⟩
        have R2 := R2.up hb12; have R3 := R3.up hb12; have o5 := o5.up hb12; have K5 := K5.up hb12; have o6 := o6.up hb12; have K6 := K6.up hb12; have T8 := T8.up hb12; have T9 := T9.up hb12
        have HW := below_go HW hb12
        have q0 := K5.cell 0; have q1 := K5.cell 1; have q2 := K6.cell 0; have q3 := K6.cell 1
        simp only [List.getElem?_cons_zero, List.getElem?_cons_succ] at q0 q1 q2 q3
        go_wp2_with fail
        refine (impl_CheckPrices rfl R2 (by omega) rfl R3 (by omega) rfl T8.recs (by have := HS.out.1; omega) (fun r hr => by have := HS.out.2 r hr; omega) rfl o5.recs (by omega) best_bd).mono ?_; rw [hP.1, hP.2]; rintro e w13 ⟨rfl, hb13⟩
        have K5 := K5.up hb13
        have HW := below_go HW hb13
        have q0 := K5.cell 0; have q1 := K5.cell 1
        simp only [List.getElem?_cons_zero, List.getElem?_cons_succ] at q0 q1
        go_wp2_with fail
        refine (draw_CheckPrices (S1.out.up HW)).mono ?_; rintro e w20 ⟨D1, n1, d1, x1, D2, n2, d2, x2, t, us2, D4, n4, d4, T, D5, m5, d5, of2, x, rfl, e1, e2, e4, e5, k1, k2, k4, k5, r1, r2, rT, hT, r5, hof2, hb20⟩
        have HW := below_go HW hb20
        subst e1 e2 e4 e5
        have HT := Lib.hid hT; have HF := Lib.hid hof2
        clear hT hof2
        go_wp2_with fail
        have hb21 : Below w20.heap.size w20 (w20.alloc (.cells #[.slice D5 of2.length d5, .int .i64 x] 30)) := by (repeat' (first | (with_reducible exact Below.refl _ _) | (with_reducible assumption) | (with_reducible refine below_drewN ?_ _) | (with_reducible refine Below.drew ?_) | (with_reducible refine below_alloc ?_ _) | (with_reducible refine Below.alloc ?_ ?_ _) | (with_reducible refine Below.setCell ?_ ?_ _) | (with_reducible refine below_go ?_ (by with_reducible assumption)) | (with_reducible refine below_then (by with_reducible assumption) ?_ ?_) | go_size))
        have K7 := Blk.at_ w20 30 [.slice D5 of2.length d5, .int .i64 x] (b := w20.heap.size) rfl
        obtain ⟨w21, hw21⟩ : ∃ u, u = (w20.alloc (.cells #[.slice D5 of2.length d5, .int .i64 x] 30)) := ⟨_, rfl⟩
        rw [← hw21] at hb21 K7 ⊢
        clear hw21
        have r1 := r1.up hb21; have r2 := r2.up hb21; have rT := rT.up hb21; have r5 := r5.up hb21
        have HW := below_go HW hb21
        have q4 := K7.cell 0; have q5 := K7.cell 1
        simp only [List.getElem?_cons_zero, List.getElem?_cons_succ] at q4 q5
        refine (impl_CheckPrices rfl r1 (by omega) rfl r2 (by omega) rfl rT k4 HT.out rfl r5 k5 HF.out).mono ?_; rintro e w22 ⟨rfl, hb22⟩
        have r1 := r1.up hb22; have r2 := r2.up hb22; have rT := rT.up hb22; have r5 := r5.up hb22; have K7 := K7.up hb22
        have HW := below_go HW hb22
        have q4 := K7.cell 0; have q5 := K7.cell 1
        simp only [List.getElem?_cons_zero, List.getElem?_cons_succ] at q4 q5
        go_wp2_with fail
        refine (spec_CheckPrices rfl r1 (by omega) rfl r2 (by omega) rfl rT k4 HT.out rfl r5 k5 HF.out).mono ?_; rintro e w23 ⟨rfl, hb23⟩
        have r1 := r1.up hb23; have r2 := r2.up hb23; have K7 := K7.up hb23
        have HW := below_go HW hb23
        have HL := Lib.hid (cp_least (a := x1) (b := x2) (of := of2) (s := t) (x := x) (T := T))
        rcases c5 : cpOk x1 x2 t T
        · go_wp2
          go_ret
          exact ⟨rfl, HW⟩
        · rcases c6 : cpR x1 x2 t T of2 x
          · go_wp2
            go_ret
            exact ⟨rfl, HW⟩
          · have hm := HL.out c5 c6
            go_wp2_with fail
            refine (impl_BestMatch rfl r1 (by omega) rfl r2 (by omega)).mono ?_; rw [hm.1, hm.2]; rintro e w24 ⟨A7, c7, rfl, o7, n7, hb24⟩
            have HW := below_go HW hb24
            have K7 := K7.up hb24
            have q4 := K7.cell 0; have q5 := K7.cell 1
            simp only [List.getElem?_cons_zero, List.getElem?_cons_succ] at q4 q5
            have sz := K7.lt
            have q6 := ((Below.refl w24.heap.size w24).alloc (Nat.le_refl _) (.cells #[.slice A7 (bestOf x1 x2 t).length c7, .int .i64 x] 30)).cell (p := ⟨w20.heap.size, 1, none⟩) sz
            go_wp2
            go_ret
            exact ⟨rfl, by (repeat' (first | (with_reducible exact Below.refl _ _) | (with_reducible assumption) | (with_reducible refine below_drewN ?_ _) | (with_reducible refine Below.drew ?_) | (with_reducible refine below_alloc ?_ _) | (with_reducible refine Below.alloc ?_ ?_ _) | (with_reducible refine Below.setCell ?_ ?_ _) | (with_reducible refine below_go ?_ (by with_reducible assumption)) | (with_reducible refine below_then (by with_reducible assumption) ?_ ?_) | go_size))⟩
  · go_in
    go_wp2_with fail
    refine (laws_big _ _ _ _ _ _ _ (by omega) (by omega)).mono ?_; rintro e w' ⟨rfl, rfl⟩
    go_wp2
    go_ret
    exact ⟨rfl, Below.refl _ _⟩
end Go.Proofs.Ytdnbdnfoogjcmaa
