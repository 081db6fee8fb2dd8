/- The walk through the library's merging in place, at strikes. -/
import Derived.Test.YthffeljicohpdaaWsw5
namespace Go.Proofs.Ythffeljicohpdaa
set_option linter.unusedVariables false
set_option linter.unusedSimpArgs false
open Go.ChangeShapes Go.WideShapes Go.ChangeAt Go.RowKit Go.Deep
theorem mg_eq {A B : List (Int × Int)} (h : A = [] ∨ B = []) : List.merge A B leT = A ++ B := by
  rcases h with rfl | rfl <;> simp
theorem sym_parts {LA LB : List (Int × Int)} {k h : Nat} (hk : k ≤ LA.length) (hh : h ≤ LB.length) (hA : srtT LA) (hB : srtT LB) (tA : midT LA) (tB : midT LB) (h1 : symI LA LB k h) (h2 : symJ LA LB k h) : ∃ A1 A2 B1 B2 : List (Int × Int), (LA = A1 ++ A2 ∧ LB = B1 ++ B2) ∧ (A1.length = k ∧ A2.length = LA.length - k ∧ B1.length = h ∧ B2.length = LB.length - h) ∧ List.merge LA LB leT = List.merge A1 B1 leT ++ List.merge A2 B2 leT ∧ (srtT A1 ∧ srtT A2 ∧ srtT B1 ∧ srtT B2) ∧ (midT A1 ∧ midT A2 ∧ midT B1 ∧ midT B2) :=
  ⟨LA.take k, LA.drop k, LB.take h, LB.drop h, ⟨(List.take_append_drop ..).symm, (List.take_append_drop ..).symm⟩, ⟨by simp; omega, by simp, by simp; omega, by simp⟩, sym_cut hA hB h1 h2, ⟨srtT_take hA k, srtT_drop hA k, srtT_take hB h, srtT_drop hB h⟩, ⟨midT_take tA k, midT_drop tA k, midT_take tB h, midT_drop tB h⟩⟩
set_option maxHeartbeats 4000000 in
set_option maxRecDepth 100000 in
theorem sl_symMerge (N : Nat) : ∀ (A : Option Addr) (n c base a m b : Nat) (P LA LB Q : List (Int × Int)) (w : World) (_ : Owned strikeE 2 34 w base A n c (P ++ (LA ++ (LB ++ Q)))) (_ : n ≤ 16777216) (_ : P.length = a) (_ : a + LA.length = m) (_ : m + LB.length = b) (_ : 0 < LA.length) (_ : 0 < LB.length) (_ : base ≤ w.heap.size) (_ : midT LA) (_ : midT LB) (_ : srtT LA) (_ : srtT LB) (_ : LA.length + LB.length ≤ N),
    Calls Try.prog 25 #[.slice A n c, .int .i64 a, .int .i64 m, .int .i64 b, .func (.func 17) #[] #[]] w fun e w' => e = .returned (.tuple #[]) ∧ Owned strikeE 2 34 w' base A n c (P ++ (List.merge LA LB leT ++ Q)) ∧ Below base w w' := by
  induction N with
  | zero => intro A n c base a m b P LA LB Q w hO hz ha hm hb h1 h2; omega
  | succ N ih =>
    intro A n c base a m b P LA LB Q w hO hz ha hm hb h1 h2 hbase hTA hTB hSA hSB hN
    by_cases hA1 : LA.length = 1
    · obtain ⟨x, rfl⟩ := List.length_eq_one_iff.1 hA1
      exact sl_symOne hO hz ha (by simpa using hm) hb hbase (fun s hs => by
        rcases List.mem_cons.1 hs with q | q
        · exact hTA s (q ▸ List.mem_singleton.2 rfl)
        · exact hTB s q) hSB
    by_cases hB1 : LB.length = 1
    · obtain ⟨x, rfl⟩ := List.length_eq_one_iff.1 hB1
      exact sl_symLast hO hz ha hm (by simpa using hb) (by omega) hbase hTA hTB hSA
    have hL := hO.len
    have hbn : b ≤ n := by rw [← hL]; simp; omega
    have HA := Lib.hid ha
    have HM := Lib.hid hm
    have HB := Lib.hid hb
    have HTA := Lib.hid hTA
    have HTB := Lib.hid hTB
    have HSA := Lib.hid hSA
    have HSB := Lib.hid hSB
    have IH := Lib.hid ih
    have HN := Lib.hid hN
    have e0 : ((m : Int) - (a : Int) == 1) = false := by rw [beq_eq_false_iff_ne]; omega
    have e1 : ((b : Int) - (m : Int) == 1) = false := by rw [beq_eq_false_iff_ne]; omega
    have hpos : 0 < n := by omega
    have ham : a + 2 ≤ m := by omega
    have hmb : m + 2 ≤ b := by omega
    obtain ⟨mid, hmid⟩ : ∃ k, k = (a + b) / 2 := ⟨_, rfl⟩
    have hmI : ((a : Int) + (b : Int)) / 2 = (mid : Int) := by omega
    have hm1 : a + b ≤ 2 * mid + 1 := by omega
    have hm2 : 2 * mid ≤ a + b := by omega
    obtain ⟨p, hp⟩ : ∃ p, p + 1 = mid + m := ⟨mid + m - 1, by omega⟩
    have hpI : (mid : Int) + (m : Int) - 1 = (p : Int) := by omega
    have HP := Lib.hid hp
    obtain ⟨s0, r0, hcase⟩ : ∃ s0 r0 : Nat, (mid < m ∧ mid + m = s0 + b ∧ mid = r0) ∨ (m ≤ mid ∧ a = s0 ∧ m = r0) := by
      by_cases h : mid < m
      · exact ⟨mid + m - b, mid, .inl ⟨h, by omega, rfl⟩⟩
      · exact ⟨a, m, .inr ⟨by omega, rfl, rfl⟩⟩
    have HST : Hid (a ≤ s0 ∧ s0 ≤ r0 ∧ r0 ≤ mid ∧ r0 ≤ m ∧ mid ≤ s0 + LB.length ∧ symI LA LB (s0 - a) (mid - s0) ∧ symJ LA LB (r0 - a) (mid - r0)) := Lib.hid (by
      rcases hcase with ⟨q1, q2, q3⟩ | ⟨q1, q2, q3⟩
      · exact ⟨by omega, by omega, by omega, by omega, by omega, .inr (.inl (by omega)), .inr (.inl (by omega))⟩
      · exact ⟨by omega, by omega, by omega, by omega, by omega, .inl (by omega), .inl (by omega)⟩)
    have hc1 : (mid : Int) + (m : Int) ≤ 33554432 := by omega
    have hcd : ((m : Int) > (mid : Int) ∧ ((mid : Int) + (m : Int) - (b : Int) = (s0 : Int)) ∧ mid = r0) ∨ (¬ (m : Int) > (mid : Int) ∧ a = s0 ∧ m = r0) := by omega
    clear hL ha hm hb hmid h1 h2 hTA hTB hSA hSB ih hN hA1 hB1 hp hcase
    rcases hcd with ⟨q1, q2, q3⟩ | ⟨q1, q2, q3⟩
    all_goals subst q3
    rotate_left
    subst q2
    rotate_left
    all_goals
      go_in
      go_wp2
      go_loopw [20, 21] (fun v u wr => ∃ s r : Nat, v = .int .i64 s ∧ u = .int .i64 r ∧ a ≤ s ∧ s ≤ r ∧ r ≤ mid ∧ r ≤ m ∧ Hid (mid ≤ s + LB.length ∧ symI LA LB (s - a) (mid - s) ∧ symJ LA LB (r - a) (mid - r)) ∧ Hid (Owned strikeE 2 34 wr base A n c (P ++ (LA ++ (LB ++ Q)))) ∧ Below base w wr) (fun v u _ => (intOf u).toNat - (intOf v).toNat)
      case atStart => exact ⟨_, _, rfl, rfl, HST.out.1, HST.out.2.1, HST.out.2.2.1, HST.out.2.2.2.1, Lib.hid HST.out.2.2.2.2, Lib.hid hO, Below.refl _ _⟩
      case round =>
        obtain ⟨s, r, rfl, rfl, has, hsr, hrmid, hrm, HR, HO, hbw⟩ := hrel
        rename World => wr
        have hsw : base ≤ wr.heap.size := Nat.le_trans hbase hbw.size
        by_cases hlt : s < r
        · have hI : (s : Int) < (r : Int) := by omega
          obtain ⟨k, hk⟩ : ∃ k, k = (s + r) / 2 := ⟨_, rfl⟩
          have hsk : s ≤ k := by omega
          have hkr : k < r := by omega
          have hkI : ((s : Int) + (r : Int)) / 2 = (k : Int) := by omega
          have hkn : k < n := by omega
          clear hk
          obtain ⟨q, hq⟩ : ∃ q, q + k = p := ⟨p - k, by have := HP.out; omega⟩
          have hwq : IntKind.i64.wrap ((p : Int) - (k : Int)) = (q : Int) := by rw [PlainAid.i64_is]; unfold wrap64; have := HP.out; omega
          have hqn : q < n := by have := HP.out; have := HR.out.1; have := HB.out; omega
          have hlA : k - a < LA.length := by have := HM.out; omega
          have hlB : mid - 1 - k < LB.length := by have := HR.out.1; omega
          obtain ⟨x, hx⟩ := some_of_lt hlA
          obtain ⟨y, hy⟩ := some_of_lt hlB
          have HX := Lib.hid hx
          have HY := Lib.hid hy
          have HXD : Hid ((P ++ (LA ++ (LB ++ Q)))[k]? = some x) := Lib.hid (by
            have e := HA.out
            rw [List.getElem?_append_right (by omega), show k - P.length = k - a by omega, List.getElem?_append_left hlA]; exact hx)
          have HYD : Hid ((P ++ (LA ++ (LB ++ Q)))[q]? = some y) := Lib.hid (by
            have e := HA.out
            have e2 := HM.out
            have e3 := HP.out
            rw [List.getElem?_append_right (by omega), List.getElem?_append_right (by omega), show q - P.length - LA.length = mid - 1 - k by omega, List.getElem?_append_left hlB]; exact hy)
          have HXT := Lib.hid (HTA.out x (List.mem_of_getElem? hx))
          have HYT := Lib.hid (HTB.out y (List.mem_of_getElem? hy))
          have HQ := Lib.hid hq
          obtain ⟨f, rfl, f0, f1, fc, ff⟩ := HO.out.at_ hpos
          have x0 := fc _ x 0 _ HXD.out rfl
          have x1 := fc _ x 1 _ HXD.out rfl
          have y0 := fc _ y 0 _ HYD.out rfl
          have y1 := fc _ y 1 _ HYD.out rfl
          simp only [Nat.add_zero] at x0 y0
          clear fc ff hx hy hlA hlB hq
          go_wp2
          go_region_held3 (fun u => u.cell? ⟨f, q * 2, none⟩ = some (.int .i64 y.1) ∧ u.cell? ⟨f, q * 2 + 1, none⟩ = some (.int .i64 y.2) ∧ u.cell? ⟨f, k * 2, none⟩ = some (.int .i64 x.1) ∧ u.cell? ⟨f, k * 2 + 1, none⟩ = some (.int .i64 x.2)) (first | exact ⟨by assumption, by assumption, by assumption, by assumption⟩) (first | (refine (impl_cmp (x := y) (y := x) HYT.out HXT.out).mono ?_; rintro e w2 ⟨rfl, hbd⟩; have hb2 := below_of_drew hbd; have x0' := (hb2.cell (p := ⟨f, q * 2, none⟩) f1).trans y0; have x1' := (hb2.cell (p := ⟨f, q * 2 + 1, none⟩) f1).trans y1; have y0' := (hb2.cell (p := ⟨f, k * 2, none⟩) f1).trans x0; have y1' := (hb2.cell (p := ⟨f, k * 2 + 1, none⟩) f1).trans x1))
          have HO2 := Lib.hid (HO.out.up hb2)
          have hbw2 : Below base w w2 := hbw.trans (hb2.mono hsw)
          by_cases hxy : y.2 - x.2 < 0
          · have hcd : (!decide (y.2 - x.2 < 0)) = false := by rw [decide_eq_true hxy]; rfl
            have HR2 : Hid (mid ≤ s + LB.length ∧ symI LA LB (s - a) (mid - s) ∧ symJ LA LB (k - a) (mid - k)) := Lib.hid ⟨HR.out.1, HR.out.2.1, .inr (.inr ⟨x, y, HX.out, by rw [show mid - k - 1 = mid - 1 - k by omega]; exact HY.out, by omega⟩)⟩
            clear hbd hb2 x0 x1 y0 y1 x0' x1' y0' y1'
            go_wp2
            all_goals (try (rename_i hbad; rw [hcd] at hbad; exact absurd hbad (by decide)))
            go_roundw
            case rel => exact ⟨s, k, rfl, rfl, has, hsk, by omega, by omega, HR2, HO2, hbw2⟩
            case measure => simp [intOf]; omega
          · have hcd : (!decide (y.2 - x.2 < 0)) = true := by rw [decide_eq_false hxy]; rfl
            have HR2 : Hid (mid ≤ k + 1 + LB.length ∧ symI LA LB (k + 1 - a) (mid - (k + 1)) ∧ symJ LA LB (r - a) (mid - r)) := Lib.hid ⟨by have := HR.out.1; omega, .inr (.inr ⟨x, y, by rw [show k + 1 - a - 1 = k - a by omega]; exact HX.out, by rw [show mid - (k + 1) = mid - 1 - k by omega]; exact HY.out, by omega⟩), HR.out.2.2⟩
            clear hbd hb2 x0 x1 y0 y1 x0' x1' y0' y1'
            go_wp2
            all_goals (try (rename_i hbad; rw [hcd] at hbad; exact absurd hbad (by decide)))
            go_roundw
            case rel => exact ⟨k + 1, r, by go_num, rfl, by omega, by omega, hrmid, hrm, HR2, HO2, hbw2⟩
            case measure => simp [intOf]; omega
        · have hI : ¬ (s : Int) < (r : Int) := by omega
          obtain rfl : s = r := by omega
          obtain ⟨en, hen⟩ : ∃ en, en + s = mid + m := ⟨mid + m - s, by omega⟩
          have heI : (mid : Int) + (m : Int) - (s : Int) = (en : Int) := by omega
          have HE := Lib.hid hen
          obtain ⟨A1, A2, B1, B2, hcut, hlen, hmg, hsrt, hmidT⟩ := sym_parts (LA := LA) (LB := LB) (k := s - a) (h := mid - s) (by have := HM.out; omega) (by have := HR.out.1; omega) HSA.out HSB.out HTA.out HTB.out HR.out.2.1 HR.out.2.2
          have HLE : Hid (P.length = a ∧ a + A1.length = s ∧ s + A2.length = m ∧ m + B1.length = en ∧ en + B2.length = b ∧ s + B1.length = mid ∧ mid + A2.length = en ∧ A1.length + A2.length + B1.length + B2.length ≤ N + 1) := Lib.hid (by
            have := HA.out
            have := HM.out
            have := HB.out
            have := HN.out
            have := HR.out.1
            omega)
          have HMG := Lib.hid hmg
          have HSS := Lib.hid hsrt
          have HTT := Lib.hid hmidT
          have HO1 : Hid (Owned strikeE 2 34 wr base A n c ((P ++ A1) ++ (A2 ++ (B1 ++ (B2 ++ Q))))) := Lib.hid (by
            have := HO.out
            rw [hcut.1, hcut.2] at this
            simpa using this)
          have hmen : mid ≤ en := by omega
          have henb : en ≤ b := by have := HLE.out; omega
          clear hen hcut hlen hmg hsrt hmidT HO
          by_cases hc1' : s < m ∧ m < en
          · have k1 : (s : Int) < (m : Int) := by omega
            have k2 : (m : Int) < (en : Int) := by omega
            go_wp2_with fail
            refine (sl_rotate (a := s) (m := m) (b := en) HO1.out hz (by have := HLE.out; rw [List.length_append]; omega) (by have := HLE.out; omega) (by have := HLE.out; omega) (by have := HLE.out; omega) (by have := HLE.out; omega) hsw).mono ?_; rintro e w7 ⟨rfl, ho7, hb7⟩
            have HO7 : Hid (Owned strikeE 2 34 w7 base A n c (P ++ (A1 ++ (B1 ++ (A2 ++ (B2 ++ Q)))))) := Lib.hid (by simpa using ho7)
            have hbw7 : Below base w w7 := hbw.trans hb7
            have hsw7 : base ≤ w7.heap.size := Nat.le_trans hsw hb7.size
            clear ho7 hb7
            by_cases hc2 : a < s ∧ s < mid
            · have j1 : (a : Int) < (s : Int) := by omega
              have j2 : (s : Int) < (mid : Int) := by omega
              go_wp2_with fail
              refine (IH.out A n c base a s mid P A1 B1 (A2 ++ (B2 ++ Q)) w7 HO7.out hz (by have := HLE.out; omega) (by have := HLE.out; omega) (by have := HLE.out; omega) (by have := HLE.out; omega) (by have := HLE.out; omega) hsw7 HTT.out.1 HTT.out.2.2.1 HSS.out.1 HSS.out.2.2.1 (by have := HLE.out; omega)).mono ?_; rintro e w8 ⟨rfl, ho8, hb8⟩
              have HO8 : Hid (Owned strikeE 2 34 w8 base A n c ((P ++ List.merge A1 B1 leT) ++ (A2 ++ (B2 ++ Q)))) := Lib.hid (by simpa using ho8)
              have hbw8 : Below base w w8 := hbw7.trans hb8
              have hsw8 : base ≤ w8.heap.size := Nat.le_trans hsw7 hb8.size
              clear ho8 hb8
              by_cases hc3 : mid < en ∧ en < b
              · have i1 : (mid : Int) < (en : Int) := by omega
                have i2 : (en : Int) < (b : Int) := by omega
                first | (exfalso; omega) | (go_wp2_with fail
                                            refine (IH.out A n c base mid en b (P ++ List.merge A1 B1 leT) A2 B2 Q w8 HO8.out hz (by have := HLE.out; rw [List.length_append, mgT_len]; omega) (by have := HLE.out; omega) (by have := HLE.out; omega) (by have := HLE.out; omega) (by have := HLE.out; omega) hsw8 HTT.out.2.1 HTT.out.2.2.2 HSS.out.2.1 HSS.out.2.2.2 (by have := HLE.out; omega)).mono ?_; rintro e w9 ⟨rfl, ho9, hb9⟩
                                            have HF : Hid (Owned strikeE 2 34 w9 base A n c (P ++ (List.merge LA LB leT ++ Q))) := Lib.hid (by rw [HMG.out]; simpa using ho9)
                                            have HFB := Lib.hid (hbw8.trans hb9)
                                            clear ho9 hb9
                                            go_wp2
                                            go_end0
                                            exact ⟨rfl, HF.out, HFB.out⟩)
              · have HF : Hid (Owned strikeE 2 34 w8 base A n c (P ++ (List.merge LA LB leT ++ Q))) := Lib.hid (by
                  have e3 := mg_eq (A := A2) (B := B2) (by
                    have := HLE.out
                    by_cases hq : mid < en
                    · exact .inr (List.eq_nil_of_length_eq_zero (by omega))
                    · exact .inl (List.eq_nil_of_length_eq_zero (by omega)))
                  rw [HMG.out, e3]; have := HO8.out; simpa using this)
                by_cases hc4 : mid < en
                · have i1 : (mid : Int) < (en : Int) := by omega
                  have i2 : ¬ (en : Int) < (b : Int) := by omega
                  first | (exfalso; omega) | (go_wp2; go_end0; exact ⟨rfl, HF.out, hbw8⟩)
                · have i1 : ¬ (mid : Int) < (en : Int) := by omega
                  first | (exfalso; omega) | (go_wp2; go_end0; exact ⟨rfl, HF.out, hbw8⟩)
            · have HO8 : Hid (Owned strikeE 2 34 w7 base A n c ((P ++ List.merge A1 B1 leT) ++ (A2 ++ (B2 ++ Q)))) := Lib.hid (by
                have e3 := mg_eq (A := A1) (B := B1) (by
                  have := HLE.out
                  by_cases hq : a < s
                  · exact .inr (List.eq_nil_of_length_eq_zero (by omega))
                  · exact .inl (List.eq_nil_of_length_eq_zero (by omega)))
                rw [e3]; have := HO7.out; simpa using this)
              have hj : ¬ (a : Int) < (s : Int) ∨ ((a : Int) < (s : Int) ∧ ¬ (s : Int) < (mid : Int)) := by omega
              rcases hj with j1 | ⟨j1, j2⟩
              · skip
                by_cases hc3 : mid < en ∧ en < b
                · have i1 : (mid : Int) < (en : Int) := by omega
                  have i2 : (en : Int) < (b : Int) := by omega
                  first | (exfalso; omega) | (go_wp2_with fail
                                              refine (IH.out A n c base mid en b (P ++ List.merge A1 B1 leT) A2 B2 Q w7 HO8.out hz (by have := HLE.out; rw [List.length_append, mgT_len]; omega) (by have := HLE.out; omega) (by have := HLE.out; omega) (by have := HLE.out; omega) (by have := HLE.out; omega) hsw7 HTT.out.2.1 HTT.out.2.2.2 HSS.out.2.1 HSS.out.2.2.2 (by have := HLE.out; omega)).mono ?_; rintro e w9 ⟨rfl, ho9, hb9⟩
                                              have HF : Hid (Owned strikeE 2 34 w9 base A n c (P ++ (List.merge LA LB leT ++ Q))) := Lib.hid (by rw [HMG.out]; simpa using ho9)
                                              have HFB := Lib.hid (hbw7.trans hb9)
                                              clear ho9 hb9
                                              go_wp2
                                              go_end0
                                              exact ⟨rfl, HF.out, HFB.out⟩)
                · have HF : Hid (Owned strikeE 2 34 w7 base A n c (P ++ (List.merge LA LB leT ++ Q))) := Lib.hid (by
                    have e3 := mg_eq (A := A2) (B := B2) (by
                      have := HLE.out
                      by_cases hq : mid < en
                      · exact .inr (List.eq_nil_of_length_eq_zero (by omega))
                      · exact .inl (List.eq_nil_of_length_eq_zero (by omega)))
                    rw [HMG.out, e3]; have := HO8.out; simpa using this)
                  by_cases hc4 : mid < en
                  · have i1 : (mid : Int) < (en : Int) := by omega
                    have i2 : ¬ (en : Int) < (b : Int) := by omega
                    first | (exfalso; omega) | (go_wp2; go_end0; exact ⟨rfl, HF.out, hbw7⟩)
                  · have i1 : ¬ (mid : Int) < (en : Int) := by omega
                    first | (exfalso; omega) | (go_wp2; go_end0; exact ⟨rfl, HF.out, hbw7⟩)
              · skip
                by_cases hc3 : mid < en ∧ en < b
                · have i1 : (mid : Int) < (en : Int) := by omega
                  have i2 : (en : Int) < (b : Int) := by omega
                  first | (exfalso; omega) | (go_wp2_with fail
                                              refine (IH.out A n c base mid en b (P ++ List.merge A1 B1 leT) A2 B2 Q w7 HO8.out hz (by have := HLE.out; rw [List.length_append, mgT_len]; omega) (by have := HLE.out; omega) (by have := HLE.out; omega) (by have := HLE.out; omega) (by have := HLE.out; omega) hsw7 HTT.out.2.1 HTT.out.2.2.2 HSS.out.2.1 HSS.out.2.2.2 (by have := HLE.out; omega)).mono ?_; rintro e w9 ⟨rfl, ho9, hb9⟩
                                              have HF : Hid (Owned strikeE 2 34 w9 base A n c (P ++ (List.merge LA LB leT ++ Q))) := Lib.hid (by rw [HMG.out]; simpa using ho9)
                                              have HFB := Lib.hid (hbw7.trans hb9)
                                              clear ho9 hb9
                                              go_wp2
                                              go_end0
                                              exact ⟨rfl, HF.out, HFB.out⟩)
                · have HF : Hid (Owned strikeE 2 34 w7 base A n c (P ++ (List.merge LA LB leT ++ Q))) := Lib.hid (by
                    have e3 := mg_eq (A := A2) (B := B2) (by
                      have := HLE.out
                      by_cases hq : mid < en
                      · exact .inr (List.eq_nil_of_length_eq_zero (by omega))
                      · exact .inl (List.eq_nil_of_length_eq_zero (by omega)))
                    rw [HMG.out, e3]; have := HO8.out; simpa using this)
                  by_cases hc4 : mid < en
                  · have i1 : (mid : Int) < (en : Int) := by omega
                    have i2 : ¬ (en : Int) < (b : Int) := by omega
                    first | (exfalso; omega) | (go_wp2; go_end0; exact ⟨rfl, HF.out, hbw7⟩)
                  · have i1 : ¬ (mid : Int) < (en : Int) := by omega
                    first | (exfalso; omega) | (go_wp2; go_end0; exact ⟨rfl, HF.out, hbw7⟩)
          · have HO7 : Hid (Owned strikeE 2 34 wr base A n c (P ++ (A1 ++ (B1 ++ (A2 ++ (B2 ++ Q)))))) := Lib.hid (by
              have e3 : A2 ++ (B1 ++ (B2 ++ Q)) = B1 ++ (A2 ++ (B2 ++ Q)) := by
                have := HLE.out
                by_cases hq : s < m
                · rw [List.eq_nil_of_length_eq_zero (show B1.length = 0 by omega), List.nil_append, List.nil_append]
                · rw [List.eq_nil_of_length_eq_zero (show A2.length = 0 by omega), List.nil_append, List.nil_append]
              have := HO1.out
              rw [e3] at this; simpa using this)
            have hj : ¬ (s : Int) < (m : Int) ∨ ((s : Int) < (m : Int) ∧ ¬ (m : Int) < (en : Int)) := by omega
            rcases hj with k1 | ⟨k1, k2⟩
            · skip
              by_cases hc2 : a < s ∧ s < mid
              · have j1 : (a : Int) < (s : Int) := by omega
                have j2 : (s : Int) < (mid : Int) := by omega
                go_wp2_with fail
                refine (IH.out A n c base a s mid P A1 B1 (A2 ++ (B2 ++ Q)) wr HO7.out hz (by have := HLE.out; omega) (by have := HLE.out; omega) (by have := HLE.out; omega) (by have := HLE.out; omega) (by have := HLE.out; omega) hsw HTT.out.1 HTT.out.2.2.1 HSS.out.1 HSS.out.2.2.1 (by have := HLE.out; omega)).mono ?_; rintro e w8 ⟨rfl, ho8, hb8⟩
                have HO8 : Hid (Owned strikeE 2 34 w8 base A n c ((P ++ List.merge A1 B1 leT) ++ (A2 ++ (B2 ++ Q)))) := Lib.hid (by simpa using ho8)
                have hbw8 : Below base w w8 := hbw.trans hb8
                have hsw8 : base ≤ w8.heap.size := Nat.le_trans hsw hb8.size
                clear ho8 hb8
                by_cases hc3 : mid < en ∧ en < b
                · have i1 : (mid : Int) < (en : Int) := by omega
                  have i2 : (en : Int) < (b : Int) := by omega
                  first | (exfalso; omega) | (go_wp2_with fail
                                              refine (IH.out A n c base mid en b (P ++ List.merge A1 B1 leT) A2 B2 Q w8 HO8.out hz (by have := HLE.out; rw [List.length_append, mgT_len]; omega) (by have := HLE.out; omega) (by have := HLE.out; omega) (by have := HLE.out; omega) (by have := HLE.out; omega) hsw8 HTT.out.2.1 HTT.out.2.2.2 HSS.out.2.1 HSS.out.2.2.2 (by have := HLE.out; omega)).mono ?_; rintro e w9 ⟨rfl, ho9, hb9⟩
                                              have HF : Hid (Owned strikeE 2 34 w9 base A n c (P ++ (List.merge LA LB leT ++ Q))) := Lib.hid (by rw [HMG.out]; simpa using ho9)
                                              have HFB := Lib.hid (hbw8.trans hb9)
                                              clear ho9 hb9
                                              go_wp2
                                              go_end0
                                              exact ⟨rfl, HF.out, HFB.out⟩)
                · have HF : Hid (Owned strikeE 2 34 w8 base A n c (P ++ (List.merge LA LB leT ++ Q))) := Lib.hid (by
                    have e3 := mg_eq (A := A2) (B := B2) (by
                      have := HLE.out
                      by_cases hq : mid < en
                      · exact .inr (List.eq_nil_of_length_eq_zero (by omega))
                      · exact .inl (List.eq_nil_of_length_eq_zero (by omega)))
                    rw [HMG.out, e3]; have := HO8.out; simpa using this)
                  by_cases hc4 : mid < en
                  · have i1 : (mid : Int) < (en : Int) := by omega
                    have i2 : ¬ (en : Int) < (b : Int) := by omega
                    first | (exfalso; omega) | (go_wp2; go_end0; exact ⟨rfl, HF.out, hbw8⟩)
                  · have i1 : ¬ (mid : Int) < (en : Int) := by omega
                    first | (exfalso; omega) | (go_wp2; go_end0; exact ⟨rfl, HF.out, hbw8⟩)
              · have HO8 : Hid (Owned strikeE 2 34 wr base A n c ((P ++ List.merge A1 B1 leT) ++ (A2 ++ (B2 ++ Q)))) := Lib.hid (by
                  have e3 := mg_eq (A := A1) (B := B1) (by
                    have := HLE.out
                    by_cases hq : a < s
                    · exact .inr (List.eq_nil_of_length_eq_zero (by omega))
                    · exact .inl (List.eq_nil_of_length_eq_zero (by omega)))
                  rw [e3]; have := HO7.out; simpa using this)
                have hj : ¬ (a : Int) < (s : Int) ∨ ((a : Int) < (s : Int) ∧ ¬ (s : Int) < (mid : Int)) := by omega
                rcases hj with j1 | ⟨j1, j2⟩
                · skip
                  by_cases hc3 : mid < en ∧ en < b
                  · have i1 : (mid : Int) < (en : Int) := by omega
                    have i2 : (en : Int) < (b : Int) := by omega
                    first | (exfalso; omega) | (go_wp2_with fail
                                                refine (IH.out A n c base mid en b (P ++ List.merge A1 B1 leT) A2 B2 Q wr HO8.out hz (by have := HLE.out; rw [List.length_append, mgT_len]; omega) (by have := HLE.out; omega) (by have := HLE.out; omega) (by have := HLE.out; omega) (by have := HLE.out; omega) hsw HTT.out.2.1 HTT.out.2.2.2 HSS.out.2.1 HSS.out.2.2.2 (by have := HLE.out; omega)).mono ?_; rintro e w9 ⟨rfl, ho9, hb9⟩
                                                have HF : Hid (Owned strikeE 2 34 w9 base A n c (P ++ (List.merge LA LB leT ++ Q))) := Lib.hid (by rw [HMG.out]; simpa using ho9)
                                                have HFB := Lib.hid (hbw.trans hb9)
                                                clear ho9 hb9
                                                go_wp2
                                                go_end0
                                                exact ⟨rfl, HF.out, HFB.out⟩)
                  · have HF : Hid (Owned strikeE 2 34 wr base A n c (P ++ (List.merge LA LB leT ++ Q))) := Lib.hid (by
                      have e3 := mg_eq (A := A2) (B := B2) (by
                        have := HLE.out
                        by_cases hq : mid < en
                        · exact .inr (List.eq_nil_of_length_eq_zero (by omega))
                        · exact .inl (List.eq_nil_of_length_eq_zero (by omega)))
                      rw [HMG.out, e3]; have := HO8.out; simpa using this)
                    by_cases hc4 : mid < en
                    · have i1 : (mid : Int) < (en : Int) := by omega
                      have i2 : ¬ (en : Int) < (b : Int) := by omega
                      first | (exfalso; omega) | (go_wp2; go_end0; exact ⟨rfl, HF.out, hbw⟩)
                    · have i1 : ¬ (mid : Int) < (en : Int) := by omega
                      first | (exfalso; omega) | (go_wp2; go_end0; exact ⟨rfl, HF.out, hbw⟩)
                · skip
                  by_cases hc3 : mid < en ∧ en < b
                  · have i1 : (mid : Int) < (en : Int) := by omega
                    have i2 : (en : Int) < (b : Int) := by omega
                    first | (exfalso; omega) | (go_wp2_with fail
                                                refine (IH.out A n c base mid en b (P ++ List.merge A1 B1 leT) A2 B2 Q wr HO8.out hz (by have := HLE.out; rw [List.length_append, mgT_len]; omega) (by have := HLE.out; omega) (by have := HLE.out; omega) (by have := HLE.out; omega) (by have := HLE.out; omega) hsw HTT.out.2.1 HTT.out.2.2.2 HSS.out.2.1 HSS.out.2.2.2 (by have := HLE.out; omega)).mono ?_; rintro e w9 ⟨rfl, ho9, hb9⟩
                                                have HF : Hid (Owned strikeE 2 34 w9 base A n c (P ++ (List.merge LA LB leT ++ Q))) := Lib.hid (by rw [HMG.out]; simpa using ho9)
                                                have HFB := Lib.hid (hbw.trans hb9)
                                                clear ho9 hb9
                                                go_wp2
                                                go_end0
                                                exact ⟨rfl, HF.out, HFB.out⟩)
                  · have HF : Hid (Owned strikeE 2 34 wr base A n c (P ++ (List.merge LA LB leT ++ Q))) := Lib.hid (by
                      have e3 := mg_eq (A := A2) (B := B2) (by
                        have := HLE.out
                        by_cases hq : mid < en
                        · exact .inr (List.eq_nil_of_length_eq_zero (by omega))
                        · exact .inl (List.eq_nil_of_length_eq_zero (by omega)))
                      rw [HMG.out, e3]; have := HO8.out; simpa using this)
                    by_cases hc4 : mid < en
                    · have i1 : (mid : Int) < (en : Int) := by omega
                      have i2 : ¬ (en : Int) < (b : Int) := by omega
                      first | (exfalso; omega) | (go_wp2; go_end0; exact ⟨rfl, HF.out, hbw⟩)
                    · have i1 : ¬ (mid : Int) < (en : Int) := by omega
                      first | (exfalso; omega) | (go_wp2; go_end0; exact ⟨rfl, HF.out, hbw⟩)
            · skip
              by_cases hc2 : a < s ∧ s < mid
              · have j1 : (a : Int) < (s : Int) := by omega
                have j2 : (s : Int) < (mid : Int) := by omega
                go_wp2_with fail
                refine (IH.out A n c base a s mid P A1 B1 (A2 ++ (B2 ++ Q)) wr HO7.out hz (by have := HLE.out; omega) (by have := HLE.out; omega) (by have := HLE.out; omega) (by have := HLE.out; omega) (by have := HLE.out; omega) hsw HTT.out.1 HTT.out.2.2.1 HSS.out.1 HSS.out.2.2.1 (by have := HLE.out; omega)).mono ?_; rintro e w8 ⟨rfl, ho8, hb8⟩
                have HO8 : Hid (Owned strikeE 2 34 w8 base A n c ((P ++ List.merge A1 B1 leT) ++ (A2 ++ (B2 ++ Q)))) := Lib.hid (by simpa using ho8)
                have hbw8 : Below base w w8 := hbw.trans hb8
                have hsw8 : base ≤ w8.heap.size := Nat.le_trans hsw hb8.size
                clear ho8 hb8
                by_cases hc3 : mid < en ∧ en < b
                · have i1 : (mid : Int) < (en : Int) := by omega
                  have i2 : (en : Int) < (b : Int) := by omega
                  first | (exfalso; omega) | (go_wp2_with fail
                                              refine (IH.out A n c base mid en b (P ++ List.merge A1 B1 leT) A2 B2 Q w8 HO8.out hz (by have := HLE.out; rw [List.length_append, mgT_len]; omega) (by have := HLE.out; omega) (by have := HLE.out; omega) (by have := HLE.out; omega) (by have := HLE.out; omega) hsw8 HTT.out.2.1 HTT.out.2.2.2 HSS.out.2.1 HSS.out.2.2.2 (by have := HLE.out; omega)).mono ?_; rintro e w9 ⟨rfl, ho9, hb9⟩
                                              have HF : Hid (Owned strikeE 2 34 w9 base A n c (P ++ (List.merge LA LB leT ++ Q))) := Lib.hid (by rw [HMG.out]; simpa using ho9)
                                              have HFB := Lib.hid (hbw8.trans hb9)
                                              clear ho9 hb9
                                              go_wp2
                                              go_end0
                                              exact ⟨rfl, HF.out, HFB.out⟩)
                · have HF : Hid (Owned strikeE 2 34 w8 base A n c (P ++ (List.merge LA LB leT ++ Q))) := Lib.hid (by
                    have e3 := mg_eq (A := A2) (B := B2) (by
                      have := HLE.out
                      by_cases hq : mid < en
                      · exact .inr (List.eq_nil_of_length_eq_zero (by omega))
                      · exact .inl (List.eq_nil_of_length_eq_zero (by omega)))
                    rw [HMG.out, e3]; have := HO8.out; simpa using this)
                  by_cases hc4 : mid < en
                  · have i1 : (mid : Int) < (en : Int) := by omega
                    have i2 : ¬ (en : Int) < (b : Int) := by omega
                    first | (exfalso; omega) | (go_wp2; go_end0; exact ⟨rfl, HF.out, hbw8⟩)
                  · have i1 : ¬ (mid : Int) < (en : Int) := by omega
                    first | (exfalso; omega) | (go_wp2; go_end0; exact ⟨rfl, HF.out, hbw8⟩)
              · have HO8 : Hid (Owned strikeE 2 34 wr base A n c ((P ++ List.merge A1 B1 leT) ++ (A2 ++ (B2 ++ Q)))) := Lib.hid (by
                  have e3 := mg_eq (A := A1) (B := B1) (by
                    have := HLE.out
                    by_cases hq : a < s
                    · exact .inr (List.eq_nil_of_length_eq_zero (by omega))
                    · exact .inl (List.eq_nil_of_length_eq_zero (by omega)))
                  rw [e3]; have := HO7.out; simpa using this)
                have hj : ¬ (a : Int) < (s : Int) ∨ ((a : Int) < (s : Int) ∧ ¬ (s : Int) < (mid : Int)) := by omega
                rcases hj with j1 | ⟨j1, j2⟩
                · skip
                  by_cases hc3 : mid < en ∧ en < b
                  · have i1 : (mid : Int) < (en : Int) := by omega
                    have i2 : (en : Int) < (b : Int) := by omega
                    first | (exfalso; omega) | (go_wp2_with fail
                                                refine (IH.out A n c base mid en b (P ++ List.merge A1 B1 leT) A2 B2 Q wr HO8.out hz (by have := HLE.out; rw [List.length_append, mgT_len]; omega) (by have := HLE.out; omega) (by have := HLE.out; omega) (by have := HLE.out; omega) (by have := HLE.out; omega) hsw HTT.out.2.1 HTT.out.2.2.2 HSS.out.2.1 HSS.out.2.2.2 (by have := HLE.out; omega)).mono ?_; rintro e w9 ⟨rfl, ho9, hb9⟩
                                                have HF : Hid (Owned strikeE 2 34 w9 base A n c (P ++ (List.merge LA LB leT ++ Q))) := Lib.hid (by rw [HMG.out]; simpa using ho9)
                                                have HFB := Lib.hid (hbw.trans hb9)
                                                clear ho9 hb9
                                                go_wp2
                                                go_end0
                                                exact ⟨rfl, HF.out, HFB.out⟩)
                  · have HF : Hid (Owned strikeE 2 34 wr base A n c (P ++ (List.merge LA LB leT ++ Q))) := Lib.hid (by
                      have e3 := mg_eq (A := A2) (B := B2) (by
                        have := HLE.out
                        by_cases hq : mid < en
                        · exact .inr (List.eq_nil_of_length_eq_zero (by omega))
                        · exact .inl (List.eq_nil_of_length_eq_zero (by omega)))
                      rw [HMG.out, e3]; have := HO8.out; simpa using this)
                    by_cases hc4 : mid < en
                    · have i1 : (mid : Int) < (en : Int) := by omega
                      have i2 : ¬ (en : Int) < (b : Int) := by omega
                      first | (exfalso; omega) | (go_wp2; go_end0; exact ⟨rfl, HF.out, hbw⟩)
                    · have i1 : ¬ (mid : Int) < (en : Int) := by omega
                      first | (exfalso; omega) | (go_wp2; go_end0; exact ⟨rfl, HF.out, hbw⟩)
                · skip
                  by_cases hc3 : mid < en ∧ en < b
                  · have i1 : (mid : Int) < (en : Int) := by omega
                    have i2 : (en : Int) < (b : Int) := by omega
                    first | (exfalso; omega) | (go_wp2_with fail
                                                refine (IH.out A n c base mid en b (P ++ List.merge A1 B1 leT) A2 B2 Q wr HO8.out hz (by have := HLE.out; rw [List.length_append, mgT_len]; omega) (by have := HLE.out; omega) (by have := HLE.out; omega) (by have := HLE.out; omega) (by have := HLE.out; omega) hsw HTT.out.2.1 HTT.out.2.2.2 HSS.out.2.1 HSS.out.2.2.2 (by have := HLE.out; omega)).mono ?_; rintro e w9 ⟨rfl, ho9, hb9⟩
                                                have HF : Hid (Owned strikeE 2 34 w9 base A n c (P ++ (List.merge LA LB leT ++ Q))) := Lib.hid (by rw [HMG.out]; simpa using ho9)
                                                have HFB := Lib.hid (hbw.trans hb9)
                                                clear ho9 hb9
                                                go_wp2
                                                go_end0
                                                exact ⟨rfl, HF.out, HFB.out⟩)
                  · have HF : Hid (Owned strikeE 2 34 wr base A n c (P ++ (List.merge LA LB leT ++ Q))) := Lib.hid (by
                      have e3 := mg_eq (A := A2) (B := B2) (by
                        have := HLE.out
                        by_cases hq : mid < en
                        · exact .inr (List.eq_nil_of_length_eq_zero (by omega))
                        · exact .inl (List.eq_nil_of_length_eq_zero (by omega)))
                      rw [HMG.out, e3]; have := HO8.out; simpa using this)
                    by_cases hc4 : mid < en
                    · have i1 : (mid : Int) < (en : Int) := by omega
                      have i2 : ¬ (en : Int) < (b : Int) := by omega
                      first | (exfalso; omega) | (go_wp2; go_end0; exact ⟨rfl, HF.out, hbw⟩)
                    · have i1 : ¬ (mid : Int) < (en : Int) := by omega
                      first | (exfalso; omega) | (go_wp2; go_end0; exact ⟨rfl, HF.out, hbw⟩)
end Go.Proofs.Ythffeljicohpdaa
