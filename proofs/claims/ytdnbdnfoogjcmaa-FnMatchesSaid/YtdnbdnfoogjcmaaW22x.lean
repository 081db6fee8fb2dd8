/- The walks through CheckPrices, the program's side. -/
import Derived.Test.YtdnbdnfoogjcmaaW22u
namespace Go.Proofs.Ytdnbdnfoogjcmaa
set_option linter.unusedVariables false
set_option linter.unusedSimpArgs false
open Go.ChangeShapes Go.WideShapes Go.ChangeAt Go.RowKit Go.Deep
set_option maxHeartbeats 4000000 in
set_option maxRecDepth 100000 in
theorem impl_CheckPrices {vs : List Hd} {A B C D : Option Addr} {n m q k c d f co : Nat} {a b of : List Int} {s x : Int} {T : List (List Int)} {w : World} (hn : a.length = n) (h : Ints w A a) (hz : n ≤ 1048576) (hm : b.length = m) (g : Ints w B b) (hz' : m ≤ 1048576) (hq : T.length = q) (hT : TabR vs w C T) (hzq : q ≤ 1048576) (hr : ∀ r ∈ T, r.length ≤ 16777216) (hk : of.length = k) (t : Ints w D of) (hzk : k ≤ 1048576) (hofb : ∀ x ∈ of, -9223372036854775808 ≤ x ∧ x ≤ 9223372036854775807) :
    Calls Try.prog 15 #[.slice A n c, .slice B m d, .int .i64 s, .slice C q f, .agg #[.slice D k co, .int .i64 x]] w fun e w' => e = .returned (.tuple #[.bool (cpR a b s T of x), .bool (cpOk a b s T)]) ∧ Below w.heap.size w w' := by
  subst hn hm hk
  have E : Hid (cpOk a b s T = (askedM a b s && shapeB a.length b.length T)) := rfl
  have b0 : Below w.heap.size w (w.alloc (.cells #[.slice D of.length co, .int .i64 x] 30)) := by (repeat' (first | (with_reducible exact Below.refl _ _) | (with_reducible assumption) | (with_reducible refine below_drewN ?_ _) | (with_reducible refine Below.drew ?_) | (with_reducible refine below_alloc ?_ _) | (with_reducible refine Below.alloc ?_ ?_ _) | (with_reducible refine Below.setCell ?_ ?_ _) | (with_reducible refine below_go ?_ (by with_reducible assumption)) | (with_reducible refine below_then (by with_reducible assumption) ?_ ?_) | go_size))
  have K0 := Blk.at_ w 30 [.slice D of.length co, .int .i64 x] (b := w.heap.size) rfl
  rcases h1 : askedM a b s
  · have e0 : cpOk a b s T = false := by rw [E.out, h1]; rfl
    rw [cp_f e0, e0]
    clear e0
    go_in
    go_wp2_with (first | (go_at_call 35; refine (impl_goodMatching rfl rfl (h.up b0) (g.up b0) (by omega) (by omega)).mono ?_; rintro e w' ⟨rfl, rfl⟩; rw [h1]))
    go_ret2
    exact ⟨rfl, b0⟩
  rcases h2 : shapeB a.length b.length T
  · have e0 : cpOk a b s T = false := by rw [E.out, h1, h2]; rfl
    rw [cp_f e0, e0]
    clear e0
    go_in
    go_wp2_with (first | (go_at_call 35; refine (impl_goodMatching rfl rfl (h.up b0) (g.up b0) (by omega) (by omega)).mono ?_; rintro e w' ⟨rfl, rfl⟩; rw [h1]) | (go_at_call 45; refine (impl_goodTable hq (hT.up b0) (by omega) (by omega) (by omega) hr).mono ?_; rintro e w' ⟨rfl, rfl⟩; rw [h2]))
    go_ret2
    exact ⟨rfl, b0⟩
  have e0 : cpOk a b s T = true := by rw [E.out, h1, h2]; rfl
  have EV := Lib.hid (cp_t (of := of) (cost := x) e0)
  have EO := Lib.hid e0
  have VV : Hid (cpV a b s T of x = (boundB a b s T && ((tc T a.length b.length == 0) && (wayB a.length b.length of && ((x == tc T 0 0) && (x == costZ a b of s)))))) := rfl
  clear e0
  obtain ⟨⟨a1, a2⟩, ⟨b1, b2⟩, s1, s2⟩ := askedM_t h1
  obtain ⟨hTl, hS⟩ := shapeB_t h2
  obtain rfl : q = a.length + 1 := by omega
  have HA := Lib.hid a2; have HB := Lib.hid b2; have HS := Lib.hid hS
  have HQ := Lib.hid hTl
  have HRS := Lib.hid hr
  clear hTl hr hzq
  obtain ⟨rz, hrz, hlz, hxz⟩ := hS 0 (by omega)
  obtain ⟨g0, og, fz, oz, cz, rfl, lg0, lfz, ctz, crz⟩ := hT.rowc hrz (by omega)
  have cz0 := crz 0 _ (hxz 0 (by omega)).1
  rw [hlz] at ctz
  simp only [Nat.add_zero] at ctz cz0
  obtain ⟨tz, htz⟩ : ∃ u, u = tc T 0 0 := ⟨_, rfl⟩
  rw [← htz] at cz0 VV
  clear a2 b2 hS hrz hlz hxz crz htz hq
  go_in
  go_wp2_with (first | (go_at_call 35; refine (impl_goodMatching rfl rfl (h.up b0) (g.up b0) (by omega) (by omega)).mono ?_; rintro e w' ⟨rfl, rfl⟩; rw [h1]) | (go_at_call 45; refine (impl_goodTable HQ.out (hT.up b0) (by omega) (by omega) (by omega) HRS.out).mono ?_; rintro e w' ⟨rfl, rfl⟩; rw [h2]))
  obtain ⟨w1, hw1⟩ : ∃ u, u = w.alloc (.cells #[.slice D of.length co, .int .i64 x] 30) := ⟨_, rfl⟩
  rw [← hw1] at b0 K0 ⊢
  have hsz : w1.heap.size = w.heap.size + 1 := by rw [hw1]; simp
  clear hw1
  have h1w := Lib.hid (h.up b0); have g1w := Lib.hid (g.up b0); have t1w := Lib.hid (t.up b0); have T1w := Lib.hid (hT.up b0)
  have ctz' := Lib.hid ((b0.cell (p := ⟨g0, og, none⟩) lg0).trans ctz)
  have cz0' := Lib.hid ((b0.cell (p := ⟨fz, oz, none⟩) lfz).trans cz0)
  have HK := Lib.hid K0
  have b0' := Lib.hid b0
  clear h g t hT K0 ctz cz0
  go_loopw [30] (fun v wr => ∃ i : Nat, i ≤ a.length + 1 ∧ v = .int .i64 i ∧ Hid (∀ i', i' < i → okLine a b s T i' = true) ∧ Dr w1 wr) (fun v _ => a.length + 1 - (intOf v).toNat)
  case atStart => exact ⟨0, Nat.zero_le _, rfl, Lib.hid (fun j hj => absurd hj (by omega)), Dr.refl _⟩
  case round =>
    obtain ⟨i, hiL, rfl, HI, hbo⟩ := hrel
    rename World => wo
    by_cases hlt : i < a.length + 1
    · have hltI : (i : Int) < (a.length : Int) + 1 := by omega
      go_wp2
      go_loopw [36] (fun v wr => ∃ j : Nat, j ≤ b.length + 1 ∧ v = .int .i64 j ∧ Hid (∀ j', j' < j → okCell a b s T i j' = true) ∧ Dr w1 wr) (fun v _ => b.length + 1 - (intOf v).toNat)
      case atStart => exact ⟨0, Nat.zero_le _, rfl, Lib.hid (fun j hj => absurd hj (by omega)), hbo⟩
      case round =>
        obtain ⟨j, hjL, rfl, HJ, hbw⟩ := hrel
        by_cases hjt : j < b.length + 1
        · have hjtI : (j : Int) < (b.length : Int) + 1 := by omega
          have hTr := T1w.out.up hbw.below
          obtain ⟨r0, hr0, hl0, hx0⟩ := HS.out i (by omega)
          obtain ⟨g1, og1, f0, o0, c0, e0, lgg, lf0, ct0, cr0⟩ := hTr.rowc hr0 (by omega)
          injection e0 with e0; injection e0 with e0 e0'; subst e0 e0'
          rw [hl0] at ct0
          have x0 := hx0 j (by omega)
          have cj0 := cr0 j _ x0.1
          have y0 := x0.2
          by_cases hi : i < a.length
          · obtain ⟨r1, hr1, hl1, hx1⟩ := HS.out (i + 1) (by omega)
            obtain ⟨g1, og1, f1, o1, c1, e0, _, lf1, ct1, cr1⟩ := hTr.rowc hr1 (by omega)
            injection e0 with e0; injection e0 with e0 e0'; subst e0 e0'
            rw [hl1] at ct1
            have x1 := hx1 j (by omega)
            have cj1 := cr1 j _ x1.1
            have y1 := x1.2
            by_cases hj : j < b.length
            · have x2 := hx0 (j + 1) (by omega)
              have x3 := hx1 (j + 1) (by omega)
              have cj2 := cr0 (j + 1) _ x2.1
              have cj3 := cr1 (j + 1) _ x3.1
              have y2 := x2.2; have y3 := x3.2
              obtain ⟨ba, oa, xa, rfl, _, hxa, hca⟩ := (h1w.out.below hbw.below (Nat.le_refl _)).at_int hi
              obtain ⟨bb, ob, yb, rfl, _, hyb, hcb⟩ := (g1w.out.below hbw.below (Nat.le_refl _)).at_int hj
              have a1 := HA.out xa (List.mem_of_getElem? hxa); have b1 := HB.out yb (List.mem_of_getElem? hyb)
              have za := absZ_bd (xa - yb)
              have OA := Lib.hid (okCell_A (b := b) (s := s) (T := T) (i := i) (j := j) hi)
              have OB := Lib.hid (okCell_B (a := a) (s := s) (T := T) (i := i) (j := j) hj)
              have OC := Lib.hid (okCell_C (s := s) (T := T) hxa hyb)
              have OK := Lib.hid (fun q1 q2 q3 => okCell_ok (a := a) (b := b) (s := s) (T := T) (i := i) (j := j) (fun _ => q1) (fun _ => q2) (fun x y hx hy => by
                rw [hxa] at hx; rw [hyb] at hy; injection hx with hx; injection hy with hy; subst hx hy; exact q3))
              clear x0 x1 x2 x3 cr0 cr1 hr0 hr1 hx0 hx1 hxa hyb hTr
              obtain ⟨t0, ht0⟩ : ∃ t, t = tc T i j := ⟨_, rfl⟩
              obtain ⟨t1, ht1⟩ : ∃ t, t = tc T (i + 1) j := ⟨_, rfl⟩
              obtain ⟨t2, ht2⟩ : ∃ t, t = tc T i (j + 1) := ⟨_, rfl⟩
              obtain ⟨t3, ht3⟩ : ∃ t, t = tc T (i + 1) (j + 1) := ⟨_, rfl⟩
              rw [← ht0] at OA OB OC OK cj0 y0
              rw [← ht1] at OA OK cj1 y1
              rw [← ht2] at OB OK cj2 y2
              rw [← ht3] at OC OK cj3 y3
              clear ht0 ht1 ht2 ht3
              have HY := Lib.hid (And.intro y0 (And.intro y1 (And.intro y2 y3)))
              by_cases qA : s + t1 < t0
              · have e0 := Lib.hid (boundB_bad (i := i) (j := j) (by omega) (by omega) (OA.out qA))
                go_wp2
                go_ret2
                exact ⟨by (rw [EV.out, EO.out, cpV_b e0.out] <;> rfl), b0'.out.trans (((show Dr w1 _ from (by first | assumption | exact Dr.drewN (by assumption) _)).below).mono b0'.out.size)⟩
              by_cases qB : s + t2 < t0
              · have e0 := Lib.hid (boundB_bad (i := i) (j := j) (by omega) (by omega) (OB.out qB))
                go_wp2
                go_ret2
                exact ⟨by (rw [EV.out, EO.out, cpV_b e0.out] <;> rfl), b0'.out.trans (((show Dr w1 _ from (by first | assumption | exact Dr.drewN (by assumption) _)).below).mono b0'.out.size)⟩
              have k0 := wrap_id (x := xa - yb) (by omega)
              have k1 := wrap_id (x := absZ (xa - yb) + t3) (by omega)
              have hiN : i < a.length + 1 := by omega
              have hjN : j < b.length + 1 := by omega
              have hiI : (i : Int) < (a.length : Int) + 1 := by omega
              have hjI : (j : Int) < (b.length : Int) + 1 := by omega
              by_cases qC : absZ (xa - yb) + t3 < t0
              · have e0 := Lib.hid (boundB_bad (i := i) (j := j) (by omega) (by omega) (OC.out qC))
                go_wp2
                go_quiet ((go_at_call 46; exact quiet_left (impl_abs _ _ (by omega))))
                go_wp2
                go_ret2
                exact ⟨by (rw [EV.out, EO.out, cpV_b e0.out] <;> rfl), b0'.out.trans (((show Dr w1 _ from (by first | assumption | exact Dr.drewN (by assumption) _)).below).mono b0'.out.size)⟩
              · have e0 := Lib.hid (OK.out qA qB qC)
                go_wp2
                go_quiet ((go_at_call 46; exact quiet_left (impl_abs _ _ (by omega))))
                go_wp2
                go_roundw
                case rel => exact ⟨j + 1, by omega, by go_num, Lib.hid (upto_succ HJ.out e0.out), (by first | assumption | exact Dr.drewN (by assumption) _)⟩
                case measure => simp [intOf]; omega
            · have OA := Lib.hid (okCell_A (b := b) (s := s) (T := T) (i := i) (j := j) hi)
              have OK := Lib.hid (fun q1 => okCell_ok (a := a) (b := b) (s := s) (T := T) (i := i) (j := j) (fun _ => q1) (fun q => absurd q hj) (fun x y hx hy => absurd (List.getElem?_eq_some_iff.1 hy).1 hj))
              clear x0 x1 cr0 cr1 hr0 hr1 hx0 hx1 hTr
              obtain ⟨t0, ht0⟩ : ∃ t, t = tc T i j := ⟨_, rfl⟩
              obtain ⟨t1, ht1⟩ : ∃ t, t = tc T (i + 1) j := ⟨_, rfl⟩
              rw [← ht0] at OA OK cj0 y0
              rw [← ht1] at OA OK cj1 y1
              clear ht0 ht1
              by_cases qA : s + t1 < t0
              · have e0 := Lib.hid (boundB_bad (i := i) (j := j) (by omega) (by omega) (OA.out qA))
                go_wp2
                go_ret2
                exact ⟨by (rw [EV.out, EO.out, cpV_b e0.out] <;> rfl), b0'.out.trans (((show Dr w1 _ from (by first | assumption | exact Dr.drewN (by assumption) _)).below).mono b0'.out.size)⟩
              · have e0 := Lib.hid (OK.out qA)
                go_wp2
                go_quiet (fail)
                go_wp2
                go_roundw
                case rel => exact ⟨j + 1, by omega, by go_num, Lib.hid (upto_succ HJ.out e0.out), (by first | assumption | exact Dr.drewN (by assumption) _)⟩
                case measure => simp [intOf]; omega
          · by_cases hj : j < b.length
            · have x2 := hx0 (j + 1) (by omega)
              have cj2 := cr0 (j + 1) _ x2.1
              have y2 := x2.2
              have OB := Lib.hid (okCell_B (a := a) (s := s) (T := T) (i := i) (j := j) hj)
              have OK := Lib.hid (fun q2 => okCell_ok (a := a) (b := b) (s := s) (T := T) (i := i) (j := j) (fun q => absurd q hi) (fun _ => q2) (fun x y hx hy => absurd (List.getElem?_eq_some_iff.1 hx).1 hi))
              clear x0 x2 cr0 hr0 hx0 hTr
              obtain ⟨t0, ht0⟩ : ∃ t, t = tc T i j := ⟨_, rfl⟩
              obtain ⟨t2, ht2⟩ : ∃ t, t = tc T i (j + 1) := ⟨_, rfl⟩
              rw [← ht0] at OB OK cj0 y0
              rw [← ht2] at OB OK cj2 y2
              clear ht0 ht2
              by_cases qB : s + t2 < t0
              · have e0 := Lib.hid (boundB_bad (i := i) (j := j) (by omega) (by omega) (OB.out qB))
                go_wp2
                go_ret2
                exact ⟨by (rw [EV.out, EO.out, cpV_b e0.out] <;> rfl), b0'.out.trans (((show Dr w1 _ from (by first | assumption | exact Dr.drewN (by assumption) _)).below).mono b0'.out.size)⟩
              · have e0 := Lib.hid (OK.out qB)
                go_wp2
                go_quiet (fail)
                go_wp2
                go_roundw
                case rel => exact ⟨j + 1, by omega, by go_num, Lib.hid (upto_succ HJ.out e0.out), (by first | assumption | exact Dr.drewN (by assumption) _)⟩
                case measure => simp [intOf]; omega
            · have e0 := Lib.hid (okCell_ok (a := a) (b := b) (s := s) (T := T) (i := i) (j := j) (fun q => absurd q hi) (fun q => absurd q hj) (fun x y hx hy => absurd (List.getElem?_eq_some_iff.1 hy).1 hj))
              clear x0 cr0 hr0 hx0 hTr
              obtain ⟨t0, ht0⟩ : ∃ t, t = tc T i j := ⟨_, rfl⟩
              rw [← ht0] at cj0 y0
              clear ht0
              go_wp2
              go_quiet (fail)
              go_wp2
              go_roundw
              case rel => exact ⟨j + 1, by omega, by go_num, Lib.hid (upto_succ HJ.out e0.out), (by first | assumption | exact Dr.drewN (by assumption) _)⟩
              case measure => simp [intOf]; omega
        · obtain rfl : j = b.length + 1 := by omega
          go_wp2
          go_roundw
          case rel => exact ⟨i + 1, by omega, by go_num, Lib.hid (upto_succ HI.out (okLine_t (fun j hj => HJ.out j hj))), hbw⟩
          case measure => simp [intOf]; omega
    · obtain rfl : i = a.length + 1 := by omega
      have e0 := Lib.hid (boundB_t (fun i hi => HI.out i hi))
      obtain ⟨r0, hr0, hl0, hx0⟩ := HS.out a.length (by omega)
      obtain ⟨g1, og1, f0, o0, c0, eC, _, _, ct0, cr0⟩ := (T1w.out.up hbo.below).rowc hr0 (by omega)
      injection eC with eC; injection eC with eC eC'; subst eC eC'
      rw [hl0] at ct0
      have x0 := hx0 b.length (by omega)
      have cj0 := cr0 b.length _ x0.1
      have HL := HK.out.up hbo.below
      have k0 : wo.cell? ⟨w.heap.size, 0, none⟩ = some (.slice D of.length co) := by simpa using HL.cell 0
      have k1 : wo.cell? ⟨w.heap.size, 1, none⟩ = some (.int .i64 x) := by simpa using HL.cell 1
      have k2 := (hbo.below.cell (p := ⟨g0, og, none⟩) (by show g0 < w1.heap.size; omega)).trans ctz'.out
      have k3 := (hbo.below.cell (p := ⟨fz, oz, none⟩) (by show fz < w1.heap.size; omega)).trans cz0'.out
      have D1 : ∀ n, Below w1.heap.size w1 (wo.drewN n) := fun n => (hbo.drewN n).below
      have tI : (a.length : Int) < (a.length : Int) + 1 := by omega
      have tJ : (b.length : Int) < (b.length : Int) + 1 := by omega
      have hpos : (0 : Int) < (a.length : Int) + 1 := by omega
      have hposb : (0 : Int) < (b.length : Int) + 1 := by omega
      have hfin := Lib.hid (fun n => b0.trans ((D1 n).mono b0.size))
      obtain ⟨tl, htl⟩ : ∃ u, u = tc T a.length b.length := ⟨_, rfl⟩
      rw [← htl] at cj0 VV
      clear hr0 hl0 hx0 cr0 x0 HL htl
      have VW := Lib.hid (show cpV a b s T of x = ((tl == 0) && (wayB a.length b.length of && ((x == tz) && (x == costZ a b of s)))) by rw [VV.out, e0.out, Bool.true_and])
      have QW := Lib.hid (fun n => quiet_left (impl_isAlignment (A := A) (B := B) (n := a.length) (m := b.length) (c := c) (d := d) (f := co) rfl (t1w.out.below (D1 n) (Nat.le_refl _)) (by omega) (by omega) (by omega) hofb))
      rcases v1 : (tl == 0)
      · have e1 := Lib.hid (show cpV a b s T of x = false by rw [VW.out, v1]; rfl)
        go_wp2
        go_quiet (fail)
        go_wp2
        go_ret2
        exact ⟨by (rw [EV.out, EO.out, e1.out] <;> rfl), hfin.out _⟩
      rcases v2 : wayB a.length b.length of
      · have e1 := Lib.hid (show cpV a b s T of x = false by rw [VW.out, v2]; simp)
        rw [v2] at QW
        go_wp2
        go_quiet ((first | (go_at_call 36; exact QW.out _)))
        go_wp2
        go_ret2
        exact ⟨by (rw [EV.out, EO.out, e1.out] <;> rfl), hfin.out _⟩
      rw [v2] at QW
      have QC := Lib.hid (fun n => quiet_more (impl_costOfD (c := c) (d := d) (f := co) rfl rfl rfl (h1w.out.below (D1 n) (Nat.le_refl _)) (g1w.out.below (D1 n) (Nat.le_refl _)) (t1w.out.below (D1 n) (Nat.le_refl _)) h1 v2))
      obtain ⟨cz1, hcz1⟩ : ∃ u, u = costZ a b of s := ⟨_, rfl⟩
      rw [← hcz1] at QC VW
      clear hcz1
      rcases v5 : (x == tz)
      · have e1 := Lib.hid (show cpV a b s T of x = false by rw [VW.out, v5]; simp)
        go_wp2
        go_quiet ((first | (go_at_call 36; exact QW.out _)))
        go_wp2
        go_ret2
        exact ⟨by (rw [EV.out, EO.out, e1.out] <;> rfl), hfin.out _⟩
      rcases v3 : (x == cz1)
      · have e1 := Lib.hid (show cpV a b s T of x = false by rw [VW.out, v3]; simp)
        go_wp2
        go_quiet ((first | (go_at_call 36; exact QW.out _) | (go_at_call 37; exact QC.out _)))
        go_wp2
        go_ret2
        exact ⟨by (rw [EV.out, EO.out, e1.out] <;> rfl), hfin.out _⟩
      · have e1 := Lib.hid (show cpV a b s T of x = true by rw [VW.out, v1, v2, v3, v5]; rfl)
        go_wp2
        go_quiet ((first | (go_at_call 36; exact QW.out _) | (go_at_call 37; exact QC.out _)))
        go_wp2
        go_ret2
        exact ⟨by (rw [EV.out, EO.out, e1.out] <;> rfl), hfin.out _⟩
end Go.Proofs.Ytdnbdnfoogjcmaa
