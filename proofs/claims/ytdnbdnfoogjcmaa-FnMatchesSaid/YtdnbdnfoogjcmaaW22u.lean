/- The walks through the bounds of a table of costs, both sides. -/
import Derived.Test.YtdnbdnfoogjcmaaW22t
import Derived.Test.YtdnbdnfoogjcmaaW22w
import Derived.Test.YtdnbdnfoogjcmaaApp
namespace Go.Proofs.Ytdnbdnfoogjcmaa
set_option linter.unusedVariables false
set_option linter.unusedSimpArgs false
open Go.ChangeShapes Go.WideShapes Go.ChangeAt Go.RowKit Go.Deep
set_option maxHeartbeats 4000000 in
set_option maxRecDepth 100000 in
theorem spec_l22Bounded {vs : List Hd} {A B C : Option Addr} {n m q c d f : Nat} {a b : List Int} {s : Int} {T : List (List Int)} {w : World} (hn : a.length = n) (hm : b.length = m) (hq : T.length = q) (h : Ints w A a) (g : Ints w B b) (hT : TabR vs w C T) (ha : askedM a b s = true) (hsh : shapeB a.length b.length T = true) :
    Calls Try.prog 50 #[.slice A n c, .slice B m d, .int .i64 s, .slice C q f] w fun e w' => e = .returned (.bool (boundB a b s T && (tc T a.length b.length == 0))) ∧ Dr w w' := by
  subst hn hm
  obtain ⟨⟨a1, a2⟩, ⟨b1, b2⟩, s1, s2⟩ := askedM_t ha
  obtain ⟨hTl, hS⟩ := shapeB_t hsh
  obtain rfl : q = a.length + 1 := by omega
  clear hq
  have HA := Lib.hid a2; have HB := Lib.hid b2; have HS := Lib.hid hS
  obtain ⟨rz, hrz, hlz, _⟩ := hS 0 (by omega)
  obtain ⟨g0, og, _, _, _, rfl, _⟩ := hT.rowc hrz (by omega)
  clear a2 b2 hS hrz hlz hTl
  go_in
  go_wp2
  go_loopw [14] (fun v wr => ∃ i : Nat, i ≤ a.length + 1 ∧ v = .int .i64 i ∧ Hid (∀ i', i' < i → okLine a b s T i' = true) ∧ Dr w wr) (fun v _ => a.length + 1 - (intOf v).toNat)
  case atStart => exact ⟨0, Nat.zero_le _, rfl, Lib.hid (fun j hj => absurd hj (by omega)), Dr.refl _⟩
  case round =>
    obtain ⟨i, hiL, rfl, HI, hbo⟩ := hrel
    rename World => wo
    by_cases hlt : i < a.length + 1
    · obtain ⟨r0, hr0, hl0, hx0⟩ := HS.out i hlt
      obtain ⟨g1, og1, fo, oo, co, e0, _, _, ct0, _⟩ := (hT.up hbo.below).rowc hr0 (by omega)
      injection e0 with e0; injection e0 with e0 e0'; subst e0 e0'
      rw [hl0] at ct0
      have hltI : (i : Int) < (a.length : Int) + 1 := by omega
      clear hr0 hl0 hx0
      go_wp2
      go_loopw [22] (fun v wr => ∃ j : Nat, j ≤ b.length + 1 ∧ v = .int .i64 j ∧ Hid (∀ j', j' < j → okCell a b s T i j' = true) ∧ Dr w wr ∧ wr.cell? ⟨g0, og + i, none⟩ = some (.slice (some ⟨fo, oo, none⟩) (b.length + 1) co)) (fun v _ => b.length + 1 - (intOf v).toNat)
      case atStart => exact ⟨0, Nat.zero_le _, rfl, Lib.hid (fun j hj => absurd hj (by omega)), hbo, ct0⟩
      case round =>
        obtain ⟨j, hjL, rfl, HJ, hbw, ctf⟩ := hrel
        by_cases hjt : j < b.length + 1
        · have hTr := hT.up hbw.below
          clear ct0
          obtain ⟨r0, hr0, hl0, hx0⟩ := HS.out i (by omega)
          obtain ⟨g1, og1, f0, o0, c0, e0, lgg, lf0, ct0, cr0⟩ := hTr.rowc hr0 (by omega)
          injection e0 with e0; injection e0 with e0 e0'; subst e0 e0'
          rw [hl0] at ct0
          rw [ct0] at ctf
          injection ctf with ctf
          injection ctf with q1 q2 q3
          injection q1 with q1; injection q1 with q1 q1'
          subst q1 q1' q3
          have x0 := hx0 j (by omega)
          have cj0 := cr0 j _ x0.1
          have y0 := x0.2
          by_cases hi : i < a.length
          · obtain ⟨r1, hr1, hl1, hx1⟩ := HS.out (i + 1) (by omega)
            obtain ⟨g1, og1, f1, o1, c1, e0, _, lf1, ct1, cr1⟩ := hTr.rowc hr1 (by omega)
            injection e0 with e0; injection e0 with e0 e0'; subst e0 e0'
            rw [hl1] at ct1
            have x1 := hx1 j (by omega)
            have cj1 := cr1 j _ x1.1
            have y1 := x1.2
            by_cases hj : j < b.length
            · have x2 := hx0 (j + 1) (by omega)
              have x3 := hx1 (j + 1) (by omega)
              have cj2 := cr0 (j + 1) _ x2.1
              have cj3 := cr1 (j + 1) _ x3.1
              have y2 := x2.2; have y3 := x3.2
              obtain ⟨ba, oa, xa, rfl, _, hxa, hca⟩ := (h.below hbw.below (Nat.le_refl _)).at_int hi
              obtain ⟨bb, ob, yb, rfl, _, hyb, hcb⟩ := (g.below hbw.below (Nat.le_refl _)).at_int hj
              have a1 := HA.out xa (List.mem_of_getElem? hxa); have b1 := HB.out yb (List.mem_of_getElem? hyb)
              have za := absZ_bd (xa - yb)
              have OA := Lib.hid (okCell_A (b := b) (s := s) (T := T) (i := i) (j := j) hi)
              have OB := Lib.hid (okCell_B (a := a) (s := s) (T := T) (i := i) (j := j) hj)
              have OC := Lib.hid (okCell_C (s := s) (T := T) hxa hyb)
              have OK := Lib.hid (fun q1 q2 q3 => okCell_ok (a := a) (b := b) (s := s) (T := T) (i := i) (j := j) (fun _ => q1) (fun _ => q2) (fun x y hx hy => by
                rw [hxa] at hx; rw [hyb] at hy; injection hx with hx; injection hy with hy; subst hx hy; exact q3))
              clear x0 x1 x2 x3 cr0 cr1 hr0 hr1 hx0 hx1 hxa hyb h g hTr
              obtain ⟨t0, ht0⟩ : ∃ t, t = tc T i j := ⟨_, rfl⟩
              obtain ⟨t1, ht1⟩ : ∃ t, t = tc T (i + 1) j := ⟨_, rfl⟩
              obtain ⟨t2, ht2⟩ : ∃ t, t = tc T i (j + 1) := ⟨_, rfl⟩
              obtain ⟨t3, ht3⟩ : ∃ t, t = tc T (i + 1) (j + 1) := ⟨_, rfl⟩
              rw [← ht0] at OA OB OC OK cj0 y0
              rw [← ht1] at OA OK cj1 y1
              rw [← ht2] at OB OK cj2 y2
              rw [← ht3] at OC OK cj3 y3
              clear ht0 ht1 ht2 ht3
              have HY := Lib.hid (And.intro y0 (And.intro y1 (And.intro y2 y3)))
              by_cases qA : s + t1 < t0
              · have e0 := Lib.hid (boundB_bad (i := i) (j := j) (by omega) (by omega) (OA.out qA))
                go_wp2
                go_ret
                exact ⟨ret_bool (by rw [e0.out]; rfl), (by first | assumption | exact Dr.drewN (by assumption) _)⟩
              by_cases qB : s + t2 < t0
              · have e0 := Lib.hid (boundB_bad (i := i) (j := j) (by omega) (by omega) (OB.out qB))
                go_wp2
                go_ret
                exact ⟨ret_bool (by rw [e0.out]; rfl), (by first | assumption | exact Dr.drewN (by assumption) _)⟩
              have k0 := wrap_id (x := xa - yb) (by omega)
              have k1 := wrap_id (x := absZ (xa - yb) + t3) (by omega)
              have hiN : i < a.length + 1 := by omega
              have hjN : j < b.length + 1 := by omega
              have hiI : (i : Int) < (a.length : Int) + 1 := by omega
              have hjI : (j : Int) < (b.length : Int) + 1 := by omega
              by_cases qC : absZ (xa - yb) + t3 < t0
              · have e0 := Lib.hid (boundB_bad (i := i) (j := j) (by omega) (by omega) (OC.out qC))
                go_wp2
                go_quiet ((go_at_call 70; exact quiet_left (spec_l22Far _ _ _ (by omega))))
                go_wp2
                go_ret
                exact ⟨ret_bool (by rw [e0.out]; rfl), (by first | assumption | exact Dr.drewN (by assumption) _)⟩
              · have e0 := Lib.hid (OK.out qA qB qC)
                go_wp2
                go_quiet ((go_at_call 70; exact quiet_left (spec_l22Far _ _ _ (by omega))))
                go_wp2
                go_roundw
                case rel => exact ⟨j + 1, by omega, by go_num, Lib.hid (upto_succ HJ.out e0.out), (by first | assumption | exact Dr.drewN (by assumption) _), by assumption⟩
                case measure => simp [intOf]; omega
            · have OA := Lib.hid (okCell_A (b := b) (s := s) (T := T) (i := i) (j := j) hi)
              have OK := Lib.hid (fun q1 => okCell_ok (a := a) (b := b) (s := s) (T := T) (i := i) (j := j) (fun _ => q1) (fun q => absurd q hj) (fun x y hx hy => absurd (List.getElem?_eq_some_iff.1 hy).1 hj))
              clear x0 x1 cr0 cr1 hr0 hr1 hx0 hx1 h g hTr
              obtain ⟨t0, ht0⟩ : ∃ t, t = tc T i j := ⟨_, rfl⟩
              obtain ⟨t1, ht1⟩ : ∃ t, t = tc T (i + 1) j := ⟨_, rfl⟩
              rw [← ht0] at OA OK cj0 y0
              rw [← ht1] at OA OK cj1 y1
              clear ht0 ht1
              by_cases qA : s + t1 < t0
              · have e0 := Lib.hid (boundB_bad (i := i) (j := j) (by omega) (by omega) (OA.out qA))
                go_wp2
                go_ret
                exact ⟨ret_bool (by rw [e0.out]; rfl), (by first | assumption | exact Dr.drewN (by assumption) _)⟩
              · have e0 := Lib.hid (OK.out qA)
                go_wp2
                go_quiet (fail)
                go_wp2
                go_roundw
                case rel => exact ⟨j + 1, by omega, by go_num, Lib.hid (upto_succ HJ.out e0.out), (by first | assumption | exact Dr.drewN (by assumption) _), by assumption⟩
                case measure => simp [intOf]; omega
          · by_cases hj : j < b.length
            · have x2 := hx0 (j + 1) (by omega)
              have cj2 := cr0 (j + 1) _ x2.1
              have y2 := x2.2
              have OB := Lib.hid (okCell_B (a := a) (s := s) (T := T) (i := i) (j := j) hj)
              have OK := Lib.hid (fun q2 => okCell_ok (a := a) (b := b) (s := s) (T := T) (i := i) (j := j) (fun q => absurd q hi) (fun _ => q2) (fun x y hx hy => absurd (List.getElem?_eq_some_iff.1 hx).1 hi))
              clear x0 x2 cr0 hr0 hx0 h g hTr
              obtain ⟨t0, ht0⟩ : ∃ t, t = tc T i j := ⟨_, rfl⟩
              obtain ⟨t2, ht2⟩ : ∃ t, t = tc T i (j + 1) := ⟨_, rfl⟩
              rw [← ht0] at OB OK cj0 y0
              rw [← ht2] at OB OK cj2 y2
              clear ht0 ht2
              by_cases qB : s + t2 < t0
              · have e0 := Lib.hid (boundB_bad (i := i) (j := j) (by omega) (by omega) (OB.out qB))
                go_wp2
                go_ret
                exact ⟨ret_bool (by rw [e0.out]; rfl), (by first | assumption | exact Dr.drewN (by assumption) _)⟩
              · have e0 := Lib.hid (OK.out qB)
                go_wp2
                go_quiet (fail)
                go_wp2
                go_roundw
                case rel => exact ⟨j + 1, by omega, by go_num, Lib.hid (upto_succ HJ.out e0.out), (by first | assumption | exact Dr.drewN (by assumption) _), by assumption⟩
                case measure => simp [intOf]; omega
            · have e0 := Lib.hid (okCell_ok (a := a) (b := b) (s := s) (T := T) (i := i) (j := j) (fun q => absurd q hi) (fun q => absurd q hj) (fun x y hx hy => absurd (List.getElem?_eq_some_iff.1 hy).1 hj))
              clear x0 cr0 hr0 hx0 h g hTr
              obtain ⟨t0, ht0⟩ : ∃ t, t = tc T i j := ⟨_, rfl⟩
              rw [← ht0] at cj0 y0
              clear ht0
              go_wp2
              go_quiet (fail)
              go_wp2
              go_roundw
              case rel => exact ⟨j + 1, by omega, by go_num, Lib.hid (upto_succ HJ.out e0.out), (by first | assumption | exact Dr.drewN (by assumption) _), by assumption⟩
              case measure => simp [intOf]; omega
        · obtain rfl : j = b.length + 1 := by omega
          go_wp2
          go_roundw
          case rel => exact ⟨i + 1, by omega, by go_num, Lib.hid (upto_succ HI.out (okLine_t (fun j hj => HJ.out j hj))), hbw⟩
          case measure => simp [intOf]; omega
    · obtain rfl : i = a.length + 1 := by omega
      have e0 := Lib.hid (boundB_t (fun i hi => HI.out i hi))
      obtain ⟨r0, hr0, hl0, hx0⟩ := HS.out a.length (by omega)
      obtain ⟨g1, og1, f0, o0, c0, eC, _, _, ct0, cr0⟩ := (hT.up hbo.below).rowc hr0 (by omega)
      injection eC with eC; injection eC with eC eC'; subst eC eC'
      rw [hl0] at ct0
      have x0 := hx0 b.length (by omega)
      have cj0 := cr0 b.length _ x0.1
      clear hr0 hl0 hx0 cr0 x0 hT
      go_wp2
      go_ret
      exact ⟨ret_bool (by rw [e0.out]; rfl), hbo⟩
end Go.Proofs.Ytdnbdnfoogjcmaa
