/- The walks through the best match, both sides. -/
import Derived.Test.YtdnbdnfoogjcmaaW22r
namespace Go.Proofs.Ytdnbdnfoogjcmaa
set_option linter.unusedVariables false
set_option linter.unusedSimpArgs false
open Go.ChangeShapes Go.WideShapes Go.ChangeAt Go.RowKit Go.Deep
theorem mul_bd {s : Int} {x j : Nat} (h0 : 0 ≤ s) (h1 : s ≤ 10000) (h2 : j ≤ x) (h3 : x ≤ 60) : 0 ≤ s * ((x : Int) - (j : Int)) ∧ s * ((x : Int) - (j : Int)) ≤ 600000 := by
  refine ⟨Int.mul_nonneg h0 (by omega), ?_⟩
  exact Int.le_trans (Int.mul_le_mul h1 (show (x : Int) - (j : Int) ≤ 60 by omega) (by omega) (by omega)) (by decide)
set_option maxHeartbeats 2000000 in
set_option maxRecDepth 100000 in
theorem impl_bestMatch {A B : Option Addr} {n m c d : Nat} {a b : List Int} {s : Int} {w : World} (hn : a.length = n) (hm : b.length = m) (h : Ints w A a) (g : Ints w B b) (ha : askedM a b s = true) :
    Calls Try.prog 41 #[.slice A n c, .slice B m d, .int .i64 s] w fun e w' => ∃ A' c', e = .returned (.agg #[.slice A' n c', .int .i64 (pAt a b s 0 0)]) ∧ Owned intE 1 3 w' w.heap.size A' n c' (bestGo a b s a.length 0 0) ∧ Below w.heap.size w w' := by
  subst hn hm
  obtain ⟨⟨a1, a2⟩, ⟨b1, b2⟩, s1, s2⟩ := askedM_t ha
  have HA := Lib.hid a2; have HB := Lib.hid b2
  have hP := Lib.hid (fun i j => pAt_bd ha i j)
  clear a2 b2
  have b0 : Below w.heap.size w (w.alloc (.cells #[.slice none 0 0, .int .i64 0] 30)) := by (repeat' (first | (with_reducible exact Below.refl _ _) | (with_reducible assumption) | (with_reducible refine below_drewN ?_ _) | (with_reducible refine Below.drew ?_) | (with_reducible refine below_alloc ?_ _) | (with_reducible refine Below.alloc ?_ ?_ _) | (with_reducible refine Below.setCell ?_ ?_ _) | (with_reducible refine below_go ?_ (by with_reducible assumption)) | (with_reducible refine below_then (by with_reducible assumption) ?_ ?_) | go_size))
  go_in
  go_wp2_with (first | (go_at_call 43; refine (impl_prices rfl rfl (h.up b0) (g.up b0) ha).mono ?_; rintro e w1 ⟨vs, gg, rfl, hT, hb1⟩))
  have hb1w : Below w.heap.size w w1 := below_go b0 hb1
  have hszr := hb1.size
  simp only [World.size_alloc] at hszr
  go_loopw [8, 9, 19] (fun v q ix wr => ∃ (i j : Nat) (A' : Option Addr) (c' : Nat) (acc : List Int), i ≤ a.length ∧ j ≤ b.length ∧ ix = .int .i64 i ∧ q = .int .i64 j ∧ v = .slice A' i c' ∧ Owned intE 1 3 wr w1.heap.size A' i c' acc ∧ Hid (bestGo a b s a.length 0 0 = acc ++ bestGo a b s (a.length - i) i j) ∧ Below w1.heap.size w1 wr) (fun _ _ ix _ => a.length - (intOf ix).toNat)
  case atStart => exact ⟨0, 0, _, _, [], Nat.zero_le _, Nat.zero_le _, rfl, rfl, rfl, Owned.empty intE_len _ _ (Nat.le_refl _), Lib.hid rfl, by (repeat' (first | (with_reducible exact Below.refl _ _) | (with_reducible assumption) | (with_reducible refine below_drewN ?_ _) | (with_reducible refine Below.drew ?_) | (with_reducible refine below_alloc ?_ _) | (with_reducible refine Below.alloc ?_ ?_ _) | (with_reducible refine Below.setCell ?_ ?_ _) | (with_reducible refine below_go ?_ (by with_reducible assumption)) | (with_reducible refine below_then (by with_reducible assumption) ?_ ?_) | go_size))⟩
  case round =>
    obtain ⟨i, j, A', c', acc, hi, hj, rfl, rfl, rfl, ho, HG, hb⟩ := hrel
    rename World => wo
    have hTr := hT.recs.below hb (Nat.le_refl _)
    by_cases hlt : i < a.length
    · have hoi := Lib.hid ho
      clear ho
      obtain ⟨g0, q0, f0, o0, c0, e0, _, lf0, ct0, cr0⟩ := hTr.rowc (pTab_at a b s (i := i) (by omega)) (by rw [pRow_len]; omega)
      injection e0 with e0; injection e0 with e0 e0'; subst e0 e0'
      obtain ⟨g0, q0, f1, o1, c1, e0, lgg, lf1, ct1, cr1⟩ := hTr.rowc (pTab_at a b s (i := i + 1) (by omega)) (by rw [pRow_len]; omega)
      injection e0 with e0; injection e0 with e0 e0'; subst e0 e0'
      simp only [pRow_len, Nat.zero_add] at ct0 ct1
      have cj0 := cr0 j _ (pRow_at a b s i (by omega))
      have cj1 := cr1 j _ (pRow_at a b s (i + 1) (by omega))
      have p0 := hP.out i j; have p1 := hP.out (i + 1) j
      have CR1 := Lib.hid cr1
      clear cr0 cr1 hTr
      by_cases heq : pAt a b s i j = s + pAt a b s (i + 1) j
      · have HE := Lib.hid heq
        obtain ⟨u0, hu0⟩ : ∃ u, u = pAt a b s i j := ⟨_, rfl⟩
        obtain ⟨u1, hu1⟩ : ∃ u, u = pAt a b s (i + 1) j := ⟨_, rfl⟩
        rw [← hu0] at cj0 p0 heq; rw [← hu1] at cj1 p1 heq
        clear hu0 hu1
        have hbq : (s + u1 == u0) = true := by rw [heq]; simp
        clear heq
        go_wp2
        go_quiet (fail)
        go_wp2_with (first | (at_builtin; go_must ((refine wpList_append_rec Try.elInt rfl (.tmp 40) (.tmp 41) rfl rfl ((hoi.out.drewN _).alloc _) (-1) rfl (Box.at_ _ [.int .i64 (-1)] _ ?_) (intE_one _) ?_ (by decide) ?_ ?_; (focus (first | omega | (simp only [World.size_alloc]; done) | (simp only [World.size_alloc]; omega) | (simp; done) | (simp; omega))); (focus (first | omega | (simp only [World.size_alloc]; done) | (simp only [World.size_alloc]; omega) | (simp; done) | (simp; omega))); (have := hb.size; (focus (first | omega | (simp only [World.size_alloc]; done) | (simp only [World.size_alloc]; omega) | (simp; done) | (simp; omega)))); intro A2 c2 w2 ho2 hg2 hb2))))
        go_roundw
        case rel =>
          refine ⟨i + 1, j, A2, c2, acc ++ [-1], by omega, hj, by go_num, rfl, by go_num, ho2, Lib.hid ?_, (((below_drewN hb _).alloc hb.size _).trans hb2)⟩
          rw [HG.out, bestGo_skip HE.out (by omega), List.append_assoc, show a.length - (i + 1) = a.length - i - 1 by omega]; rfl
        case measure => simp [intOf]; omega
      · have HE := Lib.hid heq
        obtain ⟨nx, n1, n2, n3⟩ := hit_some s1 hlt heq
        have HX := Lib.hid (show ∃ n, j ≤ n ∧ n < b.length ∧ hitB a b s i j n = true from ⟨nx, n1, n2, n3⟩)
        clear n3
        obtain ⟨u0, hu0⟩ : ∃ u, u = pAt a b s i j := ⟨_, rfl⟩
        obtain ⟨u1, hu1⟩ : ∃ u, u = pAt a b s (i + 1) j := ⟨_, rfl⟩
        rw [← hu0] at cj0 p0 heq; rw [← hu1] at cj1 p1 heq
        have U0 := Lib.hid hu0
        clear hu0 hu1
        have hbq : (s + u1 == u0) = false := by simp; omega
        clear heq
        go_wp2
        go_quiet (fail)
        go_wp2
        go_loopw [11] (fun v wy => ∃ x : Nat, j ≤ x ∧ x < b.length ∧ v = .int .i64 x ∧ Hid (hitFrom (hitB a b s i j) (b.length - j) j = hitFrom (hitB a b s i j) (b.length - x) x) ∧ Hid (∃ n, x ≤ n ∧ n < b.length ∧ hitB a b s i j n = true) ∧ Below wo.heap.size wo wy) (fun v _ => b.length - (intOf v).toNat)
        case atStart => exact ⟨j, Nat.le_refl _, by omega, rfl, Lib.hid rfl, HX, by (repeat' (first | (with_reducible exact Below.refl _ _) | (with_reducible assumption) | (with_reducible refine below_drewN ?_ _) | (with_reducible refine Below.drew ?_) | (with_reducible refine below_alloc ?_ _) | (with_reducible refine Below.alloc ?_ ?_ _) | (with_reducible refine Below.setCell ?_ ?_ _) | (with_reducible refine below_go ?_ (by with_reducible assumption)) | (with_reducible refine below_then (by with_reducible assumption) ?_ ?_) | go_size))⟩
        case round =>
          obtain ⟨x, hjx, hxb, rfl, HF, HN, hby⟩ := hrel
          have hwy := hb1w.trans ((hb.trans (hby.mono hb.size)).mono (by omega))
          obtain ⟨b3, o3, xa, rfl, hb3, hxa, hcx⟩ := (h.below hwy (Nat.le_refl _)).at_int hlt
          obtain ⟨b4, o4, yb, rfl, hb4, hyb, hcy⟩ := (g.below hwy (Nat.le_refl _)).at_int hxb
          have EH := Lib.hid (hitB_eq (s := s) (j := j) hxa hyb)
          have x1 := HA.out xa (List.mem_of_getElem? hxa); have y1 := HB.out yb (List.mem_of_getElem? hyb)
          have za := absZ_bd (xa - yb)
          have ct0' := (hby.cell (p := ⟨gg, i, none⟩) (by show gg < wo.heap.size; omega)).trans ct0
          have ct1' := (hby.cell (p := ⟨gg, i + 1, none⟩) (by show gg < wo.heap.size; omega)).trans ct1
          have cj0' := (hby.cell (p := ⟨f0, o0 + j, none⟩) (by show f0 < wo.heap.size; omega)).trans cj0
          have cx1 := (hby.cell (p := ⟨f1, o1 + (x + 1), none⟩) (by show f1 < wo.heap.size; omega)).trans (CR1.out (x + 1) _ (pRow_at a b s (i + 1) (by omega)))
          have p2 := hP.out (i + 1) (x + 1)
          obtain ⟨u2, hu2⟩ : ∃ u, u = pAt a b s (i + 1) (x + 1) := ⟨_, rfl⟩
          rw [← hu2] at cx1 p2 EH
          rw [← U0.out] at EH
          clear hu2
          have mb := mul_bd (x := x) (j := j) s1 s2 hjx (by omega)
          have g0 := wrap_id (x := (x : Int) - (j : Int)) (by omega)
          have g1 := wrap_id (x := s * ((x : Int) - (j : Int))) (by omega)
          have g2 := wrap_id (x := xa - yb) (by omega)
          have g3 := wrap_id (x := s * ((x : Int) - (j : Int)) + absZ (xa - yb)) (by omega)
          have g4 := wrap_id (x := s * ((x : Int) - (j : Int)) + absZ (xa - yb) + u2) (by omega)
          have hbs := hb.size
          clear hxa hyb ct0 ct1 cj0 cj1 h g
          rcases hp : hitB a b s i j x
          · have hcond : (s * ((x : Int) - (j : Int)) + absZ (xa - yb) + u2 != u0) = true := by
              have := EH.out; rw [hp] at this; have := of_decide_eq_false this.symm; simp; omega
            go_wp2
            go_quiet ((go_at_call 46; exact quiet_left (impl_abs _ _ (by omega))))
            go_wp2
            go_roundw
            case rel =>
              obtain ⟨n', m1, m2, m3⟩ := HN.out
              have hnx : n' ≠ x := fun e => by rw [e, hp] at m3; cases m3
              exact ⟨x + 1, by omega, by omega, by go_num, Lib.hid (by rw [HF.out, hitFrom_f hp (by omega), show b.length - (x + 1) = b.length - x - 1 by omega]), Lib.hid ⟨n', by omega, m2, m3⟩, by (repeat' (first | (with_reducible exact Below.refl _ _) | (with_reducible assumption) | (with_reducible refine below_drewN ?_ _) | (with_reducible refine Below.drew ?_) | (with_reducible refine below_alloc ?_ _) | (with_reducible refine Below.alloc ?_ ?_ _) | (with_reducible refine Below.setCell ?_ ?_ _) | (with_reducible refine below_go ?_ (by with_reducible assumption)) | (with_reducible refine below_then (by with_reducible assumption) ?_ ?_) | go_size))⟩
            case measure => simp [intOf]; omega
          · have hcond : (s * ((x : Int) - (j : Int)) + absZ (xa - yb) + u2 != u0) = false := by
              have := EH.out; rw [hp] at this; have := of_decide_eq_true this.symm; simp; omega
            go_wp2
            go_quiet ((go_at_call 46; exact quiet_left (impl_abs _ _ (by omega))))
            go_wp2_with (first | (at_builtin; go_must ((refine wpList_append_rec Try.elInt rfl (.tmp 80) (.tmp 82) rfl rfl (((hoi.out.up hby).drewN _).alloc _) (x : Int) rfl (Box.at_ _ [.int .i64 (x : Int)] _ ?_) (intE_one _) ?_ (by decide) ?_ ?_; (focus (first | omega | (simp only [World.size_alloc]; done) | (simp only [World.size_alloc]; omega) | (simp; done) | (simp; omega))); (focus (first | omega | (simp only [World.size_alloc]; done) | (simp only [World.size_alloc]; omega) | (simp; done) | (simp; omega))); (have := hby.size; (focus (first | omega | (simp only [World.size_alloc]; done) | (simp only [World.size_alloc]; omega) | (simp; done) | (simp; omega)))); intro A2 c2 w2 ho2 hg2 hb2))))
            go_roundw
            case rel =>
              refine ⟨i + 1, x + 1, A2, c2, acc ++ [(x : Int)], by omega, by omega, by go_num, by go_num, by go_num, ho2, Lib.hid ?_, (((below_drewN (hb.trans (hby.mono hb.size)) _).alloc (by have := hby.size; simp; omega) _).trans hb2)⟩
              rw [HG.out, bestGo_hit HE.out (by omega) (HF.out.trans (hitFrom_t hp)), List.append_assoc, show a.length - (i + 1) = a.length - i - 1 by omega]; rfl
            case measure => simp [intOf]; omega
    · obtain rfl : i = a.length := by omega
      obtain ⟨g0, q0, f0, o0, c0, e0, _, lf0, ct0, cr0⟩ := hTr.rowc (pTab_at a b s (i := 0) (by omega)) (by rw [pRow_len]; omega)
      injection e0 with e0; injection e0 with e0 e0'; subst e0 e0'
      have cj0 := cr0 0 _ (pRow_at a b s 0 (by omega))
      simp only [pRow_len, Nat.zero_add, Nat.add_zero] at ct0 cj0
      have hres := HG.out
      rw [Nat.sub_self, bestGo_zero, List.append_nil] at hres
      subst hres
      have K0 := (Blk.at_ w 30 [.slice none 0 0, .int .i64 0] (b := w.heap.size) rfl).up (hb1.trans (hb.mono hb1.size))
      have f0' := K0.frozen 0; have f1' := K0.frozen 1
      have d0' := K0.cell 0; have d1' := K0.cell 1
      simp only [List.getElem?_cons_zero, List.getElem?_cons_succ] at d0' d1'
      have HK := Lib.hid K0
      have HO := Lib.hid ho
      have hsz := hb.size
      clear cr0 K0 ho
      go_wp2
      have Z := (HK.out.set_ 0 (.slice A' a.length c')).set_ 1 (.int .i64 (pAt a b s 0 0))
      have z0 := Z.cell 0; have z1 := Z.cell 1
      simp only [List.set_cons_zero, List.set_cons_succ, List.getElem?_cons_zero, List.getElem?_cons_succ] at z0 z1
      refine bodyPost_ret (v := .agg #[.slice A' a.length c', .int .i64 (pAt a b s 0 0)]) (by simp [results, Try.results41, go_sem, z0, z1]) rfl ?_
      have k1 := HO.out.kept (only_set wo (p := ⟨w.heap.size, 0, none⟩) (.slice A' a.length c')) (fun k hk e => by have := (HO.out.blk hk).1; simp at e; omega)
      have k2 := k1.kept (only_set _ (p := ⟨w.heap.size, 1, none⟩) (.int .i64 (pAt a b s 0 0))) (fun k hk e => by have := (HO.out.blk hk).1; simp at e; omega)
      exact ⟨A', c', rfl, k2.base_le (by omega), ((hb1w.trans (hb.mono (by omega))).setCell (by simp) _).setCell (by simp) _⟩
end Go.Proofs.Ytdnbdnfoogjcmaa
