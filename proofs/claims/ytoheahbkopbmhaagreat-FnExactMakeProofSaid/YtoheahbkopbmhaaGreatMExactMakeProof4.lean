/- Texts 4 of 4 that the claim leans on: plain laws and the walks' contracts, in order. -/
import Derived.Test.YtoheahbkopbmhaaGreatMExactMakeProof3
import Derived.StillTailTactics
/- The walk through the program's MakeProof. -/
namespace Go.Proofs.YtoheahbkopbmhaaGreat
set_option linter.unusedVariables false
set_option linter.unusedSimpArgs false
open Go.ChangeShapes Go.WideShapes Go.ChangeAt Go.RowKit Go.Deep
set_option maxHeartbeats 8000000 in
set_option maxRecDepth 100000 in
theorem impl_MakeProof {A : Option Addr} {n c : Nat} {nm : ByteArray} {st : Int} {l : List ByteArray} {kb ks : ByteArray} {t : ByteArray} {w : World} (hn : l.length = n) (h : Strs w A l) (hz : n ≤ 1048576) (hs : ∀ s ∈ l, s.size ≤ 16777216) (hnm : nm.size ≤ 16777216) (hst : I64 st) (hkb : kb.size ≤ 16777216) (hks : ks.size ≤ 16777216) (ht : t.size ≤ 16777216) :
    Calls Tryz.prog 9 #[.agg #[.string nm, .int .i64 st, .slice A n c], .agg #[.string kb, .string ks], .string t] w fun e w' => ∃ AH cH AL cL, e = .returned (.tuple #[.agg #[.slice AH (mkH nm st l kb ks t).length cH, .slice AL (mkM nm st l kb ks t).length cL], .bool (mkOk nm st l kb ks t)]) ∧ Owned strE 1 9 w' w.heap.size AH (mkH nm st l kb ks t).length cH (mkH nm st l kb ks t) ∧ Owned lineE 3 55 w' w.heap.size AL (mkM nm st l kb ks t).length cL (mkM nm st l kb ks t) ∧ Below w.heap.size w w' := by
  have b0 : Below w.heap.size w (((w.alloc (.cells ⟨[.string nm, .int .i64 st, .slice A n c]⟩ 34)).alloc (.cells ⟨[.string kb, .string ks]⟩ 36)).alloc (.cells ⟨[.slice none 0 0, .slice none 0 0]⟩ 31)) := by (repeat' (first | (with_reducible exact Below.refl _ _) | (with_reducible assumption) | (with_reducible refine below_drewN ?_ _) | (with_reducible refine Below.drew ?_) | (with_reducible refine below_alloc ?_ _) | (with_reducible refine Below.alloc ?_ ?_ _) | (with_reducible refine Below.setCell ?_ ?_ _) | (with_reducible refine below_go ?_ (by with_reducible assumption)) | (with_reducible refine below_then (by with_reducible assumption) ?_ ?_) | go_size))
  have K0 := ((Blk.at_ w 34 [.string nm, .int .i64 st, .slice A n c] (b := w.heap.size) rfl).alloc (.cells ⟨[.string kb, .string ks]⟩ 36)).alloc (.cells ⟨[.slice none 0 0, .slice none 0 0]⟩ 31)
  have K1 := (Blk.at_ (w.alloc (.cells ⟨[.string nm, .int .i64 st, .slice A n c]⟩ 34)) 36 [.string kb, .string ks] (b := w.heap.size + 1) (by simp)).alloc (.cells ⟨[.slice none 0 0, .slice none 0 0]⟩ 31)
  have K2 := Blk.at_ ((w.alloc (.cells ⟨[.string nm, .int .i64 st, .slice A n c]⟩ 34)).alloc (.cells ⟨[.string kb, .string ks]⟩ 36)) 31 [.slice none 0 0, .slice none 0 0] (b := w.heap.size + 1 + 1) (by simp)
  have HQ : Hid (mkOk nm st l kb ks t = ((rowsOk nm st l kb ks t && decide (tRows st.toNat l kb ks t t.size).Nodup) && decide (hdAt st.toNat l kb ks t t.size = roundsS st.toNat))) := Lib.hid rfl
  go_in
  go_upto_region 1 with fail
  obtain ⟨w0, hw0⟩ : ∃ u, u = (((w.alloc (.cells #[.string nm, .int .i64 st, .slice A n c] 34)).alloc (.cells #[.string kb, .string ks] 36)).alloc (.cells #[.slice none 0 0, .slice none 0 0] 31)) := ⟨_, rfl⟩
  rw [← hw0] at b0 K0 K1 K2 ⊢
  clear hw0
  have k0 := K0.cell 0; have k1 := K0.cell 1; have k2 := K0.cell 2; have q0 := K1.cell 0; have q1 := K1.cell 1
  simp only [List.getElem?_cons_zero, List.getElem?_cons_succ] at k0 k1 k2 q0 q1
  go_wp2_with fail
  refine (impl_TouchRows hn (h.up b0) hz hs hnm hst hkb hks ht).mono ?_; rintro e w1 ⟨A8, m8, c8, rfl, hyes, hno, hb1⟩
  have B1 := below_go b0 hb1
  have K0 := K0.up hb1
  have K1 := K1.up hb1
  have K2 := K2.up hb1
  clear k0 k1 k2 q0 q1
  rcases hro : rowsOk nm st l kb ks t
  · have NO := Lib.hid (show mkOk nm st l kb ks t = false by rw [HQ.out, hro]; rfl)
    have r0 := K2.cell 0; have r1 := K2.cell 1
    simp only [List.getElem?_cons_zero, List.getElem?_cons_succ] at r0 r1
    have f0 := K2.frozen 0
    have f1 := K2.frozen 1
    clear hro hyes hno hb1
    go_wp2
    clear r0 r1
    have Z := (K2.set_ 0 (.slice none 0 0)).set_ 1 (.slice none 0 0)
    have y0 := Z.cell 0; have y1 := Z.cell 1
    simp only [List.set_cons_zero, List.set_cons_succ, List.getElem?_cons_zero, List.getElem?_cons_succ] at y0 y1
    (try simp only [Exit.inBlock, Exit.then])
    refine bodyPost_ret (v := .tuple #[.agg #[.slice none 0 0, .slice none 0 0], .bool false]) (by simp [results, Tryz.results9, go_sem, y0, y1]; try rfl) rfl ?_
    rw [(mk_f NO.out).1, (mk_f NO.out).2, NO.out]
    exact ⟨none, 0, none, 0, rfl, Owned.nil strE_len _ _ _, Owned.nil lineE_len _ _ _, by (repeat' (first | (with_reducible exact Below.refl _ _) | (with_reducible assumption) | (with_reducible refine below_drewN ?_ _) | (with_reducible refine Below.drew ?_) | (with_reducible refine below_alloc ?_ _) | (with_reducible refine Below.alloc ?_ ?_ _) | (with_reducible refine Below.setCell ?_ ?_ _) | (with_reducible refine below_go ?_ (by with_reducible assumption)) | (with_reducible refine below_then (by with_reducible assumption) ?_ ?_) | go_size))⟩
  obtain ⟨rfl, o8⟩ := hyes hro
  have hro2 := hro
  rw [rowsOk, Bool.and_eq_true, decide_eq_true_eq, hn] at hro2
  obtain ⟨hf, h800⟩ := hro2
  obtain ⟨hk, hgt⟩ := goodF_t' hf
  obtain ⟨m, rfl⟩ : ∃ m : Nat, st = (m : Int) := ⟨st.toNat, by
    have := (goodM_t (goodK_t hk).1).2.1
    omega⟩
  have hm : ((m : Int)).toNat = m := rfl
  rw [hm] at HQ o8
  obtain ⟨⟨h3, h8⟩, ⟨hn1, hn40⟩, _⟩ := goodK_all hk
  obtain ⟨ht1, ht60, _⟩ := goodT_t hgt
  rw [hn] at hn1 hn40
  have HN := Lib.hid hn
  have HRO := Lib.hid hro
  have H800 := Lib.hid h800
  have HSTR := Lib.hid h
  have H8 := Lib.hid o8
  have HRS : Hid (∀ x ∈ tRows m l kb ks t t.size, x.size ≤ 16777216) := Lib.hid (fun x hx => by have := (tRowsN h3 h8 l kb ks t _ x hx).2; omega)
  clear hyes hno hro hf hm hn hb1 o8 b0 h
  go_wp2_with fail
  refine (impl_isTrue (by rw [tRows_len, HN.out]) H8.out.recs (by omega) HRS.out).mono ?_; rintro e w2 ⟨rfl, hb2⟩
  have B2 := below_go B1 hb2
  have K0 := K0.up hb2
  have K1 := K1.up hb2
  have K2 := K2.up hb2
  have H8 := Lib.hid (H8.out.up hb2)
  clear hb2
  by_cases hnd : (tRows m l kb ks t t.size).Nodup
  rotate_left
  · have hnb : nodupB (tRows m l kb ks t t.size) = false := by rw [nodupB, decide_eq_false hnd]
    rw [hnb]
    have NO := Lib.hid (show mkOk nm m l kb ks t = false by rw [HQ.out, HRO.out, decide_eq_false hnd]; rfl)
    have r0 := K2.cell 0; have r1 := K2.cell 1
    simp only [List.getElem?_cons_zero, List.getElem?_cons_succ] at r0 r1
    have f0 := K2.frozen 0
    have f1 := K2.frozen 1
    clear hnb hnd
    go_wp2
    clear r0 r1
    have Z := (K2.set_ 0 (.slice none 0 0)).set_ 1 (.slice none 0 0)
    have y0 := Z.cell 0; have y1 := Z.cell 1
    simp only [List.set_cons_zero, List.set_cons_succ, List.getElem?_cons_zero, List.getElem?_cons_succ] at y0 y1
    (try simp only [Exit.inBlock, Exit.then])
    refine bodyPost_ret (v := .tuple #[.agg #[.slice none 0 0, .slice none 0 0], .bool false]) (by simp [results, Tryz.results9, go_sem, y0, y1]; try rfl) rfl ?_
    rw [(mk_f NO.out).1, (mk_f NO.out).2, NO.out]
    exact ⟨none, 0, none, 0, rfl, Owned.nil strE_len _ _ _, Owned.nil lineE_len _ _ _, by (repeat' (first | (with_reducible exact Below.refl _ _) | (with_reducible assumption) | (with_reducible refine below_drewN ?_ _) | (with_reducible refine Below.drew ?_) | (with_reducible refine below_alloc ?_ _) | (with_reducible refine Below.alloc ?_ ?_ _) | (with_reducible refine Below.setCell ?_ ?_ _) | (with_reducible refine below_go ?_ (by with_reducible assumption)) | (with_reducible refine below_then (by with_reducible assumption) ?_ ?_) | go_size))⟩
  have hnb : nodupB (tRows m l kb ks t t.size) = true := by rw [nodupB, decide_eq_true hnd]
  rw [hnb]
  have HND := Lib.hid hnd
  clear hnb hnd
  have k0 := K0.cell 0; have k1 := K0.cell 1; have k2 := K0.cell 2; have q0 := K1.cell 0; have q1 := K1.cell 1
  simp only [List.getElem?_cons_zero, List.getElem?_cons_succ] at k0 k1 k2 q0 q1
  go_wp2_with fail
  refine (impl_comesRound HN.out (HSTR.out.up B2) hk hgt).mono ?_; rintro e w3 ⟨rfl, hb3⟩
  have B3 := below_go B2 hb3
  have K0 := K0.up hb3
  have K1 := K1.up hb3
  have K2 := K2.up hb3
  have H8 := Lib.hid (H8.out.up hb3)
  clear hb3 k0 k1 k2 q0 q1
  by_cases hcr : hdAt m l kb ks t t.size = roundsS m
  rotate_left
  · rw [decide_eq_false hcr]
    have NO := Lib.hid (show mkOk nm m l kb ks t = false by rw [HQ.out, HRO.out, decide_eq_true HND.out, decide_eq_false hcr]; rfl)
    have r0 := K2.cell 0; have r1 := K2.cell 1
    simp only [List.getElem?_cons_zero, List.getElem?_cons_succ] at r0 r1
    have f0 := K2.frozen 0
    have f1 := K2.frozen 1
    clear hcr
    go_wp2
    clear r0 r1
    have Z := (K2.set_ 0 (.slice none 0 0)).set_ 1 (.slice none 0 0)
    have y0 := Z.cell 0; have y1 := Z.cell 1
    simp only [List.set_cons_zero, List.set_cons_succ, List.getElem?_cons_zero, List.getElem?_cons_succ] at y0 y1
    (try simp only [Exit.inBlock, Exit.then])
    refine bodyPost_ret (v := .tuple #[.agg #[.slice none 0 0, .slice none 0 0], .bool false]) (by simp [results, Tryz.results9, go_sem, y0, y1]; try rfl) rfl ?_
    rw [(mk_f NO.out).1, (mk_f NO.out).2, NO.out]
    exact ⟨none, 0, none, 0, rfl, Owned.nil strE_len _ _ _, Owned.nil lineE_len _ _ _, by (repeat' (first | (with_reducible exact Below.refl _ _) | (with_reducible assumption) | (with_reducible refine below_drewN ?_ _) | (with_reducible refine Below.drew ?_) | (with_reducible refine below_alloc ?_ _) | (with_reducible refine Below.alloc ?_ ?_ _) | (with_reducible refine Below.setCell ?_ ?_ _) | (with_reducible refine below_go ?_ (by with_reducible assumption)) | (with_reducible refine below_then (by with_reducible assumption) ?_ ?_) | go_size))⟩
  rw [decide_eq_true hcr]
  have OK := Lib.hid (show mkOk nm m l kb ks t = true by rw [HQ.out, HRO.out, decide_eq_true HND.out, decide_eq_true hcr]; rfl)
  have k0 := K0.cell 0; have k1 := K0.cell 1; have k2 := K0.cell 2; have q0 := K1.cell 0; have q1 := K1.cell 1
  simp only [List.getElem?_cons_zero, List.getElem?_cons_succ] at k0 k1 k2 q0 q1
  clear hcr
  go_wp2_with fail
  refine (impl_heads HN.out (HSTR.out.up B3) hk hgt).mono ?_; rintro e w4 ⟨AH, cH, rfl, oH, hb4⟩
  have b5 : Below w4.heap.size w4 (w4.alloc (.cells #[.slice AH (t.size + 1) cH, .slice none 0 0] 31)) := by (repeat' (first | (with_reducible exact Below.refl _ _) | (with_reducible assumption) | (with_reducible refine below_drewN ?_ _) | (with_reducible refine Below.drew ?_) | (with_reducible refine below_alloc ?_ _) | (with_reducible refine Below.alloc ?_ ?_ _) | (with_reducible refine Below.setCell ?_ ?_ _) | (with_reducible refine below_go ?_ (by with_reducible assumption)) | (with_reducible refine below_then (by with_reducible assumption) ?_ ?_) | go_size))
  have K10 := Blk.at_ w4 31 [.slice AH (t.size + 1) cH, .slice none 0 0] (b := w4.heap.size) rfl
  go_upto_region 5 with fail
  obtain ⟨p8, hp8⟩ : ∃ p, p = w4.heap.size := ⟨_, rfl⟩
  obtain ⟨w5, hw5⟩ : ∃ u, u = w4.alloc (.cells #[.slice AH (t.size + 1) cH, .slice none 0 0] 31) := ⟨_, rfl⟩
  rw [← hw5] at b5 K10
  rw [← hw5, ← hp8]
  rw [← hp8] at K10
  have b35 := hb4.trans (b5.mono hb4.size)
  have B5 := below_go B3 b35
  have hp82 : w.heap.size + 1 + 1 ≠ p8 := by have h1 := (K2.up hb4).lt; omega
  have hp8w : w.heap.size ≤ p8 := by have h1 := (K2.up hb4).lt; omega
  have HK0 := Lib.hid (K0.up b35)
  have HK2 := Lib.hid (K2.up b35)
  have HK10 := Lib.hid K10
  have H8 := Lib.hid (H8.out.up b35)
  have hs3 : w.heap.size ≤ w3.heap.size := B3.size
  have HH := Lib.hid ((oH.up b5).base_le hs3)
  clear hw5 hp8 b5 b35 hb4 oH K10 K0 K1 K2 k0 k1 k2 q0 q1 B3 B2 B1
  have HL0 : Hid (LP w w5 w0.heap.size w.heap.size (w.heap.size + 1 + 1) p8 [.string nm, .int .i64 (m : Int), .slice A n c] [.slice none 0 0, .slice none 0 0] (.slice AH (t.size + 1) cH) (.slice none 0 0) AH (t.size + 1) cH (hdsL m l kb ks t (t.size + 1)) A8 (t.size * n) c8 (tRows m l kb ks t t.size) none 0 0 []) := Lib.hid
    { low := B5, k0 := HK0.out, k2 := HK2.out, k8 := HK10.out, hd := HH.out, rw := H8.out, ol := Owned.nil lineE_len _ _ _ }
  have hN8 := H800.out
  clear HK0 HK2 HK10 HH H8 B5 hs3 hs h800
  go_wp2
  go_loopw [11, 12, 42] (fun _ _ vj wq => ∃ (j : Nat) (AL : Option Addr) (cL : Nat), vj = .int .i64 j ∧ j ≤ t.size * n ∧ Hid (LP w wq w0.heap.size w.heap.size (w.heap.size + 1 + 1) p8 [.string nm, .int .i64 (m : Int), .slice A n c] [.slice none 0 0, .slice none 0 0] (.slice AH (t.size + 1) cH) (.slice AL j cL) AH (t.size + 1) cH (hdsL m l kb ks t (t.size + 1)) A8 (t.size * n) c8 (tRows m l kb ks t t.size) AL j cL (((tRows m l kb ks t t.size).take j).map (gLn n (tRows m l kb ks t t.size))))) (fun _ _ vj _ => t.size * n - (intOf vj).toNat)
  case atStart => exact ⟨0, none, 0, rfl, Nat.zero_le _, HL0⟩
  case round =>
    clear HL0
    obtain ⟨j, AL, cL, rfl, hjn, HL⟩ := hrel
    rename World => wq
    by_cases hjlt : j < t.size * n
    · have hJ : (j : Int) < ((t.size * n : Nat) : Int) := by omega
      obtain ⟨r, hr⟩ := some_of_lt (l := tRows m l kb ks t t.size) (k := j) (by rw [HL.out.rw.len]; exact hjlt)
      obtain ⟨g8, hA8, _, hg8, fc, _⟩ := HL.out.rw.at_ (by omega)
      subst hA8
      have hc := fc j r 0 _ hr rfl
      simp only [Nat.mul_one, Nat.add_zero] at hc
      have HRR := Lib.hid hr
      obtain ⟨x1, hx1⟩ : ∃ x, x = j / n := ⟨_, rfl⟩
      obtain ⟨x2, hx2⟩ : ∃ x, x = j % n := ⟨_, rfl⟩
      have HG2 : Hid (gLn n (tRows m l kb ks t t.size) r = (r, (x1 : Int), (x2 : Int))) := Lib.hid (by rw [gLn_at HND.out hr, hx1, hx2])
      have d1 : (j : Int) / (n : Int) = (x1 : Int) := by rw [hx1]; rfl
      have d2 : (j : Int) % (n : Int) = (x2 : Int) := by rw [hx2]; rfl
      have hx1n : x1 ≤ 800 := by rw [hx1]; exact Nat.le_trans (Nat.div_le_self _ _) (by omega)
      have hx2n : x2 ≤ 800 := by rw [hx2]; exact Nat.le_trans (Nat.mod_le _ _) (by omega)
      have d3 : (j : Int).tdiv (n : Int) = (x1 : Int) := by rw [Int.tdiv_eq_ediv_of_nonneg (by omega)]; exact d1
      have d4 : (j : Int).tmod (n : Int) = (x2 : Int) := by rw [Int.tmod_eq_emod_of_nonneg (by omega)]; exact d2
      have d5 : IntKind.i64.wrap (x1 : Int) = (x1 : Int) := wrap_id (by omega)
      have d6 : IntKind.i64.wrap (x2 : Int) = (x2 : Int) := wrap_id (by omega)
      have hnI : ¬ n = 0 := by omega
      have hnI2 : ¬ (n : Int) = 0 := by omega
      have e0 := HL.out.k8.cell 0; have e1 := HL.out.k8.cell 1; have c2 := HL.out.k0.cell 2
      simp only [List.getElem?_cons_zero, List.getElem?_cons_succ] at e0 e1 c2
      clear fc hr hx1 hx2
      go_wp2
      obtain ⟨wv, hwv⟩ : ∃ u, u = wq := ⟨_, rfl⟩
      rw [← hwv] at e0 e1 c2 hc HL hg8 ⊢
      clear hwv
      have HLd := Lib.hid (HL.out.up ((Below.refl _ _).alloc (Nat.le_refl _) (.cells #[.string r, .int .i64 (x1 : Int), .int .i64 (x2 : Int)] 55)))
      have HLa := Lib.hid (HLd.out.up (below_drewN (Below.refl _ _) 1))
      have z1 := HLd.out.k8.cell 1
      simp only [List.getElem?_cons_zero, List.getElem?_cons_succ] at z1
      refine wp_region_any (by kernel_rfl) ?_
      (try (change wpAny _ _ _ _ _ _ _ (World.drew _)))
      refine wpAny_take (i := 0) (oi := { dst := some 47, op := _, type := _, pos := _, after := _, guard := _ }) (v := ?_) rfl (by kernel_rfl) (by kernel_rfl) (by kernel_rfl) (fun _ _ _ h => h) (Or.inl ⟨by rfl, ?_⟩) ?_
      rotate_left
      · (intro w; go_simp) <;> with_reducible rfl
      (try simp only [Act.put, List.setIfInBounds_toArray, List.set_cons_zero, List.set_cons_succ])
      refine wpAny_take (i := 2) (oi := { dst := some 49, op := _, type := _, pos := _, after := _, guard := _ }) (v := ?_) rfl (by kernel_rfl) (by kernel_rfl) (by kernel_rfl) (fun _ _ _ h => h) (Or.inl ⟨by rfl, ?_⟩) ?_
      rotate_left
      · (intro w; go_simp) <;> with_reducible rfl
      (try simp only [Act.put, List.setIfInBounds_toArray, List.set_cons_zero, List.set_cons_succ])
      refine wpAny_take (i := 3) (oi := { dst := some 50, op := _, type := _, pos := _, after := _, guard := _ }) (v := ?_) rfl (by kernel_rfl) (by kernel_rfl) (by kernel_rfl) (fun _ _ _ h => h) (Or.inl ⟨by rfl, ?_⟩) ?_
      rotate_left
      · (intro w; go_simp) <;> with_reducible rfl
      (try simp only [Act.put, List.setIfInBounds_toArray, List.set_cons_zero, List.set_cons_succ])
      refine wpAny_take (i := 4) (oi := { dst := some 51, op := _, type := _, pos := _, after := _, guard := _ }) (v := ?_) rfl (by kernel_rfl) (by kernel_rfl) (by kernel_rfl) (fun _ _ _ h => h) (Or.inl ⟨by rfl, ?_⟩) ?_
      rotate_left
      · (intro w; go_simp) <;> with_reducible rfl
      (try simp only [Act.put, List.setIfInBounds_toArray, List.set_cons_zero, List.set_cons_succ])
      refine wpAny_take (i := 8) (oi := { dst := some 55, op := _, type := _, pos := _, after := _, guard := _ }) (v := ?_) rfl (by kernel_rfl) (by kernel_rfl) (by kernel_rfl) (fun _ _ _ h => h) (Or.inl ⟨by rfl, ?_⟩) ?_
      rotate_left
      · (intro w; go_simp) <;> with_reducible rfl
      (try simp only [Act.put, List.setIfInBounds_toArray, List.set_cons_zero, List.set_cons_succ])
      refine wpAny_take (i := 9) (oi := { dst := some 56, op := _, type := _, pos := _, after := _, guard := _ }) (v := ?_) rfl (by kernel_rfl) (by kernel_rfl) (by kernel_rfl) (fun _ _ _ h => h) (Or.inl ⟨by rfl, ?_⟩) ?_
      rotate_left
      · (intro w; go_simp) <;> with_reducible rfl
      (try simp only [Act.put, List.setIfInBounds_toArray, List.set_cons_zero, List.set_cons_succ])
      refine wpAny_ready (rs := [1, 5, 10]) (by kernel_rfl) (by simp) ?_
      refine AllReady.cons (o := _) rfl (fun K hK => ?_) (AllReady.cons (o := _) rfl (fun K hK => ?_) (AllReady.cons (o := _) rfl (fun K hK => ?_) (AllReady.nil)))
      · skip
        go_simp
        (try (refine hK _ _ ?_; clear hK K))
        (try simp only [Act.put, List.setIfInBounds_toArray, List.set_cons_zero, List.set_cons_succ])
        refine wpAny_ready (rs := [5, 10]) (by kernel_rfl) (by simp) ?_
        refine AllReady.cons (o := _) rfl (fun K hK => ?_) (AllReady.cons (o := _) rfl (fun K hK => ?_) (AllReady.nil))
        · skip
          go_simp
          (try (refine hK _ _ ?_; clear hK K))
          (try simp only [Act.put, List.setIfInBounds_toArray, List.set_cons_zero, List.set_cons_succ])
          refine wpAny_take (i := 6) (oi := { dst := some 53, op := _, type := _, pos := _, after := _, guard := _ }) (v := ?_) rfl (by kernel_rfl) (by kernel_rfl) (by kernel_rfl) (fun _ _ _ h => h) (Or.inl ⟨by rfl, ?_⟩) ?_
          rotate_left
          · (intro w; go_simp) <;> with_reducible rfl
          (try simp only [Act.put, List.setIfInBounds_toArray, List.set_cons_zero, List.set_cons_succ])
          refine wpAny_take (i := 7) (oi := { dst := some 54, op := _, type := _, pos := _, after := _, guard := _ }) (v := ?_) rfl (by kernel_rfl) (by kernel_rfl) (by kernel_rfl) (fun _ _ _ h => h) (Or.inl ⟨by rfl, ?_⟩) ?_
          rotate_left
          · (intro w; go_simp) <;> with_reducible rfl
          (try simp only [Act.put, List.setIfInBounds_toArray, List.set_cons_zero, List.set_cons_succ])
          refine wpAny_ready (rs := [10]) (by kernel_rfl) (by simp) ?_
          refine AllReady.cons (o := _) rfl (fun K hK => ?_) (AllReady.nil)
          go_simp
          (try (refine hK _ _ ?_; clear hK K))
          (try simp only [Act.put, List.setIfInBounds_toArray, List.set_cons_zero, List.set_cons_succ])
          refine wpAny_take (i := 11) (oi := { dst := some 58, op := _, type := _, pos := _, after := _, guard := _ }) (v := ?_) rfl (by kernel_rfl) (by kernel_rfl) (by kernel_rfl) (fun _ _ _ h => h) (Or.inl ⟨by rfl, ?_⟩) ?_
          rotate_left
          · (intro w; go_simp) <;> with_reducible rfl
          (try simp only [Act.put, List.setIfInBounds_toArray, List.set_cons_zero, List.set_cons_succ])
          refine wpAny_take (i := 12) (oi := { dst := some 59, op := _, type := _, pos := _, after := _, guard := _ }) (v := ?_) rfl (by kernel_rfl) (by kernel_rfl) (by kernel_rfl) (fun _ _ _ h => h) (Or.inl ⟨by rfl, ?_⟩) ?_
          rotate_left
          · (intro w; go_simp) <;> with_reducible rfl
          (try simp only [Act.put, List.setIfInBounds_toArray, List.set_cons_zero, List.set_cons_succ])
          refine wpAny_take (i := 13) (oi := { dst := some 60, op := _, type := _, pos := _, after := _, guard := _ }) (v := ?_) rfl (by kernel_rfl) (by kernel_rfl) (by kernel_rfl) (fun _ _ _ h => h) (Or.inl ⟨by rfl, ?_⟩) ?_
          rotate_left
          · (intro w; go_simp) <;> with_reducible rfl
          (try simp only [Act.put, List.setIfInBounds_toArray, List.set_cons_zero, List.set_cons_succ])
          refine wpAny_ready (rs := [14]) (by kernel_rfl) (by simp) ?_
          refine AllReady.cons (o := _) rfl (fun K hK => ?_) (AllReady.nil)
          go_simp
          (try (refine hK _ _ ?_; clear hK K))
          (try simp only [Act.put, List.setIfInBounds_toArray, List.set_cons_zero, List.set_cons_succ])
          refine wpAny_ready (rs := [15]) (by kernel_rfl) (by simp) ?_
          refine AllReady.cons (o := _) rfl (fun K hK => ?_) (AllReady.nil)
          refine step_append_rec Tryz.elLine (by rfl) _ _ (by rfl) (by rfl) HLa.out.ol (r, (x1 : Int), (x2 : Int)) (by rfl) (Box.at_ _ [.string r, .int .i64 (x1 : Int), .int .i64 (x2 : Int)] _ (by rfl)) (lineUp _) (by omega) (by decide) (by have h1 := HL.out.low.size; simp; omega) ?_
          intro A3 c3 w9 ho9 hg9 hb9
          have HL9 := Lib.hid (HLa.out.app ho9 hg9)
          have e5 := HL9.out.k8.cell 1; have f5 := HL9.out.k8.frozen 1
          simp only [List.getElem?_cons_zero, List.getElem?_cons_succ] at e5
          (try (refine hK _ _ ?_; clear hK K))
          (try simp only [Act.put, List.setIfInBounds_toArray, List.set_cons_zero, List.set_cons_succ])
          refine wpAny_take (i := 16) (oi := { dst := some 63, op := _, type := _, pos := _, after := _, guard := _ }) (v := ?_) rfl (by kernel_rfl) (by kernel_rfl) (by kernel_rfl) (fun _ _ _ h => h) (Or.inl ⟨by rfl, ?_⟩) ?_
          rotate_left
          · (intro w; go_simp) <;> with_reducible rfl
          (try simp only [Act.put, List.setIfInBounds_toArray, List.set_cons_zero, List.set_cons_succ])
          refine wpAny_ready (rs := [17]) (by kernel_rfl) (by simp) ?_
          refine AllReady.cons (o := _) rfl (fun K hK => ?_) (AllReady.nil)
          go_simp
          (try (refine hK _ _ ?_; clear hK K))
          (try simp only [Act.put, List.setIfInBounds_toArray, List.set_cons_zero, List.set_cons_succ])
          refine wpAny_done (by kernel_rfl) ?_ _
          (try simp only [Act.put, List.setIfInBounds_toArray, List.set_cons_zero, List.set_cons_succ])
          clear e0 e1 c2 z1 e5 f5 HLa HLd
          have HLF := Lib.hid (HL9.out.set8 (v := .slice A3 (j + 1) c3) hp8w hp82)
          clear HL9
          go_wp2
          go_roundw
          case rel => exact ⟨j + 1, A3, c3, by go_num, by omega, by rw [← HG2.out] at HLF; rw [List.take_add_one, HRR.out]; simpa using HLF⟩
          case measure => simp [intOf]; omega
        · skip
          go_simp
          (try (refine hK _ _ ?_; clear hK K))
          (try simp only [Act.put, List.setIfInBounds_toArray, List.set_cons_zero, List.set_cons_succ])
          refine wpAny_take (i := 11) (oi := { dst := some 58, op := _, type := _, pos := _, after := _, guard := _ }) (v := ?_) rfl (by kernel_rfl) (by kernel_rfl) (by kernel_rfl) (fun _ _ _ h => h) (Or.inl ⟨by rfl, ?_⟩) ?_
          rotate_left
          · (intro w; go_simp) <;> with_reducible rfl
          (try simp only [Act.put, List.setIfInBounds_toArray, List.set_cons_zero, List.set_cons_succ])
          refine wpAny_take (i := 12) (oi := { dst := some 59, op := _, type := _, pos := _, after := _, guard := _ }) (v := ?_) rfl (by kernel_rfl) (by kernel_rfl) (by kernel_rfl) (fun _ _ _ h => h) (Or.inl ⟨by rfl, ?_⟩) ?_
          rotate_left
          · (intro w; go_simp) <;> with_reducible rfl
          (try simp only [Act.put, List.setIfInBounds_toArray, List.set_cons_zero, List.set_cons_succ])
          refine wpAny_ready (rs := [5]) (by kernel_rfl) (by simp) ?_
          refine AllReady.cons (o := _) rfl (fun K hK => ?_) (AllReady.nil)
          go_simp
          (try (refine hK _ _ ?_; clear hK K))
          (try simp only [Act.put, List.setIfInBounds_toArray, List.set_cons_zero, List.set_cons_succ])
          refine wpAny_take (i := 6) (oi := { dst := some 53, op := _, type := _, pos := _, after := _, guard := _ }) (v := ?_) rfl (by kernel_rfl) (by kernel_rfl) (by kernel_rfl) (fun _ _ _ h => h) (Or.inl ⟨by rfl, ?_⟩) ?_
          rotate_left
          · (intro w; go_simp) <;> with_reducible rfl
          (try simp only [Act.put, List.setIfInBounds_toArray, List.set_cons_zero, List.set_cons_succ])
          refine wpAny_take (i := 7) (oi := { dst := some 54, op := _, type := _, pos := _, after := _, guard := _ }) (v := ?_) rfl (by kernel_rfl) (by kernel_rfl) (by kernel_rfl) (fun _ _ _ h => h) (Or.inl ⟨by rfl, ?_⟩) ?_
          rotate_left
          · (intro w; go_simp) <;> with_reducible rfl
          (try simp only [Act.put, List.setIfInBounds_toArray, List.set_cons_zero, List.set_cons_succ])
          refine wpAny_take (i := 13) (oi := { dst := some 60, op := _, type := _, pos := _, after := _, guard := _ }) (v := ?_) rfl (by kernel_rfl) (by kernel_rfl) (by kernel_rfl) (fun _ _ _ h => h) (Or.inl ⟨by rfl, ?_⟩) ?_
          rotate_left
          · (intro w; go_simp) <;> with_reducible rfl
          (try simp only [Act.put, List.setIfInBounds_toArray, List.set_cons_zero, List.set_cons_succ])
          refine wpAny_ready (rs := [14]) (by kernel_rfl) (by simp) ?_
          refine AllReady.cons (o := _) rfl (fun K hK => ?_) (AllReady.nil)
          go_simp
          (try (refine hK _ _ ?_; clear hK K))
          (try simp only [Act.put, List.setIfInBounds_toArray, List.set_cons_zero, List.set_cons_succ])
          refine wpAny_ready (rs := [15]) (by kernel_rfl) (by simp) ?_
          refine AllReady.cons (o := _) rfl (fun K hK => ?_) (AllReady.nil)
          refine step_append_rec Tryz.elLine (by rfl) _ _ (by rfl) (by rfl) HLa.out.ol (r, (x1 : Int), (x2 : Int)) (by rfl) (Box.at_ _ [.string r, .int .i64 (x1 : Int), .int .i64 (x2 : Int)] _ (by rfl)) (lineUp _) (by omega) (by decide) (by have h1 := HL.out.low.size; simp; omega) ?_
          intro A3 c3 w9 ho9 hg9 hb9
          have HL9 := Lib.hid (HLa.out.app ho9 hg9)
          have e5 := HL9.out.k8.cell 1; have f5 := HL9.out.k8.frozen 1
          simp only [List.getElem?_cons_zero, List.getElem?_cons_succ] at e5
          (try (refine hK _ _ ?_; clear hK K))
          (try simp only [Act.put, List.setIfInBounds_toArray, List.set_cons_zero, List.set_cons_succ])
          refine wpAny_take (i := 16) (oi := { dst := some 63, op := _, type := _, pos := _, after := _, guard := _ }) (v := ?_) rfl (by kernel_rfl) (by kernel_rfl) (by kernel_rfl) (fun _ _ _ h => h) (Or.inl ⟨by rfl, ?_⟩) ?_
          rotate_left
          · (intro w; go_simp) <;> with_reducible rfl
          (try simp only [Act.put, List.setIfInBounds_toArray, List.set_cons_zero, List.set_cons_succ])
          refine wpAny_ready (rs := [17]) (by kernel_rfl) (by simp) ?_
          refine AllReady.cons (o := _) rfl (fun K hK => ?_) (AllReady.nil)
          go_simp
          (try (refine hK _ _ ?_; clear hK K))
          (try simp only [Act.put, List.setIfInBounds_toArray, List.set_cons_zero, List.set_cons_succ])
          refine wpAny_done (by kernel_rfl) ?_ _
          (try simp only [Act.put, List.setIfInBounds_toArray, List.set_cons_zero, List.set_cons_succ])
          clear e0 e1 c2 z1 e5 f5 HLa HLd
          have HLF := Lib.hid (HL9.out.set8 (v := .slice A3 (j + 1) c3) hp8w hp82)
          clear HL9
          go_wp2
          go_roundw
          case rel => exact ⟨j + 1, A3, c3, by go_num, by omega, by rw [← HG2.out] at HLF; rw [List.take_add_one, HRR.out]; simpa using HLF⟩
          case measure => simp [intOf]; omega
      · skip
        go_simp
        (try (refine hK _ _ ?_; clear hK K))
        (try simp only [Act.put, List.setIfInBounds_toArray, List.set_cons_zero, List.set_cons_succ])
        refine wpAny_take (i := 6) (oi := { dst := some 53, op := _, type := _, pos := _, after := _, guard := _ }) (v := ?_) rfl (by kernel_rfl) (by kernel_rfl) (by kernel_rfl) (fun _ _ _ h => h) (Or.inl ⟨by rfl, ?_⟩) ?_
        rotate_left
        · (intro w; go_simp) <;> with_reducible rfl
        (try simp only [Act.put, List.setIfInBounds_toArray, List.set_cons_zero, List.set_cons_succ])
        refine wpAny_take (i := 7) (oi := { dst := some 54, op := _, type := _, pos := _, after := _, guard := _ }) (v := ?_) rfl (by kernel_rfl) (by kernel_rfl) (by kernel_rfl) (fun _ _ _ h => h) (Or.inl ⟨by rfl, ?_⟩) ?_
        rotate_left
        · (intro w; go_simp) <;> with_reducible rfl
        (try simp only [Act.put, List.setIfInBounds_toArray, List.set_cons_zero, List.set_cons_succ])
        refine wpAny_ready (rs := [1, 10]) (by kernel_rfl) (by simp) ?_
        refine AllReady.cons (o := _) rfl (fun K hK => ?_) (AllReady.cons (o := _) rfl (fun K hK => ?_) (AllReady.nil))
        · skip
          go_simp
          (try (refine hK _ _ ?_; clear hK K))
          (try simp only [Act.put, List.setIfInBounds_toArray, List.set_cons_zero, List.set_cons_succ])
          refine wpAny_ready (rs := [10]) (by kernel_rfl) (by simp) ?_
          refine AllReady.cons (o := _) rfl (fun K hK => ?_) (AllReady.nil)
          go_simp
          (try (refine hK _ _ ?_; clear hK K))
          (try simp only [Act.put, List.setIfInBounds_toArray, List.set_cons_zero, List.set_cons_succ])
          refine wpAny_take (i := 11) (oi := { dst := some 58, op := _, type := _, pos := _, after := _, guard := _ }) (v := ?_) rfl (by kernel_rfl) (by kernel_rfl) (by kernel_rfl) (fun _ _ _ h => h) (Or.inl ⟨by rfl, ?_⟩) ?_
          rotate_left
          · (intro w; go_simp) <;> with_reducible rfl
          (try simp only [Act.put, List.setIfInBounds_toArray, List.set_cons_zero, List.set_cons_succ])
          refine wpAny_take (i := 12) (oi := { dst := some 59, op := _, type := _, pos := _, after := _, guard := _ }) (v := ?_) rfl (by kernel_rfl) (by kernel_rfl) (by kernel_rfl) (fun _ _ _ h => h) (Or.inl ⟨by rfl, ?_⟩) ?_
          rotate_left
          · (intro w; go_simp) <;> with_reducible rfl
          (try simp only [Act.put, List.setIfInBounds_toArray, List.set_cons_zero, List.set_cons_succ])
          refine wpAny_take (i := 13) (oi := { dst := some 60, op := _, type := _, pos := _, after := _, guard := _ }) (v := ?_) rfl (by kernel_rfl) (by kernel_rfl) (by kernel_rfl) (fun _ _ _ h => h) (Or.inl ⟨by rfl, ?_⟩) ?_
          rotate_left
          · (intro w; go_simp) <;> with_reducible rfl
          (try simp only [Act.put, List.setIfInBounds_toArray, List.set_cons_zero, List.set_cons_succ])
          refine wpAny_ready (rs := [14]) (by kernel_rfl) (by simp) ?_
          refine AllReady.cons (o := _) rfl (fun K hK => ?_) (AllReady.nil)
          go_simp
          (try (refine hK _ _ ?_; clear hK K))
          (try simp only [Act.put, List.setIfInBounds_toArray, List.set_cons_zero, List.set_cons_succ])
          refine wpAny_ready (rs := [15]) (by kernel_rfl) (by simp) ?_
          refine AllReady.cons (o := _) rfl (fun K hK => ?_) (AllReady.nil)
          refine step_append_rec Tryz.elLine (by rfl) _ _ (by rfl) (by rfl) HLa.out.ol (r, (x1 : Int), (x2 : Int)) (by rfl) (Box.at_ _ [.string r, .int .i64 (x1 : Int), .int .i64 (x2 : Int)] _ (by rfl)) (lineUp _) (by omega) (by decide) (by have h1 := HL.out.low.size; simp; omega) ?_
          intro A3 c3 w9 ho9 hg9 hb9
          have HL9 := Lib.hid (HLa.out.app ho9 hg9)
          have e5 := HL9.out.k8.cell 1; have f5 := HL9.out.k8.frozen 1
          simp only [List.getElem?_cons_zero, List.getElem?_cons_succ] at e5
          (try (refine hK _ _ ?_; clear hK K))
          (try simp only [Act.put, List.setIfInBounds_toArray, List.set_cons_zero, List.set_cons_succ])
          refine wpAny_take (i := 16) (oi := { dst := some 63, op := _, type := _, pos := _, after := _, guard := _ }) (v := ?_) rfl (by kernel_rfl) (by kernel_rfl) (by kernel_rfl) (fun _ _ _ h => h) (Or.inl ⟨by rfl, ?_⟩) ?_
          rotate_left
          · (intro w; go_simp) <;> with_reducible rfl
          (try simp only [Act.put, List.setIfInBounds_toArray, List.set_cons_zero, List.set_cons_succ])
          refine wpAny_ready (rs := [17]) (by kernel_rfl) (by simp) ?_
          refine AllReady.cons (o := _) rfl (fun K hK => ?_) (AllReady.nil)
          go_simp
          (try (refine hK _ _ ?_; clear hK K))
          (try simp only [Act.put, List.setIfInBounds_toArray, List.set_cons_zero, List.set_cons_succ])
          refine wpAny_done (by kernel_rfl) ?_ _
          (try simp only [Act.put, List.setIfInBounds_toArray, List.set_cons_zero, List.set_cons_succ])
          clear e0 e1 c2 z1 e5 f5 HLa HLd
          have HLF := Lib.hid (HL9.out.set8 (v := .slice A3 (j + 1) c3) hp8w hp82)
          clear HL9
          go_wp2
          go_roundw
          case rel => exact ⟨j + 1, A3, c3, by go_num, by omega, by rw [← HG2.out] at HLF; rw [List.take_add_one, HRR.out]; simpa using HLF⟩
          case measure => simp [intOf]; omega
        · skip
          go_simp
          (try (refine hK _ _ ?_; clear hK K))
          (try simp only [Act.put, List.setIfInBounds_toArray, List.set_cons_zero, List.set_cons_succ])
          refine wpAny_take (i := 11) (oi := { dst := some 58, op := _, type := _, pos := _, after := _, guard := _ }) (v := ?_) rfl (by kernel_rfl) (by kernel_rfl) (by kernel_rfl) (fun _ _ _ h => h) (Or.inl ⟨by rfl, ?_⟩) ?_
          rotate_left
          · (intro w; go_simp) <;> with_reducible rfl
          (try simp only [Act.put, List.setIfInBounds_toArray, List.set_cons_zero, List.set_cons_succ])
          refine wpAny_take (i := 12) (oi := { dst := some 59, op := _, type := _, pos := _, after := _, guard := _ }) (v := ?_) rfl (by kernel_rfl) (by kernel_rfl) (by kernel_rfl) (fun _ _ _ h => h) (Or.inl ⟨by rfl, ?_⟩) ?_
          rotate_left
          · (intro w; go_simp) <;> with_reducible rfl
          (try simp only [Act.put, List.setIfInBounds_toArray, List.set_cons_zero, List.set_cons_succ])
          refine wpAny_take (i := 13) (oi := { dst := some 60, op := _, type := _, pos := _, after := _, guard := _ }) (v := ?_) rfl (by kernel_rfl) (by kernel_rfl) (by kernel_rfl) (fun _ _ _ h => h) (Or.inl ⟨by rfl, ?_⟩) ?_
          rotate_left
          · (intro w; go_simp) <;> with_reducible rfl
          (try simp only [Act.put, List.setIfInBounds_toArray, List.set_cons_zero, List.set_cons_succ])
          refine wpAny_ready (rs := [1, 14]) (by kernel_rfl) (by simp) ?_
          refine AllReady.cons (o := _) rfl (fun K hK => ?_) (AllReady.cons (o := _) rfl (fun K hK => ?_) (AllReady.nil))
          · skip
            go_simp
            (try (refine hK _ _ ?_; clear hK K))
            (try simp only [Act.put, List.setIfInBounds_toArray, List.set_cons_zero, List.set_cons_succ])
            refine wpAny_ready (rs := [14]) (by kernel_rfl) (by simp) ?_
            refine AllReady.cons (o := _) rfl (fun K hK => ?_) (AllReady.nil)
            go_simp
            (try (refine hK _ _ ?_; clear hK K))
            (try simp only [Act.put, List.setIfInBounds_toArray, List.set_cons_zero, List.set_cons_succ])
            refine wpAny_ready (rs := [15]) (by kernel_rfl) (by simp) ?_
            refine AllReady.cons (o := _) rfl (fun K hK => ?_) (AllReady.nil)
            refine step_append_rec Tryz.elLine (by rfl) _ _ (by rfl) (by rfl) HLa.out.ol (r, (x1 : Int), (x2 : Int)) (by rfl) (Box.at_ _ [.string r, .int .i64 (x1 : Int), .int .i64 (x2 : Int)] _ (by rfl)) (lineUp _) (by omega) (by decide) (by have h1 := HL.out.low.size; simp; omega) ?_
            intro A3 c3 w9 ho9 hg9 hb9
            have HL9 := Lib.hid (HLa.out.app ho9 hg9)
            have e5 := HL9.out.k8.cell 1; have f5 := HL9.out.k8.frozen 1
            simp only [List.getElem?_cons_zero, List.getElem?_cons_succ] at e5
            (try (refine hK _ _ ?_; clear hK K))
            (try simp only [Act.put, List.setIfInBounds_toArray, List.set_cons_zero, List.set_cons_succ])
            refine wpAny_take (i := 16) (oi := { dst := some 63, op := _, type := _, pos := _, after := _, guard := _ }) (v := ?_) rfl (by kernel_rfl) (by kernel_rfl) (by kernel_rfl) (fun _ _ _ h => h) (Or.inl ⟨by rfl, ?_⟩) ?_
            rotate_left
            · (intro w; go_simp) <;> with_reducible rfl
            (try simp only [Act.put, List.setIfInBounds_toArray, List.set_cons_zero, List.set_cons_succ])
            refine wpAny_ready (rs := [17]) (by kernel_rfl) (by simp) ?_
            refine AllReady.cons (o := _) rfl (fun K hK => ?_) (AllReady.nil)
            go_simp
            (try (refine hK _ _ ?_; clear hK K))
            (try simp only [Act.put, List.setIfInBounds_toArray, List.set_cons_zero, List.set_cons_succ])
            refine wpAny_done (by kernel_rfl) ?_ _
            (try simp only [Act.put, List.setIfInBounds_toArray, List.set_cons_zero, List.set_cons_succ])
            clear e0 e1 c2 z1 e5 f5 HLa HLd
            have HLF := Lib.hid (HL9.out.set8 (v := .slice A3 (j + 1) c3) hp8w hp82)
            clear HL9
            go_wp2
            go_roundw
            case rel => exact ⟨j + 1, A3, c3, by go_num, by omega, by rw [← HG2.out] at HLF; rw [List.take_add_one, HRR.out]; simpa using HLF⟩
            case measure => simp [intOf]; omega
          · skip
            go_simp
            (try (refine hK _ _ ?_; clear hK K))
            (try simp only [Act.put, List.setIfInBounds_toArray, List.set_cons_zero, List.set_cons_succ])
            refine wpAny_ready (rs := [1]) (by kernel_rfl) (by simp) ?_
            refine AllReady.cons (o := _) rfl (fun K hK => ?_) (AllReady.nil)
            go_simp
            (try (refine hK _ _ ?_; clear hK K))
            (try simp only [Act.put, List.setIfInBounds_toArray, List.set_cons_zero, List.set_cons_succ])
            refine wpAny_ready (rs := [15]) (by kernel_rfl) (by simp) ?_
            refine AllReady.cons (o := _) rfl (fun K hK => ?_) (AllReady.nil)
            refine step_append_rec Tryz.elLine (by rfl) _ _ (by rfl) (by rfl) HLa.out.ol (r, (x1 : Int), (x2 : Int)) (by rfl) (Box.at_ _ [.string r, .int .i64 (x1 : Int), .int .i64 (x2 : Int)] _ (by rfl)) (lineUp _) (by omega) (by decide) (by have h1 := HL.out.low.size; simp; omega) ?_
            intro A3 c3 w9 ho9 hg9 hb9
            have HL9 := Lib.hid (HLa.out.app ho9 hg9)
            have e5 := HL9.out.k8.cell 1; have f5 := HL9.out.k8.frozen 1
            simp only [List.getElem?_cons_zero, List.getElem?_cons_succ] at e5
            (try (refine hK _ _ ?_; clear hK K))
            (try simp only [Act.put, List.setIfInBounds_toArray, List.set_cons_zero, List.set_cons_succ])
            refine wpAny_take (i := 16) (oi := { dst := some 63, op := _, type := _, pos := _, after := _, guard := _ }) (v := ?_) rfl (by kernel_rfl) (by kernel_rfl) (by kernel_rfl) (fun _ _ _ h => h) (Or.inl ⟨by rfl, ?_⟩) ?_
            rotate_left
            · (intro w; go_simp) <;> with_reducible rfl
            (try simp only [Act.put, List.setIfInBounds_toArray, List.set_cons_zero, List.set_cons_succ])
            refine wpAny_ready (rs := [17]) (by kernel_rfl) (by simp) ?_
            refine AllReady.cons (o := _) rfl (fun K hK => ?_) (AllReady.nil)
            go_simp
            (try (refine hK _ _ ?_; clear hK K))
            (try simp only [Act.put, List.setIfInBounds_toArray, List.set_cons_zero, List.set_cons_succ])
            refine wpAny_done (by kernel_rfl) ?_ _
            (try simp only [Act.put, List.setIfInBounds_toArray, List.set_cons_zero, List.set_cons_succ])
            clear e0 e1 c2 z1 e5 f5 HLa HLd
            have HLF := Lib.hid (HL9.out.set8 (v := .slice A3 (j + 1) c3) hp8w hp82)
            clear HL9
            go_wp2
            go_roundw
            case rel => exact ⟨j + 1, A3, c3, by go_num, by omega, by rw [← HG2.out] at HLF; rw [List.take_add_one, HRR.out]; simpa using HLF⟩
            case measure => simp [intOf]; omega
      · skip
        go_simp
        (try (refine hK _ _ ?_; clear hK K))
        (try simp only [Act.put, List.setIfInBounds_toArray, List.set_cons_zero, List.set_cons_succ])
        refine wpAny_take (i := 11) (oi := { dst := some 58, op := _, type := _, pos := _, after := _, guard := _ }) (v := ?_) rfl (by kernel_rfl) (by kernel_rfl) (by kernel_rfl) (fun _ _ _ h => h) (Or.inl ⟨by rfl, ?_⟩) ?_
        rotate_left
        · (intro w; go_simp) <;> with_reducible rfl
        (try simp only [Act.put, List.setIfInBounds_toArray, List.set_cons_zero, List.set_cons_succ])
        refine wpAny_take (i := 12) (oi := { dst := some 59, op := _, type := _, pos := _, after := _, guard := _ }) (v := ?_) rfl (by kernel_rfl) (by kernel_rfl) (by kernel_rfl) (fun _ _ _ h => h) (Or.inl ⟨by rfl, ?_⟩) ?_
        rotate_left
        · (intro w; go_simp) <;> with_reducible rfl
        (try simp only [Act.put, List.setIfInBounds_toArray, List.set_cons_zero, List.set_cons_succ])
        refine wpAny_ready (rs := [1, 5]) (by kernel_rfl) (by simp) ?_
        refine AllReady.cons (o := _) rfl (fun K hK => ?_) (AllReady.cons (o := _) rfl (fun K hK => ?_) (AllReady.nil))
        · skip
          go_simp
          (try (refine hK _ _ ?_; clear hK K))
          (try simp only [Act.put, List.setIfInBounds_toArray, List.set_cons_zero, List.set_cons_succ])
          refine wpAny_ready (rs := [5]) (by kernel_rfl) (by simp) ?_
          refine AllReady.cons (o := _) rfl (fun K hK => ?_) (AllReady.nil)
          go_simp
          (try (refine hK _ _ ?_; clear hK K))
          (try simp only [Act.put, List.setIfInBounds_toArray, List.set_cons_zero, List.set_cons_succ])
          refine wpAny_take (i := 6) (oi := { dst := some 53, op := _, type := _, pos := _, after := _, guard := _ }) (v := ?_) rfl (by kernel_rfl) (by kernel_rfl) (by kernel_rfl) (fun _ _ _ h => h) (Or.inl ⟨by rfl, ?_⟩) ?_
          rotate_left
          · (intro w; go_simp) <;> with_reducible rfl
          (try simp only [Act.put, List.setIfInBounds_toArray, List.set_cons_zero, List.set_cons_succ])
          refine wpAny_take (i := 7) (oi := { dst := some 54, op := _, type := _, pos := _, after := _, guard := _ }) (v := ?_) rfl (by kernel_rfl) (by kernel_rfl) (by kernel_rfl) (fun _ _ _ h => h) (Or.inl ⟨by rfl, ?_⟩) ?_
          rotate_left
          · (intro w; go_simp) <;> with_reducible rfl
          (try simp only [Act.put, List.setIfInBounds_toArray, List.set_cons_zero, List.set_cons_succ])
          refine wpAny_take (i := 13) (oi := { dst := some 60, op := _, type := _, pos := _, after := _, guard := _ }) (v := ?_) rfl (by kernel_rfl) (by kernel_rfl) (by kernel_rfl) (fun _ _ _ h => h) (Or.inl ⟨by rfl, ?_⟩) ?_
          rotate_left
          · (intro w; go_simp) <;> with_reducible rfl
          (try simp only [Act.put, List.setIfInBounds_toArray, List.set_cons_zero, List.set_cons_succ])
          refine wpAny_ready (rs := [14]) (by kernel_rfl) (by simp) ?_
          refine AllReady.cons (o := _) rfl (fun K hK => ?_) (AllReady.nil)
          go_simp
          (try (refine hK _ _ ?_; clear hK K))
          (try simp only [Act.put, List.setIfInBounds_toArray, List.set_cons_zero, List.set_cons_succ])
          refine wpAny_ready (rs := [15]) (by kernel_rfl) (by simp) ?_
          refine AllReady.cons (o := _) rfl (fun K hK => ?_) (AllReady.nil)
          refine step_append_rec Tryz.elLine (by rfl) _ _ (by rfl) (by rfl) HLa.out.ol (r, (x1 : Int), (x2 : Int)) (by rfl) (Box.at_ _ [.string r, .int .i64 (x1 : Int), .int .i64 (x2 : Int)] _ (by rfl)) (lineUp _) (by omega) (by decide) (by have h1 := HL.out.low.size; simp; omega) ?_
          intro A3 c3 w9 ho9 hg9 hb9
          have HL9 := Lib.hid (HLa.out.app ho9 hg9)
          have e5 := HL9.out.k8.cell 1; have f5 := HL9.out.k8.frozen 1
          simp only [List.getElem?_cons_zero, List.getElem?_cons_succ] at e5
          (try (refine hK _ _ ?_; clear hK K))
          (try simp only [Act.put, List.setIfInBounds_toArray, List.set_cons_zero, List.set_cons_succ])
          refine wpAny_take (i := 16) (oi := { dst := some 63, op := _, type := _, pos := _, after := _, guard := _ }) (v := ?_) rfl (by kernel_rfl) (by kernel_rfl) (by kernel_rfl) (fun _ _ _ h => h) (Or.inl ⟨by rfl, ?_⟩) ?_
          rotate_left
          · (intro w; go_simp) <;> with_reducible rfl
          (try simp only [Act.put, List.setIfInBounds_toArray, List.set_cons_zero, List.set_cons_succ])
          refine wpAny_ready (rs := [17]) (by kernel_rfl) (by simp) ?_
          refine AllReady.cons (o := _) rfl (fun K hK => ?_) (AllReady.nil)
          go_simp
          (try (refine hK _ _ ?_; clear hK K))
          (try simp only [Act.put, List.setIfInBounds_toArray, List.set_cons_zero, List.set_cons_succ])
          refine wpAny_done (by kernel_rfl) ?_ _
          (try simp only [Act.put, List.setIfInBounds_toArray, List.set_cons_zero, List.set_cons_succ])
          clear e0 e1 c2 z1 e5 f5 HLa HLd
          have HLF := Lib.hid (HL9.out.set8 (v := .slice A3 (j + 1) c3) hp8w hp82)
          clear HL9
          go_wp2
          go_roundw
          case rel => exact ⟨j + 1, A3, c3, by go_num, by omega, by rw [← HG2.out] at HLF; rw [List.take_add_one, HRR.out]; simpa using HLF⟩
          case measure => simp [intOf]; omega
        · skip
          go_simp
          (try (refine hK _ _ ?_; clear hK K))
          (try simp only [Act.put, List.setIfInBounds_toArray, List.set_cons_zero, List.set_cons_succ])
          refine wpAny_take (i := 6) (oi := { dst := some 53, op := _, type := _, pos := _, after := _, guard := _ }) (v := ?_) rfl (by kernel_rfl) (by kernel_rfl) (by kernel_rfl) (fun _ _ _ h => h) (Or.inl ⟨by rfl, ?_⟩) ?_
          rotate_left
          · (intro w; go_simp) <;> with_reducible rfl
          (try simp only [Act.put, List.setIfInBounds_toArray, List.set_cons_zero, List.set_cons_succ])
          refine wpAny_take (i := 7) (oi := { dst := some 54, op := _, type := _, pos := _, after := _, guard := _ }) (v := ?_) rfl (by kernel_rfl) (by kernel_rfl) (by kernel_rfl) (fun _ _ _ h => h) (Or.inl ⟨by rfl, ?_⟩) ?_
          rotate_left
          · (intro w; go_simp) <;> with_reducible rfl
          (try simp only [Act.put, List.setIfInBounds_toArray, List.set_cons_zero, List.set_cons_succ])
          refine wpAny_take (i := 13) (oi := { dst := some 60, op := _, type := _, pos := _, after := _, guard := _ }) (v := ?_) rfl (by kernel_rfl) (by kernel_rfl) (by kernel_rfl) (fun _ _ _ h => h) (Or.inl ⟨by rfl, ?_⟩) ?_
          rotate_left
          · (intro w; go_simp) <;> with_reducible rfl
          (try simp only [Act.put, List.setIfInBounds_toArray, List.set_cons_zero, List.set_cons_succ])
          refine wpAny_ready (rs := [1, 14]) (by kernel_rfl) (by simp) ?_
          refine AllReady.cons (o := _) rfl (fun K hK => ?_) (AllReady.cons (o := _) rfl (fun K hK => ?_) (AllReady.nil))
          · skip
            go_simp
            (try (refine hK _ _ ?_; clear hK K))
            (try simp only [Act.put, List.setIfInBounds_toArray, List.set_cons_zero, List.set_cons_succ])
            refine wpAny_ready (rs := [14]) (by kernel_rfl) (by simp) ?_
            refine AllReady.cons (o := _) rfl (fun K hK => ?_) (AllReady.nil)
            go_simp
            (try (refine hK _ _ ?_; clear hK K))
            (try simp only [Act.put, List.setIfInBounds_toArray, List.set_cons_zero, List.set_cons_succ])
            refine wpAny_ready (rs := [15]) (by kernel_rfl) (by simp) ?_
            refine AllReady.cons (o := _) rfl (fun K hK => ?_) (AllReady.nil)
            refine step_append_rec Tryz.elLine (by rfl) _ _ (by rfl) (by rfl) HLa.out.ol (r, (x1 : Int), (x2 : Int)) (by rfl) (Box.at_ _ [.string r, .int .i64 (x1 : Int), .int .i64 (x2 : Int)] _ (by rfl)) (lineUp _) (by omega) (by decide) (by have h1 := HL.out.low.size; simp; omega) ?_
            intro A3 c3 w9 ho9 hg9 hb9
            have HL9 := Lib.hid (HLa.out.app ho9 hg9)
            have e5 := HL9.out.k8.cell 1; have f5 := HL9.out.k8.frozen 1
            simp only [List.getElem?_cons_zero, List.getElem?_cons_succ] at e5
            (try (refine hK _ _ ?_; clear hK K))
            (try simp only [Act.put, List.setIfInBounds_toArray, List.set_cons_zero, List.set_cons_succ])
            refine wpAny_take (i := 16) (oi := { dst := some 63, op := _, type := _, pos := _, after := _, guard := _ }) (v := ?_) rfl (by kernel_rfl) (by kernel_rfl) (by kernel_rfl) (fun _ _ _ h => h) (Or.inl ⟨by rfl, ?_⟩) ?_
            rotate_left
            · (intro w; go_simp) <;> with_reducible rfl
            (try simp only [Act.put, List.setIfInBounds_toArray, List.set_cons_zero, List.set_cons_succ])
            refine wpAny_ready (rs := [17]) (by kernel_rfl) (by simp) ?_
            refine AllReady.cons (o := _) rfl (fun K hK => ?_) (AllReady.nil)
            go_simp
            (try (refine hK _ _ ?_; clear hK K))
            (try simp only [Act.put, List.setIfInBounds_toArray, List.set_cons_zero, List.set_cons_succ])
            refine wpAny_done (by kernel_rfl) ?_ _
            (try simp only [Act.put, List.setIfInBounds_toArray, List.set_cons_zero, List.set_cons_succ])
            clear e0 e1 c2 z1 e5 f5 HLa HLd
            have HLF := Lib.hid (HL9.out.set8 (v := .slice A3 (j + 1) c3) hp8w hp82)
            clear HL9
            go_wp2
            go_roundw
            case rel => exact ⟨j + 1, A3, c3, by go_num, by omega, by rw [← HG2.out] at HLF; rw [List.take_add_one, HRR.out]; simpa using HLF⟩
            case measure => simp [intOf]; omega
          · skip
            go_simp
            (try (refine hK _ _ ?_; clear hK K))
            (try simp only [Act.put, List.setIfInBounds_toArray, List.set_cons_zero, List.set_cons_succ])
            refine wpAny_ready (rs := [1]) (by kernel_rfl) (by simp) ?_
            refine AllReady.cons (o := _) rfl (fun K hK => ?_) (AllReady.nil)
            go_simp
            (try (refine hK _ _ ?_; clear hK K))
            (try simp only [Act.put, List.setIfInBounds_toArray, List.set_cons_zero, List.set_cons_succ])
            refine wpAny_ready (rs := [15]) (by kernel_rfl) (by simp) ?_
            refine AllReady.cons (o := _) rfl (fun K hK => ?_) (AllReady.nil)
            refine step_append_rec Tryz.elLine (by rfl) _ _ (by rfl) (by rfl) HLa.out.ol (r, (x1 : Int), (x2 : Int)) (by rfl) (Box.at_ _ [.string r, .int .i64 (x1 : Int), .int .i64 (x2 : Int)] _ (by rfl)) (lineUp _) (by omega) (by decide) (by have h1 := HL.out.low.size; simp; omega) ?_
            intro A3 c3 w9 ho9 hg9 hb9
            have HL9 := Lib.hid (HLa.out.app ho9 hg9)
            have e5 := HL9.out.k8.cell 1; have f5 := HL9.out.k8.frozen 1
            simp only [List.getElem?_cons_zero, List.getElem?_cons_succ] at e5
            (try (refine hK _ _ ?_; clear hK K))
            (try simp only [Act.put, List.setIfInBounds_toArray, List.set_cons_zero, List.set_cons_succ])
            refine wpAny_take (i := 16) (oi := { dst := some 63, op := _, type := _, pos := _, after := _, guard := _ }) (v := ?_) rfl (by kernel_rfl) (by kernel_rfl) (by kernel_rfl) (fun _ _ _ h => h) (Or.inl ⟨by rfl, ?_⟩) ?_
            rotate_left
            · (intro w; go_simp) <;> with_reducible rfl
            (try simp only [Act.put, List.setIfInBounds_toArray, List.set_cons_zero, List.set_cons_succ])
            refine wpAny_ready (rs := [17]) (by kernel_rfl) (by simp) ?_
            refine AllReady.cons (o := _) rfl (fun K hK => ?_) (AllReady.nil)
            go_simp
            (try (refine hK _ _ ?_; clear hK K))
            (try simp only [Act.put, List.setIfInBounds_toArray, List.set_cons_zero, List.set_cons_succ])
            refine wpAny_done (by kernel_rfl) ?_ _
            (try simp only [Act.put, List.setIfInBounds_toArray, List.set_cons_zero, List.set_cons_succ])
            clear e0 e1 c2 z1 e5 f5 HLa HLd
            have HLF := Lib.hid (HL9.out.set8 (v := .slice A3 (j + 1) c3) hp8w hp82)
            clear HL9
            go_wp2
            go_roundw
            case rel => exact ⟨j + 1, A3, c3, by go_num, by omega, by rw [← HG2.out] at HLF; rw [List.take_add_one, HRR.out]; simpa using HLF⟩
            case measure => simp [intOf]; omega
    · obtain rfl : j = t.size * n := by omega
      have hRl := HL.out.rw.len
      have HTK : Hid (((tRows m l kb ks t t.size).take (t.size * n)) = tRows m l kb ks t t.size) := Lib.hid (List.take_of_length_le (by omega))
      rw [HTK.out] at HL
      have hpos : 0 < t.size * n := Nat.mul_pos (by omega) (by omega)
      obtain ⟨gL, hAL, _, hgL, _, _⟩ := HL.out.ol.at_ hpos
      subst hAL
      have e1 := HL.out.k8.cell 1
      simp only [List.getElem?_cons_zero, List.getElem?_cons_succ] at e1
      clear hRl
      go_wp2_with fail
      refine (sort_lines HL.out.ol (by omega)).mono ?_; rintro e w6 ⟨rfl, L, oL, hperm, hsrt, hg6⟩
      obtain rfl := mpL_of hperm hsrt
      have HL6 := Lib.hid (HL.out.app oL hg6)
      clear e1
      have e0 := HL6.out.k8.cell 0; have e1 := HL6.out.k8.cell 1
      have r0 := HL6.out.k2.cell 0; have r1 := HL6.out.k2.cell 1
      simp only [List.getElem?_cons_zero, List.getElem?_cons_succ] at e0 e1 r0 r1
      have f0 := HL6.out.k2.frozen 0
      have f1 := HL6.out.k2.frozen 1
      clear hperm hsrt oL hg6 HL
      go_wp2
      clear r0 r1 e0 e1
      have Z := (HL6.out.k2.set_ 0 (.slice AH (t.size + 1) cH)).set_ 1 (.slice (some ⟨gL, 0, none⟩) (t.size * n) cL)
      have y0 := Z.cell 0; have y1 := Z.cell 1
      simp only [List.set_cons_zero, List.set_cons_succ, List.getElem?_cons_zero, List.getElem?_cons_succ] at y0 y1
      (try simp only [Exit.inBlock, Exit.then])
      refine bodyPost_ret (v := .tuple #[.agg #[.slice AH (t.size + 1) cH, .slice (some ⟨gL, 0, none⟩) (t.size * n) cL], .bool true]) (by simp [results, Tryz.results9, go_sem, y0, y1]; try rfl) rfl ?_
      have HEO := mk_t OK.out
      rw [Int.toNat_natCast] at HEO
      rw [HEO.1, HEO.2, OK.out, hdsL_len, mpL_len, tRows_len, HN.out]
      refine ⟨AH, cH, some ⟨gL, 0, none⟩, cL, rfl, ?_, ?_, ?_⟩
      · exact (HL6.out.hd.kept (only_set (p := ⟨w.heap.size + 1 + 1, 0, none⟩) _ _) (fun q hq e => blkNe HL6.out.hd HL6.out.k2 (by decide) (e.trans hq.symm))).kept (only_set (p := ⟨w.heap.size + 1 + 1, 1, none⟩) _ _) (fun q hq e => blkNe HL6.out.hd HL6.out.k2 (by decide) (e.trans hq.symm))
      · exact (HL6.out.ol.kept (only_set (p := ⟨w.heap.size + 1 + 1, 0, none⟩) _ _) (fun q hq e => blkNe HL6.out.ol HL6.out.k2 (by decide) (e.trans hq.symm))).kept (only_set (p := ⟨w.heap.size + 1 + 1, 1, none⟩) _ _) (fun q hq e => blkNe HL6.out.ol HL6.out.k2 (by decide) (e.trans hq.symm))
      · have hlow := HL6.out.low
        (repeat' (first | (with_reducible exact Below.refl _ _) | (with_reducible assumption) | (with_reducible refine below_drewN ?_ _) | (with_reducible refine Below.drew ?_) | (with_reducible refine below_alloc ?_ _) | (with_reducible refine Below.alloc ?_ ?_ _) | (with_reducible refine Below.setCell ?_ ?_ _) | (with_reducible refine below_go ?_ (by with_reducible assumption)) | (with_reducible refine below_then (by with_reducible assumption) ?_ ?_) | go_size))
end Go.Proofs.YtoheahbkopbmhaaGreat
/- The walk through FnExactMakeProof: both sides give the same, the arguments are left alone. -/
namespace Go.Proofs.YtoheahbkopbmhaaGreat
set_option linter.unusedVariables false
set_option linter.unusedSimpArgs false
open Go.ChangeShapes Go.WideShapes Go.ChangeAt Go.RowKit Go.Deep
theorem blkDrew {w : World} {g : Nat} {t : TypeId} {cs : List Value} (h : Blk w g t cs) : Blk w.drew g t cs := h
set_option maxHeartbeats 4000000 in
set_option maxRecDepth 100000 in
theorem law_MakeProof (nm : ByteArray) (st : Int) (A : Option Addr) (c : Nat) (l : List ByteArray) (kb ks : ByteArray) (t : ByteArray) (w : World) (hnm : nm.size ≤ maxLen) (hst : -9223372036854775808 ≤ st ∧ st ≤ 9223372036854775807) (h : Recs strE 1 w A l) (hm : l.length ≤ 9223372036854775807) (hb : ∀ x ∈ l, x.size ≤ maxLen) (hkb : kb.size ≤ maxLen) (hks : ks.size ≤ maxLen) (ht : t.size ≤ maxLen) :
    Calls Tryz.prog 3 #[.agg #[.string nm, .int .i64 st, .slice A l.length c], .agg #[.string kb, .string ks], .string t] w fun e w' => e = .returned (.bool true) ∧ Below w.heap.size w w' := by
  obtain ⟨Z0, hZ0⟩ : ∃ z, z = szM nm l := ⟨_, rfl⟩
  obtain ⟨Z1, hZ1⟩ : ∃ z, z = szK kb ks := ⟨_, rfl⟩
  have y0 : (nm.size : Int) + szS l = Z0 := hZ0.symm
  have y1 : (kb.size : Int) + (ks.size : Int) = Z1 := hZ1.symm
  have y2 := szS_len l
  by_cases zt : (t.size : Int) ≤ 1048576
  · by_cases z0 : Z0 ≤ 1048576
    · by_cases z1 : Z1 ≤ 1048576 - Z0
      · have hs1 : ∀ s ∈ l, s.size ≤ 16777216 := fun s hs => by (have := szS_each l s hs; omega)
        have hnm1 : nm.size ≤ 16777216 := by omega
        have hkb1 : kb.size ≤ 16777216 := by omega
        have hks1 : ks.size ≤ 16777216 := by omega
        have hI : I64 st := by unfold I64; omega
        have hl1 : l.length ≤ 1048576 := by omega
        have ht1 : t.size ≤ 16777216 := by omega
        have HZ0 : Hid (leftV 1048576 (szM nm l) = 1048576 - Z0) := Lib.hid (by rw [← hZ0]; exact leftV_t z0)
        have HZ1 : Hid (leftV (1048576 - Z0) (szK kb ks) = 1048576 - Z0 - Z1) := Lib.hid (by rw [← hZ1]; exact leftV_t z1)
        have m0 : (0 : Int) ≤ 1048576 - Z0 := by omega
        have m1 : (0 : Int) ≤ 1048576 - Z0 - Z1 := by omega
        have p0 : 0 ≤ Z0 := by omega
        have p1 : 0 ≤ Z1 := by omega
        clear hZ0 hZ1 y0 y1
        have b0 : Below w.heap.size w ((w.alloc (.cells ⟨[.string nm, .int .i64 st, .slice A l.length c]⟩ 24)).alloc (.cells ⟨[.string kb, .string ks]⟩ 26)) := by (repeat' (first | (with_reducible exact Below.refl _ _) | (with_reducible assumption) | (with_reducible refine below_drewN ?_ _) | (with_reducible refine Below.drew ?_) | (with_reducible refine below_alloc ?_ _) | (with_reducible refine Below.alloc ?_ ?_ _) | (with_reducible refine Below.setCell ?_ ?_ _) | (with_reducible refine below_go ?_ (by with_reducible assumption)) | (with_reducible refine below_then (by with_reducible assumption) ?_ ?_) | go_size))
        have K0 := ((Blk.at_ w 24 [.string nm, .int .i64 st, .slice A l.length c] (b := w.heap.size) (by simp)).alloc (.cells ⟨[.string kb, .string ks]⟩ 26))
        have K1 := (Blk.at_ (w.alloc (.cells ⟨[.string nm, .int .i64 st, .slice A l.length c]⟩ 24)) 26 [.string kb, .string ks] (b := w.heap.size + 1) (by simp))
        go_in
        go_wp2_with fail
        obtain ⟨w0, hw0⟩ : ∃ u, u = ((w.alloc (.cells #[.string nm, .int .i64 st, .slice A l.length c] 24)).alloc (.cells #[.string kb, .string ks] 26)) := ⟨_, rfl⟩
        rw [← hw0] at b0 K0 K1 ⊢
        have z0 : w.heap.size + 2 ≤ w0.heap.size := by rw [hw0]; simp
        clear hw0
        have carry : Hid (∀ u : World, Below w0.heap.size w0 u → (u.cell? ⟨w.heap.size, 0, none⟩ = some (.string nm) ∧ u.cell? ⟨w.heap.size, 1, none⟩ = some (.int .i64 st) ∧ u.cell? ⟨w.heap.size, 2, none⟩ = some (.slice A l.length c)) ∧ (u.cell? ⟨w.heap.size + 1, 0, none⟩ = some (.string kb) ∧ u.cell? ⟨w.heap.size + 1, 1, none⟩ = some (.string ks))) := Lib.hid (fun u hu => by
          have J0 := K0.up hu; have J1 := K1.up hu
          exact ⟨⟨by simpa using J0.cell 0, by simpa using J0.cell 1, by simpa using J0.cell 2⟩, ⟨by simpa using J1.cell 0, by simpa using J1.cell 1⟩⟩)
        clear K0 K1
        have B0 := Below.refl w0.heap.size w0
        have H0 := b0
        obtain ⟨⟨k1_0_0, k1_0_1, k1_0_2⟩, ⟨k1_1_0, k1_1_1⟩⟩ := carry.out _ B0
        refine (laws_szMethod rfl (h.below H0 (Nat.le_refl _)) (by omega) (by omega) hm hb hnm).mono ?_; rw [HZ0.out]; rintro e w1 ⟨rfl, hb1⟩
        clear k1_0_0 k1_0_1 k1_0_2 k1_1_0 k1_1_1
        have sz1 : w0.heap.size ≤ w1.heap.size := hb1.size
        have B1 := B0.trans (hb1.mono B0.size)
        have H1 := b0.trans (B1.mono b0.size)
        obtain ⟨⟨k2_0_0, k2_0_1, k2_0_2⟩, ⟨k2_1_0, k2_1_1⟩⟩ := carry.out _ B1
        go_wp2_with fail
        refine (laws_szCalls (by omega) (by omega) hkb hks).mono ?_; rw [HZ1.out]; rintro e w2 ⟨rfl, hb2⟩
        clear k2_0_0 k2_0_1 k2_0_2 k2_1_0 k2_1_1
        have sz2 : w1.heap.size ≤ w2.heap.size := hb2.size
        have B2 := B1.trans (hb2.mono B1.size)
        have H2 := b0.trans (B2.mono b0.size)
        have HS := Lib.hid hs1
        obtain ⟨H, hH⟩ : ∃ H, H = mkH nm st l kb ks t := ⟨_, rfl⟩
        obtain ⟨M, hM⟩ : ∃ M, M = mkM nm st l kb ks t := ⟨_, rfl⟩
        obtain ⟨rb, hrb⟩ : ∃ b, b = mkOk nm st l kb ks t := ⟨_, rfl⟩
        have HS : Hid (∀ (u : World) (g : Nat), Recs strE 1 u (some ⟨g, 0, none⟩) l → Calls Tryz.prog 6 #[.agg #[.string nm, .int .i64 st, .slice (some ⟨g, 0, none⟩) l.length l.length], .agg #[.string kb, .string ks], .string t] u fun e w' => ∃ AH cH AL cL, e = .returned (.tuple #[.agg #[.slice AH H.length cH, .slice AL M.length cL], .bool rb]) ∧ Owned strE 1 9 w' u.heap.size AH H.length cH H ∧ Owned lineE 3 55 w' u.heap.size AL M.length cL M ∧ Below u.heap.size u w') := Lib.hid (fun u g hr => by
          rw [hH, hM, hrb]
          exact spec_MakeProof rfl hr (by omega) hs1 hnm1 hI hkb1 hks1 (Nat.le_refl _) ht1)
        have HI : Hid (∀ (u : World) (g : Nat), Recs strE 1 u (some ⟨g, 0, none⟩) l → Calls Tryz.prog 9 #[.agg #[.string nm, .int .i64 st, .slice (some ⟨g, 0, none⟩) l.length l.length], .agg #[.string kb, .string ks], .string t] u fun e w' => ∃ AH cH AL cL, e = .returned (.tuple #[.agg #[.slice AH H.length cH, .slice AL M.length cL], .bool rb]) ∧ Owned strE 1 9 w' u.heap.size AH H.length cH H ∧ Owned lineE 3 55 w' u.heap.size AL M.length cL M ∧ Below u.heap.size u w') := Lib.hid (fun u g hr => by
          rw [hH, hM, hrb]
          exact impl_MakeProof rfl hr (by omega) hs1 hnm1 hI hkb1 hks1 ht1)
        have hlen := mk_len nm st l kb ks t
        rw [← hH, ← hM] at hlen
        have hl61 := hlen.1
        have hl800 := hlen.2
        have hbb : (rb == rb) = true := by simp
        clear hH hM hrb hlen
        have HR := Lib.hid (h.below H2 (Nat.le_refl _))
        have HC0 : Hid (∀ u : World, Below w2.heap.size w2 u → (u.cell? ⟨w.heap.size, 0, none⟩ = some (.string nm) ∧ u.cell? ⟨w.heap.size, 1, none⟩ = some (.int .i64 st) ∧ u.cell? ⟨w.heap.size, 2, none⟩ = some (.slice A l.length c)) ∧ (u.cell? ⟨w.heap.size + 1, 0, none⟩ = some (.string kb) ∧ u.cell? ⟨w.heap.size + 1, 1, none⟩ = some (.string ks))) := Lib.hid (fun u hu => carry.out _ (B2.trans (hu.mono B2.size)))
        have C2 := Below.refl w2.heap.size w2
        go_upto_region 10 with fail
        go_cut [8, 9] (fun s8 s9 wx => ∃ (p : Nat) (A1 : Option Addr) (c1 : Nat) (A2 : Option Addr) (c2 : Nat), s8 = .pointer (some ⟨p, 0, none⟩) ∧ w2.heap.size ≤ p ∧ s9 = .bool rb ∧ Blk wx p 31 [.slice A1 H.length c1, .slice A2 M.length c2] ∧ Owned strE 1 9 wx w2.heap.size A1 H.length c1 H ∧ Owned lineE 3 55 wx w2.heap.size A2 M.length c2 M ∧ Below w2.heap.size w2 wx)
        case first =>
          go_region_held3 (fun u => (u.cell? ⟨w.heap.size, 0, none⟩ = some (.string nm) ∧ u.cell? ⟨w.heap.size, 1, none⟩ = some (.int .i64 st) ∧ u.cell? ⟨w.heap.size, 2, none⟩ = some (.slice A l.length c)) ∧ (u.cell? ⟨w.heap.size + 1, 0, none⟩ = some (.string kb) ∧ u.cell? ⟨w.heap.size + 1, 1, none⟩ = some (.string ks))) (first | with_reducible exact HC0.out _ ((Cc.setCell (p := ⟨_, 0, none⟩) pz _).setCell (p := ⟨_, 1, none⟩) pz _) | with_reducible exact HC0.out _ Cc | with_reducible exact HC0.out _ (Cc.alloc Cc.size _) | with_reducible exact HC0.out _ Cb | with_reducible exact HC0.out _ (Cb.alloc Cb.size _) | with_reducible exact HC0.out _ Ca | with_reducible exact HC0.out _ (Ca.alloc Ca.size _) | with_reducible exact HC0.out _ C2.drew | with_reducible exact HC0.out _ (C2.alloc C2.size _).drew) (first | (go_at_call 6; ((first | (with_reducible refine (HS.out _ _ (omW.up Db).recs).mono ?_) | (with_reducible refine (HS.out _ _ (omW.up (below_alloc Db _)).recs).mono ?_)); rintro e wc ⟨AW, cW, BW, dW, rfl, oW, oX, hbc⟩; (first | (with_reducible have Cc := below_go Cb hbc) | (with_reducible have Cc := below_go (below_alloc Cb _) hbc)); (first | (with_reducible have OW := oW.base_le Cb.size) | (have OW := oW.base_le (below_alloc Cb _).size)); (first | (with_reducible have OX := oX.base_le Cb.size) | (have OX := oX.base_le (below_alloc Cb _).size)); (first | (with_reducible have KZ := KZb.up hbc; have pz := pzb) | (with_reducible have KZ := (Blk.at_ wb 31 [.slice none 0 0, .slice none 0 0] (b := wb.heap.size) rfl).up hbc; have pz := Cb.size) | skip); (first | (have f0 := KZ.frozen 0; have f1 := KZ.frozen 1; have d0 := KZ.cell 0; have d1 := KZ.cell 1; simp only [List.getElem?_cons_zero, List.getElem?_cons_succ] at d0 d1) | skip))) | (go_at_call 8; ((refine (laws_toCalls).mono ?_); rintro e wb ⟨rfl, hbb2⟩; (first | (with_reducible have Cb := below_go Ca hbb2; with_reducible have Db := below_go (Below.refl _ _) hbb2) | (with_reducible have Cb := below_go (below_alloc Ca _) hbb2; with_reducible have Db := below_go (below_alloc (Below.refl _ _) _) hbb2)); (first | (with_reducible have KZb := KZa.up hbb2; have pzb := pza) | (with_reducible have KZb := (Blk.at_ wa 31 [.slice none 0 0, .slice none 0 0] (b := wa.heap.size) rfl).up hbb2; have pzb := Ca.size) | skip))) | (go_at_call 7; ((first | (with_reducible refine (laws_toMethod (st := st) (nm := nm) rfl (HR.out.up C2.drew) (by omega)).mono ?_) | (with_reducible refine (laws_toMethod (st := st) (nm := nm) rfl (HR.out.up (Below.drew (below_alloc C2 _))) (by omega)).mono ?_)); rintro e wa ⟨gomW, rfl, omW, hba⟩; (first | (with_reducible have Ca : Below w2.heap.size w2 wa := below_of_drew hba) | (with_reducible have Ca : Below w2.heap.size w2 wa := below_go (Below.drew (below_alloc C2 _)) hba)); (first | (with_reducible have KZa := (blkDrew (Blk.at_ w2 31 [.slice none 0 0, .slice none 0 0] (b := w2.heap.size) rfl)).up hba; have pza := Nat.le_refl w2.heap.size) | skip))))
          all_goals
            go_wp2_with fail
            go_meet
            first
              | exact ⟨_, _, _, _, _, rfl, pz, rfl, (KZ.set_ 0 _).set_ 1 _, (OW.kept (only_set (p := ⟨_, 0, none⟩) _ _) (fun q hq e => blkNe OW KZ (by decide) (e.trans hq.symm))).kept (only_set (p := ⟨_, 1, none⟩) _ _) (fun q hq e => blkNe OW KZ (by decide) (e.trans hq.symm)), (OX.kept (only_set (p := ⟨_, 0, none⟩) _ _) (fun q hq e => blkNe OX KZ (by decide) (e.trans hq.symm))).kept (only_set (p := ⟨_, 1, none⟩) _ _) (fun q hq e => blkNe OX KZ (by decide) (e.trans hq.symm)), (Cc.setCell (p := ⟨_, 0, none⟩) pz _).setCell (p := ⟨_, 1, none⟩) pz _⟩
              | exact ⟨_, _, _, _, _, rfl, Cc.size, rfl, Blk.at_ wc 31 [.slice AW H.length cW, .slice BW M.length dW] rfl, OW.alloc _, OX.alloc _, Cc.alloc Cc.size _⟩
        case rest =>
          obtain ⟨p, AW, cW, BW, dW, rfl, hp, rfl, KP, OW, OX, C3⟩ := hcut
          rename World => w3
          have B3 := B2.trans (C3.mono B2.size)
          have H3 := b0.trans (B3.mono b0.size)
          have hp3 := KP.lt
          have RW := Lib.hid OW.range
          have RX := Lib.hid OX.range
          have hs23 : w2.heap.size ≤ w3.heap.size := C3.size
          obtain ⟨⟨k3_0_0, k3_0_1, k3_0_2⟩, ⟨k3_1_0, k3_1_1⟩⟩ := carry.out _ B3
          go_wp2_with fail
          refine (laws_toMethod (st := st) (nm := nm) rfl (h.below H3 (Nat.le_refl _)) (by omega)).mono ?_; rintro e w6 ⟨gx, rfl, ox, hb6⟩
          clear k3_0_0 k3_0_1 k3_0_2 k3_1_0 k3_1_1
          have sz6 : w3.heap.size ≤ w6.heap.size := hb6.size
          have B6 := B3.trans (hb6.mono B3.size)
          have H6 := b0.trans (B6.mono b0.size)
          have hb7 : Below w6.heap.size w6 (w6.alloc (.cells ⟨[.string nm, .int .i64 st, .slice (some ⟨gx, 0, none⟩) l.length l.length]⟩ 34)) := by (repeat' (first | (with_reducible exact Below.refl _ _) | (with_reducible assumption) | (with_reducible refine below_drewN ?_ _) | (with_reducible refine Below.drew ?_) | (with_reducible refine below_alloc ?_ _) | (with_reducible refine Below.alloc ?_ ?_ _) | (with_reducible refine Below.setCell ?_ ?_ _) | (with_reducible refine below_go ?_ (by with_reducible assumption)) | (with_reducible refine below_then (by with_reducible assumption) ?_ ?_) | go_size))
          have XD := Blk.at_ w6 34 [.string nm, .int .i64 st, .slice (some ⟨gx, 0, none⟩) l.length l.length] (b := w6.heap.size) rfl
          have RMX := Lib.hid ox.range
          go_upto_region 12 with fail
          obtain ⟨w7, hw7⟩ : ∃ u, u = (w6.alloc (.cells #[.string nm, .int .i64 st, .slice (some ⟨gx, 0, none⟩) l.length l.length] 34)) := ⟨_, rfl⟩
          rw [← hw7] at hb7 XD ⊢
          clear hw7
          have sz7 : w6.heap.size ≤ w7.heap.size := hb7.size
          have B7 := B6.trans (hb7.mono B6.size)
          have H7 := b0.trans (B7.mono b0.size)
          have ox_7 := ox.up hb7
          have C37 := hb6.trans (hb7.mono hb6.size)
          have KP7 := KP.up C37; have OW7 := OW.up C37; have OX7 := OX.up C37
          have HC7 : Hid (∀ u : World, Below w7.heap.size w7 u → ((u.cell? ⟨w.heap.size, 0, none⟩ = some (.string nm) ∧ u.cell? ⟨w.heap.size, 1, none⟩ = some (.int .i64 st) ∧ u.cell? ⟨w.heap.size, 2, none⟩ = some (.slice A l.length c)) ∧ (u.cell? ⟨w.heap.size + 1, 0, none⟩ = some (.string kb) ∧ u.cell? ⟨w.heap.size + 1, 1, none⟩ = some (.string ks)) ∧ (u.cell? ⟨w6.heap.size, 0, none⟩ = some (.string nm) ∧ u.cell? ⟨w6.heap.size, 1, none⟩ = some (.int .i64 st) ∧ u.cell? ⟨w6.heap.size, 2, none⟩ = some (.slice (some ⟨gx, 0, none⟩) l.length l.length)))) := Lib.hid (fun u hu => by
            have J := XD.up hu
            have q := carry.out _ (B7.trans (hu.mono B7.size))
            exact ⟨q.1, q.2, by simpa using J.cell 0, by simpa using J.cell 1, by simpa using J.cell 2⟩)
          clear XD KP OW OX
          have C7 := Below.refl w7.heap.size w7
          go_cut [11, 12] (fun s8 s9 wx => ∃ (p : Nat) (A1 : Option Addr) (c1 : Nat) (A2 : Option Addr) (c2 : Nat), s8 = .pointer (some ⟨p, 0, none⟩) ∧ w7.heap.size ≤ p ∧ s9 = .bool rb ∧ Blk wx p 31 [.slice A1 H.length c1, .slice A2 M.length c2] ∧ Owned strE 1 9 wx w7.heap.size A1 H.length c1 H ∧ Owned lineE 3 55 wx w7.heap.size A2 M.length c2 M ∧ Below w7.heap.size w7 wx)
          case first =>
            go_region_held3 (fun u => ((u.cell? ⟨w.heap.size, 0, none⟩ = some (.string nm) ∧ u.cell? ⟨w.heap.size, 1, none⟩ = some (.int .i64 st) ∧ u.cell? ⟨w.heap.size, 2, none⟩ = some (.slice A l.length c)) ∧ (u.cell? ⟨w.heap.size + 1, 0, none⟩ = some (.string kb) ∧ u.cell? ⟨w.heap.size + 1, 1, none⟩ = some (.string ks)) ∧ (u.cell? ⟨w6.heap.size, 0, none⟩ = some (.string nm) ∧ u.cell? ⟨w6.heap.size, 1, none⟩ = some (.int .i64 st) ∧ u.cell? ⟨w6.heap.size, 2, none⟩ = some (.slice (some ⟨gx, 0, none⟩) l.length l.length)))) (first | with_reducible exact HC7.out _ ((C9.setCell (p := ⟨_, 0, none⟩) pz _).setCell (p := ⟨_, 1, none⟩) pz _) | with_reducible exact HC7.out _ C9 | with_reducible exact HC7.out _ (C9.alloc C9.size _) | with_reducible exact HC7.out _ C8 | with_reducible exact HC7.out _ (C8.alloc C8.size _) | with_reducible exact HC7.out _ C7.drew | with_reducible exact HC7.out _ (C7.alloc C7.size _).drew) (first | (go_at_call 9; ((first | (with_reducible refine (HI.out _ _ (ox_7.up C8).recs).mono ?_) | (with_reducible refine (HI.out _ _ (ox_7.up (below_alloc C8 _)).recs).mono ?_)); rintro e w9 ⟨AW, cW, BW, dW, rfl, oW, oX, hb9⟩; (first | (with_reducible have C9 : Below w7.heap.size w7 w9 := below_go C8 hb9) | (with_reducible have C9 : Below w7.heap.size w7 w9 := below_go (below_alloc C8 _) hb9)); (first | (with_reducible have OW := oW.base_le C8.size) | (have OW := oW.base_le (below_alloc C8 _).size)); (first | (with_reducible have OX := oX.base_le C8.size) | (have OX := oX.base_le (below_alloc C8 _).size)); (first | (with_reducible have KZ := KZ8.up hb9; have pz := Nat.le_refl w7.heap.size) | (with_reducible have KZ := (Blk.at_ w8 31 [.slice none 0 0, .slice none 0 0] (b := w8.heap.size) rfl).up hb9; have pz := C8.size) | skip); (first | (have f0 := KZ.frozen 0; have f1 := KZ.frozen 1; have d0 := KZ.cell 0; have d1 := KZ.cell 1; simp only [List.getElem?_cons_zero, List.getElem?_cons_succ] at d0 d1) | skip))) | (go_at_call 8; ((refine (laws_toCalls).mono ?_); rintro e w8 ⟨rfl, hb8⟩; (first | (with_reducible have C8 : Below w7.heap.size w7 w8 := below_of_drew hb8) | (with_reducible have C8 : Below w7.heap.size w7 w8 := below_go (Below.drew (below_alloc C7 _)) hb8)); (first | (with_reducible have KZ8 := (blkDrew (Blk.at_ w7 31 [.slice none 0 0, .slice none 0 0] (b := w7.heap.size) rfl)).up hb8) | skip))))
            all_goals
              go_wp2_with fail
              go_meet
              first
                | exact ⟨_, _, _, _, _, rfl, pz, rfl, (KZ.set_ 0 _).set_ 1 _, (OW.kept (only_set (p := ⟨_, 0, none⟩) _ _) (fun q hq e => blkNe OW KZ (by decide) (e.trans hq.symm))).kept (only_set (p := ⟨_, 1, none⟩) _ _) (fun q hq e => blkNe OW KZ (by decide) (e.trans hq.symm)), (OX.kept (only_set (p := ⟨_, 0, none⟩) _ _) (fun q hq e => blkNe OX KZ (by decide) (e.trans hq.symm))).kept (only_set (p := ⟨_, 1, none⟩) _ _) (fun q hq e => blkNe OX KZ (by decide) (e.trans hq.symm)), (C9.setCell (p := ⟨_, 0, none⟩) pz _).setCell (p := ⟨_, 1, none⟩) pz _⟩
                | exact ⟨_, _, _, _, _, rfl, C9.size, rfl, Blk.at_ w9 31 [.slice AW H.length cW, .slice BW M.length dW] rfl, OW.alloc _, OX.alloc _, C9.alloc C9.size _⟩
          case rest =>
            obtain ⟨p', AG, cG, BG, dG, rfl, hp', rfl, KP', OG, OL, C9⟩ := hcut
            rename World => w9
            have B9 := B7.trans (C9.mono B7.size)
            have KP9 := KP7.up C9; have OW9 := OW7.up C9; have OX9 := OX7.up C9
            have KP'9 := KP'; have OG9 := OG; have OL9 := OL
            clear KP' OG OL KP7 OW7 OX7
            have d0 := KP9.cell 0; have d1 := KP9.cell 1; have e0 := KP'9.cell 0; have e1 := KP'9.cell 1
            simp only [List.getElem?_cons_zero, List.getElem?_cons_succ] at d0 d1 e0 e1
            go_wp2_with fail
            refine (laws_eqProof _ _ _ _ _ _ _ _ _ _ _ _ _ _ _ _ _ rfl rfl rfl rfl OG9.recs OW9.recs OL9.recs OX9.recs (by omega) (by omega) (by omega) (by omega)).mono ?_
            rw [show (decide (H = H) && decide (M = M)) = true by simp]
            rintro e w10 ⟨rfl, hb10⟩
            clear d0 d1 e0 e1
            have C10 := below_go C9 hb10
            have B10 := B7.trans (C10.mono B7.size)
            have H10 := b0.trans (B10.mono b0.size)
            have ox_10 := ox_7.up C10
            have KP10 := KP9.up hb10; have KP'10 := KP'9.up hb10; have OW10 := OW9.up hb10; have OX10 := OX9.up hb10; have OG10 := OG9.up hb10; have OL10 := OL9.up hb10
            clear KP9 KP'9 OW9 OX9 OG9 OL9
            go_wp2_with fail
            go_region_held3 (fun u => ((u.cell? ⟨w.heap.size, 0, none⟩ = some (.string nm) ∧ u.cell? ⟨w.heap.size, 1, none⟩ = some (.int .i64 st) ∧ u.cell? ⟨w.heap.size, 2, none⟩ = some (.slice A l.length c)) ∧ (u.cell? ⟨w.heap.size + 1, 0, none⟩ = some (.string kb) ∧ u.cell? ⟨w.heap.size + 1, 1, none⟩ = some (.string ks)) ∧ (u.cell? ⟨w6.heap.size, 0, none⟩ = some (.string nm) ∧ u.cell? ⟨w6.heap.size, 1, none⟩ = some (.int .i64 st) ∧ u.cell? ⟨w6.heap.size, 2, none⟩ = some (.slice (some ⟨gx, 0, none⟩) l.length l.length)))) (first | exact HC7.out _ C12 | exact HC7.out _ C11 | exact HC7.out _ C10.drew) (first | (go_at_call 11; ((refine (laws_eqMethod rfl (ox_10.up E11).recs ot.recs (by omega)).mono ?_); rintro e w12 ⟨rfl, hb12⟩; have C12 := below_go C11 hb12; have E12 := below_go E11 hb12)) | (go_at_call 7; ((with_reducible refine (laws_toMethod (st := st) (nm := nm) rfl (h.below H10 (Nat.le_refl _)).drew (by omega)).mono ?_); rintro e w11 ⟨gt, rfl, ot, hbd11⟩; have E11 := below_of_drew hbd11; have C11 := below_go C10 E11)))
            have B12 := B7.trans (C12.mono B7.size)
            have KP12 := KP10.up E12; have KP'12 := KP'10.up E12; have OW12 := OW10.up E12; have OX12 := OX10.up E12; have OG12 := OG10.up E12; have OL12 := OL10.up E12
            have ox_12 := ox_7.up C12
            clear KP10 KP'10 OW10 OX10 OG10 OL10 ox_10 ox_7
            obtain ⟨_, _, x0, x1, x2⟩ := HC7.out _ C12
            have sz12 : w7.heap.size ≤ w12.heap.size := C12.size
            have bm : w3.heap.size ≤ w12.heap.size := by omega
            go_wp2_with fail
            refine (laws_markMethod ox_12 bm (by omega) (by omega)).mono ?_; rintro e w13 ⟨rfl, hg13, hb13⟩
            have hxk := RMX.out
            have B13 := B12.trans (hb13.mono (by have := B3.size; omega))
            have H13 := b0.trans (B13.mono b0.size)
            have KP13 := KP12.grown hg13 (blkNe ox_12 KP12 (by decide)); have KP'13 := KP'12.grown hg13 (blkNe ox_12 KP'12 (by decide))
            have OW13 := OW12.kept hg13 (fun k hk e => by have a1 := (RW.out k hk).2; have a2 := (ox_12.blk e).1; omega)
            have OX13 := OX12.kept hg13 (fun k hk e => by have a1 := (RX.out k hk).2; have a2 := (ox_12.blk e).1; omega)
            have OG13 := OG12.kept hg13 (fun k hk e => by have a1 := (OG12.blk hk).1; have a2 := (hxk k e).2; omega)
            have OL13 := OL12.kept hg13 (fun k hk e => by have a1 := (OL12.blk hk).1; have a2 := (hxk k e).2; omega)
            have hs13 : w12.heap.size ≤ w13.heap.size := hb13.size
            clear KP12 KP'12 OW12 OX12 OG12 OL12 ox_12 hg13 x0 x1 x2
            obtain ⟨v1, hv1⟩ : ∃ v : Int, v = 1 + (l.length : Int) := ⟨_, rfl⟩
            rw [← hv1]
            have hv10 : ¬ v1 < 0 := by omega
            clear hv1
            have d0 := KP13.cell 0; have d1 := KP13.cell 1; have e0 := KP'13.cell 0; have e1 := KP'13.cell 1
            simp only [List.getElem?_cons_zero, List.getElem?_cons_succ] at d0 d1 e0 e1
            go_wp2_with fail
            refine (laws_eqProof _ _ _ _ _ _ _ _ _ _ _ _ _ _ _ _ _ rfl rfl rfl rfl OG13.recs OW13.recs OL13.recs OX13.recs (by omega) (by omega) (by omega) (by omega)).mono ?_
            rw [show (decide (H = H) && decide (M = M)) = true by simp]
            rintro e w14 ⟨rfl, hb14⟩
            clear d0 d1 e0 e1
            have B14 := below_go B13 hb14
            have KP14 := KP13.up hb14; have KP'14 := KP'13.up hb14; have OW14 := OW13.up hb14; have OX14 := OX13.up hb14; have OG14 := OG13.up hb14; have OL14 := OL13.up hb14
            have hs14 : w7.heap.size ≤ w14.heap.size := by have := hb14.size; omega
            clear KP13 KP'13 OW13 OX13 OG13 OL13
            have d0 := KP'14.cell 0; have d1 := KP'14.cell 1
            simp only [List.getElem?_cons_zero, List.getElem?_cons_succ] at d0 d1
            go_wp2_with fail
            refine (laws_markProof _ _ _ _ _ _ w7.heap.size _ _ _ _ OG14 OL14 hs14 (by omega) (by omega) (by decide)).mono ?_
            rintro e w15 ⟨rfl, OG15, OL15, hb15, hF, hP⟩
            obtain ⟨v, hv⟩ : ∃ v : Int, v = 1 + (H.length : Int) + 3 * (M.length : Int) := ⟨_, rfl⟩
            rw [← hv]
            have hv0 : ¬ v < 0 := by omega
            have HV := Lib.hid hv
            have KP15 := hP _ _ _ KP14 (blkNe OG14 KP14 (by decide)) (blkNe OL14 KP14 (by decide))
            have KP'15 := hP _ _ _ KP'14 (blkNe OG14 KP'14 (by decide)) (blkNe OL14 KP'14 (by decide))
            have OW15 := hF _ _ _ _ _ _ _ _ _ OW14 (fun k hk => ⟨fun e => by have a1 := (RW.out k hk).2; have a2 := (OG14.blk e).1; omega, fun e => by have a1 := (RW.out k hk).2; have a2 := (OL14.blk e).1; omega⟩)
            have OX15 := hF _ _ _ _ _ _ _ _ _ OX14 (fun k hk => ⟨fun e => by have a1 := (RX.out k hk).2; have a2 := (OG14.blk e).1; omega, fun e => by have a1 := (RX.out k hk).2; have a2 := (OL14.blk e).1; omega⟩)
            have B15 := B14.trans (hb15.mono B7.size)
            clear hv hF hP hb15 d0 d1 KP14 KP'14 OW14 OX14 OG14 OL14
            have d0 := KP'15.cell 0; have d1 := KP'15.cell 1
            simp only [List.getElem?_cons_zero, List.getElem?_cons_succ] at d0 d1
            go_wp2_with fail
            refine (laws_heldProof _ _ _ _ _ _ 1 _ OG15.recs OL15.recs (by omega) (by omega) (by decide)).mono ?_
            rw [← HV.out]
            rintro e w16 ⟨rfl, hb16⟩
            have B16 := below_go B15 hb16
            have H16 := b0.trans (B16.mono b0.size)
            have KP16 := KP15.up hb16; have KP'16 := KP'15.up hb16; have OW16 := OW15.up hb16; have OX16 := OX15.up hb16; have OG16 := OG15.up hb16; have OL16 := OL15.up hb16
            clear d0 d1 KP15 KP'15 OW15 OX15 OG15 OL15
            have HR2 := Lib.hid (h.below H16 (Nat.le_refl _))
            have HC16 : Hid (∀ u : World, Below w16.heap.size w16 u → (u.cell? ⟨w.heap.size, 0, none⟩ = some (.string nm) ∧ u.cell? ⟨w.heap.size, 1, none⟩ = some (.int .i64 st) ∧ u.cell? ⟨w.heap.size, 2, none⟩ = some (.slice A l.length c)) ∧ (u.cell? ⟨w.heap.size + 1, 0, none⟩ = some (.string kb) ∧ u.cell? ⟨w.heap.size + 1, 1, none⟩ = some (.string ks))) := Lib.hid (fun u hu => carry.out _ (B16.trans (hu.mono B16.size)))
            have C16 := Below.refl w16.heap.size w16
            go_upto_region 29 with fail
            go_cut [16, 17] (fun s8 s9 wx => ∃ (p : Nat) (A1 : Option Addr) (c1 : Nat) (A2 : Option Addr) (c2 : Nat), s8 = .pointer (some ⟨p, 0, none⟩) ∧ w16.heap.size ≤ p ∧ s9 = .bool rb ∧ Blk wx p 31 [.slice A1 H.length c1, .slice A2 M.length c2] ∧ Owned strE 1 9 wx w16.heap.size A1 H.length c1 H ∧ Owned lineE 3 55 wx w16.heap.size A2 M.length c2 M ∧ Below w16.heap.size w16 wx)
            case first =>
              go_region_held3 (fun u => (u.cell? ⟨w.heap.size, 0, none⟩ = some (.string nm) ∧ u.cell? ⟨w.heap.size, 1, none⟩ = some (.int .i64 st) ∧ u.cell? ⟨w.heap.size, 2, none⟩ = some (.slice A l.length c)) ∧ (u.cell? ⟨w.heap.size + 1, 0, none⟩ = some (.string kb) ∧ u.cell? ⟨w.heap.size + 1, 1, none⟩ = some (.string ks))) (first | with_reducible exact HC16.out _ ((Cc.setCell (p := ⟨_, 0, none⟩) pz _).setCell (p := ⟨_, 1, none⟩) pz _) | with_reducible exact HC16.out _ Cc | with_reducible exact HC16.out _ (Cc.alloc Cc.size _) | with_reducible exact HC16.out _ Cb | with_reducible exact HC16.out _ (Cb.alloc Cb.size _) | with_reducible exact HC16.out _ Ca | with_reducible exact HC16.out _ (Ca.alloc Ca.size _) | with_reducible exact HC16.out _ C16.drew | with_reducible exact HC16.out _ (C16.alloc C16.size _).drew) (first | (go_at_call 9; ((first | (with_reducible refine (HI.out _ _ (omW.up Db).recs).mono ?_) | (with_reducible refine (HI.out _ _ (omW.up (below_alloc Db _)).recs).mono ?_)); rintro e wc ⟨AW, cW, BW, dW, rfl, oW, oX, hbc⟩; (first | (with_reducible have Cc := below_go Cb hbc) | (with_reducible have Cc := below_go (below_alloc Cb _) hbc)); (first | (with_reducible have OW := oW.base_le Cb.size) | (have OW := oW.base_le (below_alloc Cb _).size)); (first | (with_reducible have OX := oX.base_le Cb.size) | (have OX := oX.base_le (below_alloc Cb _).size)); (first | (with_reducible have KZ := KZb.up hbc; have pz := pzb) | (with_reducible have KZ := (Blk.at_ wb 31 [.slice none 0 0, .slice none 0 0] (b := wb.heap.size) rfl).up hbc; have pz := Cb.size) | skip); (first | (have f0 := KZ.frozen 0; have f1 := KZ.frozen 1; have d0 := KZ.cell 0; have d1 := KZ.cell 1; simp only [List.getElem?_cons_zero, List.getElem?_cons_succ] at d0 d1) | skip))) | (go_at_call 8; ((refine (laws_toCalls).mono ?_); rintro e wb ⟨rfl, hbb2⟩; (first | (with_reducible have Cb := below_go Ca hbb2; with_reducible have Db := below_go (Below.refl _ _) hbb2) | (with_reducible have Cb := below_go (below_alloc Ca _) hbb2; with_reducible have Db := below_go (below_alloc (Below.refl _ _) _) hbb2)); (first | (with_reducible have KZb := KZa.up hbb2; have pzb := pza) | (with_reducible have KZb := (Blk.at_ wa 31 [.slice none 0 0, .slice none 0 0] (b := wa.heap.size) rfl).up hbb2; have pzb := Ca.size) | skip))) | (go_at_call 7; ((first | (with_reducible refine (laws_toMethod (st := st) (nm := nm) rfl (HR2.out.up C16.drew) (by omega)).mono ?_) | (with_reducible refine (laws_toMethod (st := st) (nm := nm) rfl (HR2.out.up (Below.drew (below_alloc C16 _))) (by omega)).mono ?_)); rintro e wa ⟨gomW, rfl, omW, hba⟩; (first | (with_reducible have Ca : Below w16.heap.size w16 wa := below_of_drew hba) | (with_reducible have Ca : Below w16.heap.size w16 wa := below_go (Below.drew (below_alloc C16 _)) hba)); (first | (with_reducible have KZa := (blkDrew (Blk.at_ w16 31 [.slice none 0 0, .slice none 0 0] (b := w16.heap.size) rfl)).up hba; have pza := Nat.le_refl w16.heap.size) | skip))))
              all_goals
                go_wp2_with fail
                go_meet
                first
                  | exact ⟨_, _, _, _, _, rfl, pz, rfl, (KZ.set_ 0 _).set_ 1 _, (OW.kept (only_set (p := ⟨_, 0, none⟩) _ _) (fun q hq e => blkNe OW KZ (by decide) (e.trans hq.symm))).kept (only_set (p := ⟨_, 1, none⟩) _ _) (fun q hq e => blkNe OW KZ (by decide) (e.trans hq.symm)), (OX.kept (only_set (p := ⟨_, 0, none⟩) _ _) (fun q hq e => blkNe OX KZ (by decide) (e.trans hq.symm))).kept (only_set (p := ⟨_, 1, none⟩) _ _) (fun q hq e => blkNe OX KZ (by decide) (e.trans hq.symm)), (Cc.setCell (p := ⟨_, 0, none⟩) pz _).setCell (p := ⟨_, 1, none⟩) pz _⟩
                  | exact ⟨_, _, _, _, _, rfl, Cc.size, rfl, Blk.at_ wc 31 [.slice AW H.length cW, .slice BW M.length dW] rfl, OW.alloc _, OX.alloc _, Cc.alloc Cc.size _⟩
            case rest =>
              obtain ⟨p3, AY, cY, BY, dY, rfl, hp3', rfl, KY, OY, OZ, C17⟩ := hcut
              rename World => w17
              have B17 := B16.trans (C17.mono B16.size)
              have KP17 := KP16.up C17; have KP'17 := KP'16.up C17; have OW17 := OW16.up C17; have OX17 := OX16.up C17; have OG17 := OG16.up C17; have OL17 := OL16.up C17
              clear KP16 KP'16 OW16 OX16 OG16 OL16
              have d0 := KY.cell 0; have d1 := KY.cell 1; have e0 := KP17.cell 0; have e1 := KP17.cell 1
              simp only [List.getElem?_cons_zero, List.getElem?_cons_succ] at d0 d1 e0 e1
              go_wp2_with fail
              refine (laws_eqProof _ _ _ _ _ _ _ _ _ _ _ _ _ _ _ _ _ rfl rfl rfl rfl OY.recs OW17.recs OZ.recs OX17.recs (by omega) (by omega) (by omega) (by omega)).mono ?_
              rw [show (decide (H = H) && decide (M = M)) = true by simp]
              rintro e w18 ⟨rfl, hb18⟩
              clear d0 d1 e0 e1
              have B18 := below_go B17 hb18
              have KP'18 := KP'17.up hb18; have OG18 := OG17.up hb18; have OL18 := OL17.up hb18
              have d0 := KP'18.cell 0; have d1 := KP'18.cell 1
              simp only [List.getElem?_cons_zero, List.getElem?_cons_succ] at d0 d1
              go_wp2_with fail
              refine (laws_heldProof _ _ _ _ _ _ 1 _ OG18.recs OL18.recs (by omega) (by omega) (by decide)).mono ?_
              rw [← HV.out]
              rintro e w19 ⟨rfl, hb19⟩
              go_wp2
              go_ret
              exact ⟨rfl, b0.trans ((below_go B18 hb19).mono b0.size)⟩
      · unfold maxLen at ht
        have HZ0 : Hid (leftV 1048576 (szM nm l) = 1048576 - Z0) := Lib.hid (by rw [← hZ0]; exact leftV_t z0)
        have m0 : (0 : Int) ≤ 1048576 - Z0 := by omega
        have p0 : 0 ≤ Z0 := by omega
        have HZ1 : Hid (leftV (1048576 - Z0) (szK kb ks) = -1) := Lib.hid (by rw [← hZ1]; exact leftV_f (by omega))
        clear hZ0 hZ1 y0 y1
        have b0 : Below w.heap.size w ((w.alloc (.cells ⟨[.string nm, .int .i64 st, .slice A l.length c]⟩ 24)).alloc (.cells ⟨[.string kb, .string ks]⟩ 26)) := by (repeat' (first | (with_reducible exact Below.refl _ _) | (with_reducible assumption) | (with_reducible refine below_drewN ?_ _) | (with_reducible refine Below.drew ?_) | (with_reducible refine below_alloc ?_ _) | (with_reducible refine Below.alloc ?_ ?_ _) | (with_reducible refine Below.setCell ?_ ?_ _) | (with_reducible refine below_go ?_ (by with_reducible assumption)) | (with_reducible refine below_then (by with_reducible assumption) ?_ ?_) | go_size))
        have K0 := ((Blk.at_ w 24 [.string nm, .int .i64 st, .slice A l.length c] (b := w.heap.size) (by simp)).alloc (.cells ⟨[.string kb, .string ks]⟩ 26))
        have K1 := (Blk.at_ (w.alloc (.cells ⟨[.string nm, .int .i64 st, .slice A l.length c]⟩ 24)) 26 [.string kb, .string ks] (b := w.heap.size + 1) (by simp))
        go_in
        go_wp2_with fail
        obtain ⟨w0, hw0⟩ : ∃ u, u = ((w.alloc (.cells #[.string nm, .int .i64 st, .slice A l.length c] 24)).alloc (.cells #[.string kb, .string ks] 26)) := ⟨_, rfl⟩
        rw [← hw0] at b0 K0 K1 ⊢
        have z0 : w.heap.size + 2 ≤ w0.heap.size := by rw [hw0]; simp
        clear hw0
        have carry : Hid (∀ u : World, Below w0.heap.size w0 u → (u.cell? ⟨w.heap.size, 0, none⟩ = some (.string nm) ∧ u.cell? ⟨w.heap.size, 1, none⟩ = some (.int .i64 st) ∧ u.cell? ⟨w.heap.size, 2, none⟩ = some (.slice A l.length c)) ∧ (u.cell? ⟨w.heap.size + 1, 0, none⟩ = some (.string kb) ∧ u.cell? ⟨w.heap.size + 1, 1, none⟩ = some (.string ks))) := Lib.hid (fun u hu => by
          have J0 := K0.up hu; have J1 := K1.up hu
          exact ⟨⟨by simpa using J0.cell 0, by simpa using J0.cell 1, by simpa using J0.cell 2⟩, ⟨by simpa using J1.cell 0, by simpa using J1.cell 1⟩⟩)
        clear K0 K1
        have B0 := Below.refl w0.heap.size w0
        have H0 := b0
        obtain ⟨⟨k1_0_0, k1_0_1, k1_0_2⟩, ⟨k1_1_0, k1_1_1⟩⟩ := carry.out _ B0
        refine (laws_szMethod rfl (h.below H0 (Nat.le_refl _)) (by omega) (by omega) hm hb hnm).mono ?_; rw [HZ0.out]; rintro e w1 ⟨rfl, hb1⟩
        clear k1_0_0 k1_0_1 k1_0_2 k1_1_0 k1_1_1
        have sz1 : w0.heap.size ≤ w1.heap.size := hb1.size
        have B1 := B0.trans (hb1.mono B0.size)
        have H1 := b0.trans (B1.mono b0.size)
        obtain ⟨⟨k2_0_0, k2_0_1, k2_0_2⟩, ⟨k2_1_0, k2_1_1⟩⟩ := carry.out _ B1
        go_wp2_with fail
        refine (laws_szCalls (by omega) (by omega) hkb hks).mono ?_; rw [HZ1.out]; rintro e w2 ⟨rfl, hb2⟩
        go_wp2
        go_ret
        exact ⟨rfl, below_go H1 hb2⟩
    · unfold maxLen at ht
      have HZ0 : Hid (leftV 1048576 (szM nm l) = -1) := Lib.hid (by rw [← hZ0]; exact leftV_f (by omega))
      clear hZ0 hZ1 y0 y1
      have b0 : Below w.heap.size w ((w.alloc (.cells ⟨[.string nm, .int .i64 st, .slice A l.length c]⟩ 24)).alloc (.cells ⟨[.string kb, .string ks]⟩ 26)) := by (repeat' (first | (with_reducible exact Below.refl _ _) | (with_reducible assumption) | (with_reducible refine below_drewN ?_ _) | (with_reducible refine Below.drew ?_) | (with_reducible refine below_alloc ?_ _) | (with_reducible refine Below.alloc ?_ ?_ _) | (with_reducible refine Below.setCell ?_ ?_ _) | (with_reducible refine below_go ?_ (by with_reducible assumption)) | (with_reducible refine below_then (by with_reducible assumption) ?_ ?_) | go_size))
      have K0 := ((Blk.at_ w 24 [.string nm, .int .i64 st, .slice A l.length c] (b := w.heap.size) (by simp)).alloc (.cells ⟨[.string kb, .string ks]⟩ 26))
      have K1 := (Blk.at_ (w.alloc (.cells ⟨[.string nm, .int .i64 st, .slice A l.length c]⟩ 24)) 26 [.string kb, .string ks] (b := w.heap.size + 1) (by simp))
      go_in
      go_wp2_with fail
      obtain ⟨w0, hw0⟩ : ∃ u, u = ((w.alloc (.cells #[.string nm, .int .i64 st, .slice A l.length c] 24)).alloc (.cells #[.string kb, .string ks] 26)) := ⟨_, rfl⟩
      rw [← hw0] at b0 K0 K1 ⊢
      have z0 : w.heap.size + 2 ≤ w0.heap.size := by rw [hw0]; simp
      clear hw0
      have carry : Hid (∀ u : World, Below w0.heap.size w0 u → (u.cell? ⟨w.heap.size, 0, none⟩ = some (.string nm) ∧ u.cell? ⟨w.heap.size, 1, none⟩ = some (.int .i64 st) ∧ u.cell? ⟨w.heap.size, 2, none⟩ = some (.slice A l.length c)) ∧ (u.cell? ⟨w.heap.size + 1, 0, none⟩ = some (.string kb) ∧ u.cell? ⟨w.heap.size + 1, 1, none⟩ = some (.string ks))) := Lib.hid (fun u hu => by
        have J0 := K0.up hu; have J1 := K1.up hu
        exact ⟨⟨by simpa using J0.cell 0, by simpa using J0.cell 1, by simpa using J0.cell 2⟩, ⟨by simpa using J1.cell 0, by simpa using J1.cell 1⟩⟩)
      clear K0 K1
      have B0 := Below.refl w0.heap.size w0
      have H0 := b0
      obtain ⟨⟨k1_0_0, k1_0_1, k1_0_2⟩, ⟨k1_1_0, k1_1_1⟩⟩ := carry.out _ B0
      refine (laws_szMethod rfl (h.below H0 (Nat.le_refl _)) (by omega) (by omega) hm hb hnm).mono ?_; rw [HZ0.out]; rintro e w1 ⟨rfl, hb1⟩
      go_wp2
      go_ret
      exact ⟨rfl, below_go H0 hb1⟩
  · clear hZ0 hZ1 y0 y1
    unfold maxLen at ht
    have hT : (1048576 : Int) < (t.size : Int) := by omega
    go_in
    go_wp2
    go_ret
    exact ⟨rfl, by (repeat' (first | (with_reducible exact Below.refl _ _) | (with_reducible assumption) | (with_reducible refine below_drewN ?_ _) | (with_reducible refine Below.drew ?_) | (with_reducible refine below_alloc ?_ _) | (with_reducible refine Below.alloc ?_ ?_ _) | (with_reducible refine Below.setCell ?_ ?_ _) | (with_reducible refine below_go ?_ (by with_reducible assumption)) | (with_reducible refine below_then (by with_reducible assumption) ?_ ?_) | go_size))⟩
end Go.Proofs.YtoheahbkopbmhaaGreat
