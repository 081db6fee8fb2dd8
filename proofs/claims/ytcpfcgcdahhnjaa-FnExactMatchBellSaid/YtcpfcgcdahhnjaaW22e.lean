/- The walks through the best match of one bell, both sides. -/
import Derived.Test.YtcpfcgcdahhnjaaW21i
import Derived.Test.YtcpfcgcdahhnjaaW22d
import Derived.Test.YtcpfcgcdahhnjaaP22m
namespace Go.Proofs.Ytcpfcgcdahhnjaa
set_option linter.unusedVariables false
set_option linter.unusedSimpArgs false
open Go.ChangeShapes Go.WideShapes Go.ChangeAt Go.RowKit Go.Deep
set_option maxHeartbeats 1000000 in
theorem impl_MatchBell {A B : Option Addr} {n m c d : Nat} {x y z bell s : Int} {rows : List ByteArray} {l : List (Int × Int)} {w : World} (hn : rows.length = n) (h : Strs w A rows) (hz : n ≤ 1048576) (hm : l.length = m) (g : Recs strikeE 2 w B l) (hz' : m ≤ 1048576) (hs : ∀ s ∈ rows, s.size ≤ 16777216) :
    Calls Try.prog 58 #[.agg #[.int .i64 x, .int .i64 y, .int .i64 z], .slice A n c, .slice B m d, .int .i64 bell, .int .i64 s] w fun e w' => ∃ A' c', e = .returned (.tuple #[.agg #[.slice A' (mbOf x y z rows l bell s).length c', .int .i64 (mbCost x y z rows l bell s)], .bool (mbAsk x y z rows l bell s)]) ∧ Owned intE 1 3 w' w.heap.size A' (mbOf x y z rows l bell s).length c' (mbOf x y z rows l bell s) ∧ (mbOf x y z rows l bell s).length ≤ 16777216 ∧ Below w.heap.size w w' := by
  subst hn hm
  have E : Hid (mbOk x y z rows l bell = (idlOk x y z rows && (goodStrikes l && (decide (0 < rows.length) && inB bell 1 (rows.getD 0 ByteArray.empty).size)))) := rfl
  have b0 : Below w.heap.size w ((w.alloc (.cells #[.int .i64 x, .int .i64 y, .int .i64 z] 31)).alloc (.cells #[.slice none 0 0, .int .i64 0] 48)) := by (repeat' (first | (with_reducible exact Below.refl _ _) | (with_reducible assumption) | (with_reducible refine below_drewN ?_ _) | (with_reducible refine Below.drew ?_) | (with_reducible refine below_alloc ?_ _) | (with_reducible refine Below.alloc ?_ ?_ _) | (with_reducible refine Below.setCell ?_ ?_ _) | (with_reducible refine below_go ?_ (by with_reducible assumption)) | (with_reducible refine below_then (by with_reducible assumption) ?_ ?_) | go_size))
  have K0 := Blk.at_ (w.alloc (.cells #[.int .i64 x, .int .i64 y, .int .i64 z] 31)) 48 [.slice none 0 0, .int .i64 0] (b := w.heap.size + 1) (by simp)
  rcases h1 : idlOk x y z rows
  · have e0 : mbOk x y z rows l bell = false := by rw [E.out, h1]; rfl
    obtain ⟨e1, e2, e3⟩ := mb_f (s := s) e0
    rw [e1, e2, e3]
    clear e0 e1 e2 e3
    go_in
    go_wp2_with (first | (go_at_call 47; refine (impl_IdealStrikes rfl (h.up b0) (by omega) hs).mono ?_; rintro e w1 ⟨A1, c1, rfl, ho1, hn1, hb1⟩; rw [h1]; have KB := K0.up hb1; have f0 := KB.frozen 0; have f1 := KB.frozen 1; have d0 := KB.cell 0; have d1 := KB.cell 1; simp only [List.getElem?_cons_zero, List.getElem?_cons_succ] at d0 d1; have HK := Lib.hid KB; clear KB K0))
    have Z := (HK.out.set_ 0 (.slice none 0 0)).set_ 1 (.int .i64 0)
    have z0 := Z.cell 0; have z1 := Z.cell 1
    simp only [List.set_cons_zero, List.set_cons_succ, List.getElem?_cons_zero, List.getElem?_cons_succ] at z0 z1
    have hbF := below_go b0 hb1
    refine bodyPost_ret (v := .tuple #[.agg #[.slice none 0 0, .int .i64 0], .bool false]) (by simp [results, Try.results58, go_sem, z0, z1]) rfl ?_
    exact ⟨none, 0, rfl, Owned.nil intE_len _ _ _, by decide, (hbF.setCell (by simp) _).setCell (by simp) _⟩
  rcases h2 : goodStrikes l
  · have e0 : mbOk x y z rows l bell = false := by rw [E.out, h1, h2]; rfl
    obtain ⟨e1, e2, e3⟩ := mb_f (s := s) e0
    rw [e1, e2, e3]
    clear e0 e1 e2 e3
    go_in
    go_wp2_with (first | (go_at_call 47; refine (impl_IdealStrikes rfl (h.up b0) (by omega) hs).mono ?_; rintro e w1 ⟨A1, c1, rfl, ho1, hn1, hb1⟩; rw [h1]; have KB := K0.up hb1; have HK1 := Lib.hid KB; clear KB K0) | (go_at_call 99; refine (impl_GoodStrikes rfl ((g.up b0).up hb1) (by omega)).mono ?_; rintro e w2 ⟨rfl, hb2⟩; rw [h2]; have KB := HK1.out.up hb2; have f0 := KB.frozen 0; have f1 := KB.frozen 1; have d0 := KB.cell 0; have d1 := KB.cell 1; simp only [List.getElem?_cons_zero, List.getElem?_cons_succ] at d0 d1; have HK := Lib.hid KB; clear KB))
    have Z := (HK.out.set_ 0 (.slice none 0 0)).set_ 1 (.int .i64 0)
    have z0 := Z.cell 0; have z1 := Z.cell 1
    simp only [List.set_cons_zero, List.set_cons_succ, List.getElem?_cons_zero, List.getElem?_cons_succ] at z0 z1
    have hbF := below_go (below_go b0 hb1) hb2
    refine bodyPost_ret (v := .tuple #[.agg #[.slice none 0 0, .int .i64 0], .bool false]) (by simp [results, Try.results58, go_sem, z0, z1]) rfl ?_
    exact ⟨none, 0, rfl, Owned.nil intE_len _ _ _, by decide, (hbF.setCell (by simp) _).setCell (by simp) _⟩
  by_cases h3 : ¬ 0 < rows.length
  · have e0 : mbOk x y z rows l bell = false := by rw [E.out, h1, h2, decide_eq_false h3]; rfl
    obtain ⟨e1, e2, e3⟩ := mb_f (s := s) e0
    rw [e1, e2, e3]
    have h30 : ((rows.length : Int) == 0) = true := beq_iff_eq.2 (by omega)
    clear e0 e1 e2 e3
    go_in
    go_wp2_with (first | (go_at_call 47; refine (impl_IdealStrikes rfl (h.up b0) (by omega) hs).mono ?_; rintro e w1 ⟨A1, c1, rfl, ho1, hn1, hb1⟩; rw [h1]; have KB := K0.up hb1; have HK1 := Lib.hid KB; clear KB K0) | (go_at_call 99; refine (impl_GoodStrikes rfl ((g.up b0).up hb1) (by omega)).mono ?_; rintro e w2 ⟨rfl, hb2⟩; rw [h2]; have KB := HK1.out.up hb2; have f0 := KB.frozen 0; have f1 := KB.frozen 1; have d0 := KB.cell 0; have d1 := KB.cell 1; simp only [List.getElem?_cons_zero, List.getElem?_cons_succ] at d0 d1; have HK := Lib.hid KB; clear KB))
    have Z := (HK.out.set_ 0 (.slice none 0 0)).set_ 1 (.int .i64 0)
    have z0 := Z.cell 0; have z1 := Z.cell 1
    simp only [List.set_cons_zero, List.set_cons_succ, List.getElem?_cons_zero, List.getElem?_cons_succ] at z0 z1
    have hbF := below_go (below_go b0 hb1) hb2
    refine bodyPost_ret (v := .tuple #[.agg #[.slice none 0 0, .int .i64 0], .bool false]) (by simp [results, Try.results58, go_sem, z0, z1]) rfl ?_
    exact ⟨none, 0, rfl, Owned.nil intE_len _ _ _, by decide, (hbF.setCell (by simp) _).setCell (by simp) _⟩
  have h3 : 0 < rows.length := by omega
  obtain ⟨b1, o1, r0, rfl, hbb1, hr0, hcr0⟩ := h.at_str (k := 0) h3
  rw [Nat.add_zero] at hcr0
  have hr0z := hs r0 (List.mem_of_getElem? hr0)
  have h30 : ((rows.length : Int) == 0) = false := beq_eq_false_iff_ne.2 (by omega)
  have h3p : (0 : Int) < (rows.length : Int) := by omega
  have ER : Hid ((rows.getD 0 ByteArray.empty).size = r0.size) := Lib.hid (by rw [List.getD, hr0]; rfl)
  rcases h4 : inB bell 1 r0.size
  · have e0 : mbOk x y z rows l bell = false := by rw [E.out, h1, h2, ER.out, h4]; simp
    obtain ⟨e1, e2, e3⟩ := mb_f (s := s) e0
    rw [e1, e2, e3]
    clear e0 e1 e2 e3 hr0
    go_in
    go_wp2_with (first | (go_at_call 47; refine (impl_IdealStrikes rfl (h.up b0) (by omega) hs).mono ?_; rintro e w1 ⟨A1, c1, rfl, ho1, hn1, hb1⟩; rw [h1]; have KB := K0.up hb1; have HK1 := Lib.hid KB; clear KB K0) | (go_at_call 99; refine (impl_GoodStrikes rfl ((g.up b0).up hb1) (by omega)).mono ?_; rintro e w2 ⟨rfl, hb2⟩; rw [h2]; have hcr := ((below_go (below_go b0 hb1) hb2).cell (p := ⟨b1, o1, none⟩) hbb1).trans hcr0; have KB := HK1.out.up hb2; have f0 := KB.frozen 0; have f1 := KB.frozen 1; have d0 := KB.cell 0; have d1 := KB.cell 1; simp only [List.getElem?_cons_zero, List.getElem?_cons_succ] at d0 d1; have HK := Lib.hid KB; clear KB) | (go_at_call 109; refine (impl_isBell _ _ _).mono ?_; rintro e w' ⟨rfl, rfl⟩; rw [h4]))
    have Z := (HK.out.set_ 0 (.slice none 0 0)).set_ 1 (.int .i64 0)
    have z0 := Z.cell 0; have z1 := Z.cell 1
    simp only [List.set_cons_zero, List.set_cons_succ, List.getElem?_cons_zero, List.getElem?_cons_succ] at z0 z1
    have hbF := below_go (below_go b0 hb1) hb2
    refine bodyPost_ret (v := .tuple #[.agg #[.slice none 0 0, .int .i64 0], .bool false]) (by simp [results, Try.results58, go_sem, z0, z1]) rfl ?_
    exact ⟨none, 0, rfl, Owned.nil intE_len _ _ _, by decide, (hbF.setCell (by simp) _).setCell (by simp) _⟩
  · have e0 : mbOk x y z rows l bell = true := by rw [E.out, h1, h2, decide_eq_true h3, ER.out, h4]; rfl
    obtain ⟨e1, e2, e3⟩ := mb_t (s := s) e0
    have EA : mbA x y z rows bell = ofBellR (idlR x y z rows) bell := by rw [idlR_t h1]; rfl
    rw [e1, e2, e3, EA]
    have lB := ofBell_len l bell
    have lA := ofBell_len (idlR x y z rows) bell
    have lI : (idlR x y z rows).length ≤ 6400 := by
      rw [idlR_t h1]
      have h5 : goodBeatB x y z = true ∧ goodRows rows = true ∧ goodStrikes (idl x y z rows rows.length) = true := by simpa [idlOk] using h1
      have := (goodStrikes_t h5.2.2).1
      omega
    clear e0 e1 e2 e3 hr0 EA
    go_in
    go_wp2_with (first | (go_at_call 47; refine (impl_IdealStrikes rfl (h.up b0) (by omega) hs).mono ?_; rintro e w1 ⟨A1, c1, rfl, ho1, hn1, hb1⟩; rw [h1]; have KB := K0.up hb1; have HK1 := Lib.hid KB; clear KB K0) | (go_at_call 99; refine (impl_GoodStrikes rfl ((g.up b0).up hb1) (by omega)).mono ?_; rintro e w2 ⟨rfl, hb2⟩; rw [h2]; have hcr := ((below_go (below_go b0 hb1) hb2).cell (p := ⟨b1, o1, none⟩) hbb1).trans hcr0) | (go_at_call 109; refine (impl_isBell _ _ _).mono ?_; rintro e w' ⟨rfl, rfl⟩; rw [h4]))
    refine (impl_ofBell rfl (ho1.up hb2).recs (by omega)).mono ?_; rintro e w3 ⟨A3, c3, rfl, ho3, hb3⟩
    go_wp2_with fail
    refine (impl_ofBell rfl ((((g.up b0).up hb1).up hb2).up hb3) (by omega)).mono ?_; rintro e w4 ⟨A4, c4, rfl, ho4, hb4⟩
    go_wp2_with fail
    refine (impl_BestMatch rfl (ho3.up hb4).recs (by omega) rfl ho4.recs (by omega)).mono ?_; rintro e w5 ⟨A5, c5, rfl, ho5, hn5, hb5⟩
    have KB := ((HK1.out.up hb2).up hb3).up hb4 |>.up hb5
    have f0 := KB.frozen 0; have f1 := KB.frozen 1; have d0 := KB.cell 0; have d1 := KB.cell 1
    simp only [List.getElem?_cons_zero, List.getElem?_cons_succ] at d0 d1
    have HK := Lib.hid KB
    have HO := Lib.hid ho5
    have hbF := below_go (below_go (below_go (below_go (below_go b0 hb1) hb2) hb3) hb4) hb5
    have hbF4 := below_go (below_go (below_go (below_go b0 hb1) hb2) hb3) hb4
    have sz1 := hb1.size
    have sz2 := hb2.size; have sz3 := hb3.size; have sz4 := hb4.size
    simp only [World.size_alloc] at sz1
    clear KB ho5
    go_wp2
    have Z := (HK.out.set_ 0 (.slice A5 (bestOf (ofBellR (idlR x y z rows) bell) (ofBellR l bell) s).length c5)).set_ 1 (.int .i64 (bestCost (ofBellR (idlR x y z rows) bell) (ofBellR l bell) s))
    have z0 := Z.cell 0; have z1 := Z.cell 1
    simp only [List.set_cons_zero, List.set_cons_succ, List.getElem?_cons_zero, List.getElem?_cons_succ] at z0 z1
    refine bodyPost_ret (v := .tuple #[.agg #[.slice A5 (bestOf (ofBellR (idlR x y z rows) bell) (ofBellR l bell) s).length c5, .int .i64 (bestCost (ofBellR (idlR x y z rows) bell) (ofBellR l bell) s)], .bool (askedM (ofBellR (idlR x y z rows) bell) (ofBellR l bell) s)]) (by simp [results, Try.results58, go_sem, z0, z1]) rfl ?_
    have k1 := HO.out.kept (only_set w5 (p := ⟨w.heap.size + 1, 0, none⟩) (.slice A5 (bestOf (ofBellR (idlR x y z rows) bell) (ofBellR l bell) s).length c5)) (fun k hk e => by have := (HO.out.blk hk).1; simp at e; omega)
    have k2 := k1.kept (only_set _ (p := ⟨w.heap.size + 1, 1, none⟩) (.int .i64 (bestCost (ofBellR (idlR x y z rows) bell) (ofBellR l bell) s))) (fun k hk e => by have := (HO.out.blk hk).1; simp at e; omega)
    exact ⟨A5, c5, rfl, k2.base_le hbF4.size, hn5, (hbF.setCell (by simp) _).setCell (by simp) _⟩
set_option maxHeartbeats 1000000 in
theorem spec_MatchBell {A B : Option Addr} {n m c d : Nat} {x y z bell s : Int} {rows : List ByteArray} {l : List (Int × Int)} {w : World} (hn : rows.length = n) (h : Strs w A rows) (hz : n ≤ 1048576) (hm : l.length = m) (g : Recs strikeE 2 w B l) (hz' : m ≤ 1048576) (hs : ∀ s ∈ rows, s.size ≤ 16777216) :
    Calls Try.prog 57 #[.agg #[.int .i64 x, .int .i64 y, .int .i64 z], .slice A n c, .slice B m d, .int .i64 bell, .int .i64 s] w fun e w' => ∃ A' c', e = .returned (.tuple #[.agg #[.slice A' (mbOf x y z rows l bell s).length c', .int .i64 (mbCost x y z rows l bell s)], .bool (mbAsk x y z rows l bell s)]) ∧ Owned intE 1 3 w' w.heap.size A' (mbOf x y z rows l bell s).length c' (mbOf x y z rows l bell s) ∧ (mbOf x y z rows l bell s).length ≤ 16777216 ∧ Below w.heap.size w w' := by
  subst hn hm
  have E : Hid (mbOk x y z rows l bell = (idlOk x y z rows && (goodStrikes l && (decide (0 < rows.length) && inB bell 1 (rows.getD 0 ByteArray.empty).size)))) := rfl
  have b0 : Below w.heap.size w ((w.alloc (.cells #[.int .i64 x, .int .i64 y, .int .i64 z] 31)).alloc (.cells #[.slice none 0 0, .int .i64 0] 48)) := by (repeat' (first | (with_reducible exact Below.refl _ _) | (with_reducible assumption) | (with_reducible refine below_drewN ?_ _) | (with_reducible refine Below.drew ?_) | (with_reducible refine below_alloc ?_ _) | (with_reducible refine Below.alloc ?_ ?_ _) | (with_reducible refine Below.setCell ?_ ?_ _) | (with_reducible refine below_go ?_ (by with_reducible assumption)) | (with_reducible refine below_then (by with_reducible assumption) ?_ ?_) | go_size))
  have K0 := Blk.at_ (w.alloc (.cells #[.int .i64 x, .int .i64 y, .int .i64 z] 31)) 48 [.slice none 0 0, .int .i64 0] (b := w.heap.size + 1) (by simp)
  rcases h1 : idlOk x y z rows
  · have e0 : mbOk x y z rows l bell = false := by rw [E.out, h1]; rfl
    obtain ⟨e1, e2, e3⟩ := mb_f (s := s) e0
    rw [e1, e2, e3]
    clear e0 e1 e2 e3
    go_in
    go_wp2_with (first | (go_at_call 45; refine (spec_IdealStrikes rfl (h.up b0) (by omega) hs).mono ?_; rintro e w1 ⟨A1, c1, rfl, ho1, hn1, hb1⟩; rw [h1]; have KB := K0.up hb1; have f0 := KB.frozen 0; have f1 := KB.frozen 1; have d0 := KB.cell 0; have d1 := KB.cell 1; simp only [List.getElem?_cons_zero, List.getElem?_cons_succ] at d0 d1; have HK := Lib.hid KB; clear KB K0))
    have Z := (HK.out.set_ 0 (.slice none 0 0)).set_ 1 (.int .i64 0)
    have z0 := Z.cell 0; have z1 := Z.cell 1
    simp only [List.set_cons_zero, List.set_cons_succ, List.getElem?_cons_zero, List.getElem?_cons_succ] at z0 z1
    have hbF := below_go b0 hb1
    refine bodyPost_ret (v := .tuple #[.agg #[.slice none 0 0, .int .i64 0], .bool false]) (by simp [results, Try.results57, go_sem, z0, z1]) rfl ?_
    exact ⟨none, 0, rfl, Owned.nil intE_len _ _ _, by decide, (hbF.setCell (by simp) _).setCell (by simp) _⟩
  rcases h2 : goodStrikes l
  · have e0 : mbOk x y z rows l bell = false := by rw [E.out, h1, h2]; rfl
    obtain ⟨e1, e2, e3⟩ := mb_f (s := s) e0
    rw [e1, e2, e3]
    clear e0 e1 e2 e3
    go_in
    go_wp2_with (first | (go_at_call 45; refine (spec_IdealStrikes rfl (h.up b0) (by omega) hs).mono ?_; rintro e w1 ⟨A1, c1, rfl, ho1, hn1, hb1⟩; rw [h1]; have KB := K0.up hb1; have HK1 := Lib.hid KB; clear KB K0) | (go_at_call 96; refine (spec_l21Good rfl ((g.up b0).up hb1) (by omega)).mono ?_; rintro e w2 ⟨rfl, hb2⟩; rw [h2]; have KB := HK1.out.up hb2; have f0 := KB.frozen 0; have f1 := KB.frozen 1; have d0 := KB.cell 0; have d1 := KB.cell 1; simp only [List.getElem?_cons_zero, List.getElem?_cons_succ] at d0 d1; have HK := Lib.hid KB; clear KB))
    have Z := (HK.out.set_ 0 (.slice none 0 0)).set_ 1 (.int .i64 0)
    have z0 := Z.cell 0; have z1 := Z.cell 1
    simp only [List.set_cons_zero, List.set_cons_succ, List.getElem?_cons_zero, List.getElem?_cons_succ] at z0 z1
    have hbF := below_go (below_go b0 hb1) hb2
    refine bodyPost_ret (v := .tuple #[.agg #[.slice none 0 0, .int .i64 0], .bool false]) (by simp [results, Try.results57, go_sem, z0, z1]) rfl ?_
    exact ⟨none, 0, rfl, Owned.nil intE_len _ _ _, by decide, (hbF.setCell (by simp) _).setCell (by simp) _⟩
  by_cases h3 : ¬ 0 < rows.length
  · have e0 : mbOk x y z rows l bell = false := by rw [E.out, h1, h2, decide_eq_false h3]; rfl
    obtain ⟨e1, e2, e3⟩ := mb_f (s := s) e0
    rw [e1, e2, e3]
    have h30 : ((rows.length : Int) == 0) = true := beq_iff_eq.2 (by omega)
    clear e0 e1 e2 e3
    go_in
    go_wp2_with (first | (go_at_call 45; refine (spec_IdealStrikes rfl (h.up b0) (by omega) hs).mono ?_; rintro e w1 ⟨A1, c1, rfl, ho1, hn1, hb1⟩; rw [h1]; have KB := K0.up hb1; have HK1 := Lib.hid KB; clear KB K0) | (go_at_call 96; refine (spec_l21Good rfl ((g.up b0).up hb1) (by omega)).mono ?_; rintro e w2 ⟨rfl, hb2⟩; rw [h2]; have KB := HK1.out.up hb2; have f0 := KB.frozen 0; have f1 := KB.frozen 1; have d0 := KB.cell 0; have d1 := KB.cell 1; simp only [List.getElem?_cons_zero, List.getElem?_cons_succ] at d0 d1; have HK := Lib.hid KB; clear KB))
    have Z := (HK.out.set_ 0 (.slice none 0 0)).set_ 1 (.int .i64 0)
    have z0 := Z.cell 0; have z1 := Z.cell 1
    simp only [List.set_cons_zero, List.set_cons_succ, List.getElem?_cons_zero, List.getElem?_cons_succ] at z0 z1
    have hbF := below_go (below_go b0 hb1) hb2
    refine bodyPost_ret (v := .tuple #[.agg #[.slice none 0 0, .int .i64 0], .bool false]) (by simp [results, Try.results57, go_sem, z0, z1]) rfl ?_
    exact ⟨none, 0, rfl, Owned.nil intE_len _ _ _, by decide, (hbF.setCell (by simp) _).setCell (by simp) _⟩
  have h3 : 0 < rows.length := by omega
  obtain ⟨b1, o1, r0, rfl, hbb1, hr0, hcr0⟩ := h.at_str (k := 0) h3
  rw [Nat.add_zero] at hcr0
  have hr0z := hs r0 (List.mem_of_getElem? hr0)
  have h30 : ((rows.length : Int) == 0) = false := beq_eq_false_iff_ne.2 (by omega)
  have h3p : (0 : Int) < (rows.length : Int) := by omega
  have ER : Hid ((rows.getD 0 ByteArray.empty).size = r0.size) := Lib.hid (by rw [List.getD, hr0]; rfl)
  rcases h4 : inB bell 1 r0.size
  · have e0 : mbOk x y z rows l bell = false := by rw [E.out, h1, h2, ER.out, h4]; simp
    obtain ⟨e1, e2, e3⟩ := mb_f (s := s) e0
    rw [e1, e2, e3]
    clear e0 e1 e2 e3 hr0
    go_in
    go_wp2_with (first | (go_at_call 45; refine (spec_IdealStrikes rfl (h.up b0) (by omega) hs).mono ?_; rintro e w1 ⟨A1, c1, rfl, ho1, hn1, hb1⟩; rw [h1]; have KB := K0.up hb1; have HK1 := Lib.hid KB; clear KB K0) | (go_at_call 96; refine (spec_l21Good rfl ((g.up b0).up hb1) (by omega)).mono ?_; rintro e w2 ⟨rfl, hb2⟩; rw [h2]; have hcr := ((below_go (below_go b0 hb1) hb2).cell (p := ⟨b1, o1, none⟩) hbb1).trans hcr0; have KB := HK1.out.up hb2; have f0 := KB.frozen 0; have f1 := KB.frozen 1; have d0 := KB.cell 0; have d1 := KB.cell 1; simp only [List.getElem?_cons_zero, List.getElem?_cons_succ] at d0 d1; have HK := Lib.hid KB; clear KB) | (go_at_call 107; refine (spec_l1In _ _ _ _).mono ?_; rintro e w' ⟨rfl, rfl⟩; rw [h4]))
    have Z := (HK.out.set_ 0 (.slice none 0 0)).set_ 1 (.int .i64 0)
    have z0 := Z.cell 0; have z1 := Z.cell 1
    simp only [List.set_cons_zero, List.set_cons_succ, List.getElem?_cons_zero, List.getElem?_cons_succ] at z0 z1
    have hbF := below_go (below_go b0 hb1) hb2
    refine bodyPost_ret (v := .tuple #[.agg #[.slice none 0 0, .int .i64 0], .bool false]) (by simp [results, Try.results57, go_sem, z0, z1]) rfl ?_
    exact ⟨none, 0, rfl, Owned.nil intE_len _ _ _, by decide, (hbF.setCell (by simp) _).setCell (by simp) _⟩
  · have e0 : mbOk x y z rows l bell = true := by rw [E.out, h1, h2, decide_eq_true h3, ER.out, h4]; rfl
    obtain ⟨e1, e2, e3⟩ := mb_t (s := s) e0
    have EA : mbA x y z rows bell = ofBellR (idlR x y z rows) bell := by rw [idlR_t h1]; rfl
    rw [e1, e2, e3, EA]
    have lB := ofBell_len l bell
    have lA := ofBell_len (idlR x y z rows) bell
    have lI : (idlR x y z rows).length ≤ 6400 := by
      rw [idlR_t h1]
      have h5 : goodBeatB x y z = true ∧ goodRows rows = true ∧ goodStrikes (idl x y z rows rows.length) = true := by simpa [idlOk] using h1
      have := (goodStrikes_t h5.2.2).1
      omega
    clear e0 e1 e2 e3 hr0 EA
    go_in
    go_wp2_with (first | (go_at_call 45; refine (spec_IdealStrikes rfl (h.up b0) (by omega) hs).mono ?_; rintro e w1 ⟨A1, c1, rfl, ho1, hn1, hb1⟩; rw [h1]; have KB := K0.up hb1; have HK1 := Lib.hid KB; clear KB K0) | (go_at_call 96; refine (spec_l21Good rfl ((g.up b0).up hb1) (by omega)).mono ?_; rintro e w2 ⟨rfl, hb2⟩; rw [h2]; have hcr := ((below_go (below_go b0 hb1) hb2).cell (p := ⟨b1, o1, none⟩) hbb1).trans hcr0) | (go_at_call 107; refine (spec_l1In _ _ _ _).mono ?_; rintro e w' ⟨rfl, rfl⟩; rw [h4]))
    refine (spec_l21Of rfl (ho1.up hb2).recs (by omega)).mono ?_; rintro e w3 ⟨A3, c3, rfl, ho3, hb3⟩
    go_wp2_with fail
    refine (spec_l21Of rfl ((((g.up b0).up hb1).up hb2).up hb3) (by omega)).mono ?_; rintro e w4 ⟨A4, c4, rfl, ho4, hb4⟩
    go_wp2_with fail
    refine (spec_BestMatch rfl (ho3.up hb4).recs (by omega) rfl ho4.recs (by omega)).mono ?_; rintro e w5 ⟨A5, c5, rfl, ho5, hn5, hb5⟩
    have KB := ((HK1.out.up hb2).up hb3).up hb4 |>.up hb5
    have f0 := KB.frozen 0; have f1 := KB.frozen 1; have d0 := KB.cell 0; have d1 := KB.cell 1
    simp only [List.getElem?_cons_zero, List.getElem?_cons_succ] at d0 d1
    have HK := Lib.hid KB
    have HO := Lib.hid ho5
    have hbF := below_go (below_go (below_go (below_go (below_go b0 hb1) hb2) hb3) hb4) hb5
    have hbF4 := below_go (below_go (below_go (below_go b0 hb1) hb2) hb3) hb4
    have sz1 := hb1.size
    have sz2 := hb2.size; have sz3 := hb3.size; have sz4 := hb4.size
    simp only [World.size_alloc] at sz1
    clear KB ho5
    go_wp2
    have Z := (HK.out.set_ 0 (.slice A5 (bestOf (ofBellR (idlR x y z rows) bell) (ofBellR l bell) s).length c5)).set_ 1 (.int .i64 (bestCost (ofBellR (idlR x y z rows) bell) (ofBellR l bell) s))
    have z0 := Z.cell 0; have z1 := Z.cell 1
    simp only [List.set_cons_zero, List.set_cons_succ, List.getElem?_cons_zero, List.getElem?_cons_succ] at z0 z1
    refine bodyPost_ret (v := .tuple #[.agg #[.slice A5 (bestOf (ofBellR (idlR x y z rows) bell) (ofBellR l bell) s).length c5, .int .i64 (bestCost (ofBellR (idlR x y z rows) bell) (ofBellR l bell) s)], .bool (askedM (ofBellR (idlR x y z rows) bell) (ofBellR l bell) s)]) (by simp [results, Try.results57, go_sem, z0, z1]) rfl ?_
    have k1 := HO.out.kept (only_set w5 (p := ⟨w.heap.size + 1, 0, none⟩) (.slice A5 (bestOf (ofBellR (idlR x y z rows) bell) (ofBellR l bell) s).length c5)) (fun k hk e => by have := (HO.out.blk hk).1; simp at e; omega)
    have k2 := k1.kept (only_set _ (p := ⟨w.heap.size + 1, 1, none⟩) (.int .i64 (bestCost (ofBellR (idlR x y z rows) bell) (ofBellR l bell) s))) (fun k hk e => by have := (HO.out.blk hk).1; simp at e; omega)
    exact ⟨A5, c5, rfl, k2.base_le hbF4.size, hn5, (hbF.setCell (by simp) _).setCell (by simp) _⟩
end Go.Proofs.Ytcpfcgcdahhnjaa
