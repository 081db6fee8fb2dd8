/- The walk through the reference's reading of a line of a proof. -/
import Derived.Test.YtoheahbkopbmhaaDoorW20r
import Derived.StillTailTactics
namespace Go.Proofs.YtoheahbkopbmhaaDoor
set_option linter.unusedVariables false
set_option linter.unusedSimpArgs false
open Go.ChangeShapes Go.WideShapes Go.ChangeAt Go.RowKit Go.Deep
theorem lrV_no1 {y : ByteArray} (h : (splB 32 y).length ≠ 2) : lrV y = (⟨#[]⟩, 0, 0) ∧ lrOk y = false := by
  rw [lrV, lrOk]
  rcases hs : splB 32 y with _ | ⟨a, _ | ⟨b, _ | ⟨c, r⟩⟩⟩
  · exact ⟨rfl, rfl⟩
  · exact ⟨rfl, rfl⟩
  · rw [hs] at h; exact absurd rfl h
  · exact ⟨rfl, rfl⟩
theorem lrV_no2 {y a b : ByteArray} (e : splB 32 y = [a, b]) (h : (splB 46 b).length ≠ 2) : lrV y = (⟨#[]⟩, 0, 0) ∧ lrOk y = false := by
  rw [lrV, lrOk, e]
  simp only []
  rcases hs : splB 46 b with _ | ⟨c, _ | ⟨d, _ | ⟨f, r⟩⟩⟩
  · exact ⟨rfl, rfl⟩
  · exact ⟨rfl, rfl⟩
  · rw [hs] at h; exact absurd rfl h
  · exact ⟨rfl, rfl⟩
theorem lrV_yes {y a b c d : ByteArray} (e : splB 32 y = [a, b]) (f : splB 46 b = [c, d]) : lrV y = (a, l1V c, l1V d) ∧ lrOk y = true := by
  rw [lrV, lrOk, e]
  simp only []
  rw [f]
  exact ⟨rfl, rfl⟩
theorem two_of {l : List ByteArray} (h : l.length = 2) : ∃ a b, l = [a, b] := by
  rcases l with _ | ⟨a, _ | ⟨b, _ | ⟨c, r⟩⟩⟩
  · cases h
  · cases h
  · exact ⟨a, b, rfl⟩
  · simp at h
theorem turnL {P : Program} {f : FuncId} {args : Array Value} {w : World} {v : Value} (h : Calls P f args w fun e w' => e = .returned v ∧ w = w') : Calls P f args w fun e w' => e = .returned v ∧ w' = w :=
  h.mono fun _ _ ⟨he, hw⟩ => ⟨he, hw.symm⟩
set_option maxHeartbeats 1000000 in
set_option maxRecDepth 100000 in
theorem spec_l20Read {y : ByteArray} {w : World} (hz : y.size ≤ 1048576) :
    Calls Tryd.prog 10 #[.string y] w fun e w' => e = .returned (.tuple #[.agg #[.string (lrV y).1, .int .i64 (lrV y).2.1, .int .i64 (lrV y).2.2], .bool (lrOk y)]) ∧ Below w.heap.size w w' := by
  have b0 : Below w.heap.size w (w.alloc (.cells #[.string { data := #[] }, .int .i64 0, .int .i64 0] 33)) := by (repeat' (first | (with_reducible exact Below.refl _ _) | (with_reducible assumption) | (with_reducible refine below_drewN ?_ _) | (with_reducible refine Below.drew ?_) | (with_reducible refine below_alloc ?_ _) | (with_reducible refine Below.alloc ?_ ?_ _) | (with_reducible refine Below.setCell ?_ ?_ _) | (with_reducible refine below_go ?_ (by with_reducible assumption)) | (with_reducible refine below_then (by with_reducible assumption) ?_ ?_) | go_size))
  have K0 := Blk.at_ w 33 [.string { data := #[] }, .int .i64 0, .int .i64 0] (b := w.heap.size) rfl
  have hsb := splB_size (c := 32) y
  have hpl := pieces_len (c := 32) (s := y)
  obtain ⟨S, hS⟩ : ∃ S, S = splB 32 y := ⟨_, rfl⟩
  rw [← hS] at hsb hpl
  have HS := Lib.hid hS.symm
  clear hS
  go_in
  go_upto_region 1 with fail
  obtain ⟨w1, hw1⟩ : ∃ u, u = (w.alloc (.cells #[.string { data := #[] }, .int .i64 0, .int .i64 0] 33)) := ⟨_, rfl⟩
  rw [← hw1] at b0 K0 ⊢
  clear hw1
  go_wp2_with fail
  refine (spec_l1Split (c := 32) hz rfl).mono ?_; rw [HS.out]; rintro e w2 ⟨A2, c2, rfl, o2, hb2⟩
  have B2 := below_go b0 hb2
  have K2 := K0.up hb2
  have f0 := K2.frozen 0
  have f1 := K2.frozen 1
  have f2 := K2.frozen 2
  have hlt2 : w.heap.size < w2.heap.size := K2.lt
  by_cases h2 : S.length = 2
  · obtain ⟨a, b, rfl⟩ := two_of h2
    have hsa := hsb a (by simp)
    have hsB := hsb b (by simp)
    have hpl2 := pieces_len (c := 46) (s := b)
    have hsb2 := splB_size (c := 46) b
    obtain ⟨T, hT⟩ : ∃ T, T = splB 46 b := ⟨_, rfl⟩
    rw [← hT] at hpl2 hsb2
    have HT := Lib.hid hT.symm
    obtain ⟨g, rfl, g0, g1, gc, _⟩ := o2.at_ (by simp)
    have ca := gc 0 a 0 _ rfl rfl
    have cb := gc 1 b 0 _ rfl rfl
    simp only [Nat.add_zero, Nat.zero_mul, Nat.one_mul] at ca cb
    have CA := Lib.hid ca
    clear hT h2 gc hb2 K0 hsb hpl o2
    go_wp2_with fail
    refine (spec_l1Split (c := 46) (by omega) rfl).mono ?_; rw [HT.out]; rintro e w3 ⟨A3, c3, rfl, o3, hb3⟩
    have B3 := below_go B2 hb3
    have K3 := K2.up hb3
    have ca := (hb3.cell (p := ⟨g, 0, none⟩) g1).trans CA.out
    clear cb f0 f1 f2 CA
    have e0 := K3.cell 0; have e1 := K3.cell 1; have e2 := K3.cell 2
    simp only [List.getElem?_cons_zero, List.getElem?_cons_succ] at e0 e1 e2
    have f0 := K3.frozen 0
    have f1 := K3.frozen 1
    have f2 := K3.frozen 2
    by_cases h3 : T.length = 2
    · obtain ⟨c, d, rfl⟩ := two_of h3
      have hsc := hsb2 c (by simp)
      have hsd := hsb2 d (by simp)
      have HR := Lib.hid (lrV_yes HS.out HT.out)
      obtain ⟨g', rfl, g0', g1', gc', _⟩ := o3.at_ (by simp)
      have cc := gc' 0 c 0 _ rfl rfl
      have cd := gc' 1 d 0 _ rfl rfl
      simp only [Nat.add_zero, Nat.zero_mul, Nat.one_mul] at cc cd
      have hlt3 : w.heap.size < w3.heap.size := K3.lt
      clear h3 gc' hb3 K2 hsb2 hpl2 o3
      go_wp2
      clear e0 e1 e2
      obtain ⟨w4, hw4⟩ : ∃ u, u = w3 := ⟨_, rfl⟩
      rw [← hw4] at B3 K3 f0 f1 f2 ca cc cd hlt3 ⊢
      clear hw4
      refine wp_region_still_tail 12 (by kernel_rfl) (by kernel_rfl) ?_
      simp only [List.take_succ_cons, List.take_zero, List.drop_succ_cons, List.drop_zero]
      repeat still_step
      still_call (turnL (spec_l1Read (s := c) (by omega)))
      repeat still_step
      still_call (turnL (spec_l1Read (s := d) (by omega)))
      repeat still_step
      refine wpStill_nil ?_
      have K5 : Blk w4.drew w.heap.size 33 [.string { data := #[] }, .int .i64 0, .int .i64 0] := K3
      have B5 : Below w.heap.size w w4.drew := Below.drew B3
      have hlt5 : w.heap.size < w4.drew.heap.size := hlt3
      clear f0 f1 f2 K3 B3 hlt3
      change wpList _ _ _ _ _ w4.drew
      generalize w4.drew = w5 at K5 B5 hlt5 ⊢
      have f0 := K5.frozen 0
      have f1 := K5.frozen 1
      have f2 := K5.frozen 2
      have e0 := K5.cell 0; have e1 := K5.cell 1; have e2 := K5.cell 2
      simp only [List.getElem?_cons_zero, List.getElem?_cons_succ] at e0 e1 e2
      go_wp2
      clear e0 e1 e2
      have Z := ((K5.set_ 0 (.string a)).set_ 1 (.int .i64 (l1V c))).set_ 2 (.int .i64 (l1V d))
      have y0 := Z.cell 0; have y1 := Z.cell 1; have y2 := Z.cell 2
      simp only [List.set_cons_zero, List.set_cons_succ, List.getElem?_cons_zero, List.getElem?_cons_succ] at y0 y1 y2
      rw [HR.out.1, HR.out.2]
      refine bodyPost_ret (v := .tuple #[.agg #[.string a, .int .i64 (l1V c), .int .i64 (l1V d)], .bool true]) (by simp [results, Tryd.results10, go_sem, y0, y1, y2]; try rfl) rfl ?_
      exact ⟨rfl, by (repeat' (first | (with_reducible exact Below.refl _ _) | (with_reducible assumption) | (with_reducible refine below_drewN ?_ _) | (with_reducible refine Below.drew ?_) | (with_reducible refine below_alloc ?_ _) | (with_reducible refine Below.alloc ?_ ?_ _) | (with_reducible refine Below.setCell ?_ ?_ _) | (with_reducible refine below_go ?_ (by with_reducible assumption)) | (with_reducible refine below_then (by with_reducible assumption) ?_ ?_) | go_size))⟩
    · have hI : ((T.length : Int) != 2) = true := by rw [bne_iff_ne]; omega
      have HR := Lib.hid (lrV_no2 HS.out (by rw [HT.out]; exact h3))
      have hlt3 : w.heap.size < w3.heap.size := K3.lt
      clear hb3 K2 hsb2 hpl2 o3
      go_wp2
      clear e0 e1 e2
      have Z := ((K3.set_ 0 (.string ⟨#[]⟩)).set_ 1 (.int .i64 0)).set_ 2 (.int .i64 0)
      have y0 := Z.cell 0; have y1 := Z.cell 1; have y2 := Z.cell 2
      simp only [List.set_cons_zero, List.set_cons_succ, List.getElem?_cons_zero, List.getElem?_cons_succ] at y0 y1 y2
      rw [HR.out.1, HR.out.2]
      refine bodyPost_ret (v := .tuple #[.agg #[.string ⟨#[]⟩, .int .i64 0, .int .i64 0], .bool false]) (by simp [results, Tryd.results10, go_sem, y0, y1, y2]; try rfl) rfl ?_
      exact ⟨rfl, by (repeat' (first | (with_reducible exact Below.refl _ _) | (with_reducible assumption) | (with_reducible refine below_drewN ?_ _) | (with_reducible refine Below.drew ?_) | (with_reducible refine below_alloc ?_ _) | (with_reducible refine Below.alloc ?_ ?_ _) | (with_reducible refine Below.setCell ?_ ?_ _) | (with_reducible refine below_go ?_ (by with_reducible assumption)) | (with_reducible refine below_then (by with_reducible assumption) ?_ ?_) | go_size))⟩
  · have hI : ((S.length : Int) != 2) = true := by rw [bne_iff_ne]; omega
    have HR := Lib.hid (lrV_no1 (y := y) (by rw [HS.out]; exact h2))
    have e0 := K2.cell 0; have e1 := K2.cell 1; have e2 := K2.cell 2
    simp only [List.getElem?_cons_zero, List.getElem?_cons_succ] at e0 e1 e2
    clear hb2 K0 hsb hpl o2
    go_wp2
    clear e0 e1 e2
    have Z := ((K2.set_ 0 (.string ⟨#[]⟩)).set_ 1 (.int .i64 0)).set_ 2 (.int .i64 0)
    have y0 := Z.cell 0; have y1 := Z.cell 1; have y2 := Z.cell 2
    simp only [List.set_cons_zero, List.set_cons_succ, List.getElem?_cons_zero, List.getElem?_cons_succ] at y0 y1 y2
    rw [HR.out.1, HR.out.2]
    refine bodyPost_ret (v := .tuple #[.agg #[.string ⟨#[]⟩, .int .i64 0, .int .i64 0], .bool false]) (by simp [results, Tryd.results10, go_sem, y0, y1, y2]; try rfl) rfl ?_
    exact ⟨rfl, by (repeat' (first | (with_reducible exact Below.refl _ _) | (with_reducible assumption) | (with_reducible refine below_drewN ?_ _) | (with_reducible refine Below.drew ?_) | (with_reducible refine below_alloc ?_ _) | (with_reducible refine Below.alloc ?_ ?_ _) | (with_reducible refine Below.setCell ?_ ?_ _) | (with_reducible refine below_go ?_ (by with_reducible assumption)) | (with_reducible refine below_then (by with_reducible assumption) ?_ ?_) | go_size))⟩
end Go.Proofs.YtoheahbkopbmhaaDoor
