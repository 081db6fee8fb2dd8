/- Texts 6 of 6 that the claim leans on: plain laws and the walks' contracts, in order. -/
import Derived.Test.YtidolgonmimicaaGreatMFalse5
/- The walks through the draws of FnFalse. -/
namespace Go.Proofs.YtidolgonmimicaaGreat
set_option linter.unusedVariables false
set_option linter.unusedSimpArgs false
open Go.ChangeShapes Go.WideShapes Go.ChangeAt Go.RowKit Go.Deep
theorem drM_f {nm : ByteArray} {st : Nat} {L : List ByteArray} (h : drM nm st L) : nm.size ≤ 16777216 ∧ st ≤ 1000 ∧ L.length ≤ 1048576 ∧ (∀ s ∈ L, s.size ≤ 16777216) ∧ I64 (st : Int) := by
  obtain ⟨h1, h2, h3, h4, h5⟩ := h
  exact ⟨by omega, by omega, by omega, fun s hs => by have := h5 s hs; omega, by constructor <;> omega⟩
theorem cur_anyRow {A : Option Addr} {n c a p : Nat} {w0 w : World} (hS : Src w0 A n) (hb : Below w0.heap.size w0 w) (hp : w0.heap.size ≤ p) (hc : Cur w p A n c a) (ha : a ≤ 900000) :
    Calls Tryz.prog 97 #[.pointer (some ⟨p, 0, none⟩)] w fun e w' => ∃ r : ByteArray, e = .returned (.string r) ∧ r.size ≤ 10 ∧ Cur w' p A n c (a + 30) ∧ w.grownBy w' (some p) := by
  have HS := Lib.hid hS
  have G : Hid (∀ u : World, w.grownBy u (some p) → Below w0.heap.size w0 u) := Lib.hid (fun u hg => grown_below hb hp hg)
  go_in
  go_wp2_with fail
  refine (cur_stage hS hb hp hc (by omega)).mono ?_; rintro e w1 ⟨x, rfl, x3, x8, hc1, hg1⟩
  go_wp2_with fail
  refine (cur_row HS.out (G.out _ hg1) hp hc1 (by omega) x3 x8).mono ?_; rintro e w2 ⟨r, rfl, hr, hc2, hg2⟩
  have hg2 := grownBy_trans hg1 hg2
  have hrz : r.size ≤ 8 := by rw [hr.2]; exact x8
  go_wp2_with fail
  refine (cur_one HS.out (G.out _ hg2) hp hc2 (by omega) (by decide) (by decide)).mono ?_; rintro e w3 ⟨b, rfl, hc3, hg3⟩
  have hg3 := grownBy_trans hg2 hg3
  rcases b
  · go_wp2
    go_ret
    exact ⟨r, rfl, by omega, hc3.mono (by omega), hg3⟩
  · go_wp2_with fail
    refine (cur_spoilt HS.out (G.out _ hg3) hp hc3 (by omega) hrz (by decide) (by decide) (by decide)).mono ?_; rintro e w4 ⟨s, rfl, hs, hc4, hg4⟩
    go_wp2
    go_ret
    exact ⟨s, rfl, by omega, hc4.mono (by omega), grownBy_trans hg3 hg4⟩
set_option maxHeartbeats 4000000 in
set_option maxRecDepth 100000 in
theorem draw_IsFalseHead {A : Option Addr} {n c : Nat} {w : World} (hS : Src w A n) :
    Calls Tryz.prog 21 #[.slice A n c] w fun e w' => ∃ (nm : ByteArray) (st : Nat) (A1 : Option Addr) (n1 c1 : Nat) (L : List ByteArray) (f : ByteArray), e = .returned (.tuple #[.agg #[.string nm, .int .i64 st, .slice A1 n1 c1], .string f]) ∧ drM nm st L ∧ f.size ≤ 16 ∧ Owned strE 1 9 w' w.heap.size A1 n1 c1 L ∧ Below w.heap.size w w' := by
  have R0 := (Blk.at_ w 25 [.string ⟨#[]⟩, .int .i64 0, .slice none 0 0] (b := w.heap.size) rfl).alloc (.cells #[.slice A n c, .int .i64 0, .int .u64 0] 87)
  have c0 := cur_fresh (w.alloc (.cells #[.string ⟨#[]⟩, .int .i64 0, .slice none 0 0] 25)) A n c
  rw [show (w.alloc (.cells #[.string ⟨#[]⟩, .int .i64 0, .slice none 0 0] 25)).heap.size = w.heap.size + 1 by simp] at c0
  have b0 : Below w.heap.size w ((w.alloc (.cells #[.string ⟨#[]⟩, .int .i64 0, .slice none 0 0] 25)).alloc (.cells #[.slice A n c, .int .i64 0, .int .u64 0] 87)) := by (repeat' (first | (with_reducible exact Below.refl _ _) | (with_reducible assumption) | (with_reducible refine below_drewN ?_ _) | (with_reducible refine Below.drew ?_) | (with_reducible refine below_alloc ?_ _) | (with_reducible refine Below.alloc ?_ ?_ _) | (with_reducible refine Below.setCell ?_ ?_ _) | (with_reducible refine below_go ?_ (by with_reducible assumption)) | (with_reducible refine below_then (by with_reducible assumption) ?_ ?_) | go_size))
  have HS := Lib.hid hS
  have hp0 : w.heap.size ≤ w.heap.size + 1 := by omega
  clear hS
  go_in
  go_wp2_with fail
  obtain ⟨w1, hw1⟩ : ∃ u, u = (w.alloc (.cells #[.string ⟨#[]⟩, .int .i64 0, .slice none 0 0] 25)).alloc (.cells #[.slice A n c, .int .i64 0, .int .u64 0] 87) := ⟨_, rfl⟩
  have z1 : w1.heap.size = w.heap.size + 2 := by rw [hw1]; simp
  rw [← hw1] at b0 R0 c0 ⊢
  clear hw1
  refine (cur_anyMethod HS.out b0 hp0 c0 (by omega)).mono ?_; rintro e w2 ⟨nm, st, A2, m, c2, L, rfl, hdr, ho2, hc2, hg2⟩
  have s2 := hg2.size
  have K := Blk.at_ w2 25 [.string nm, .int .i64 (st : Int), .slice A2 m c2] (b := w2.heap.size) rfl
  have R := R0.grown hg2 (fun e => by injection e with e; omega)
  have HO := Lib.hid ho2
  have HB := Lib.hid (grown_below b0 hp0 hg2)
  have HC := Lib.hid hc2
  have HDR := Lib.hid hdr
  have hdf := drM_f hdr
  have HLl := Lib.hid ho2.len
  have a2 : Below w2.heap.size w2 (w2.alloc (.cells #[.string nm, .int .i64 (st : Int), .slice A2 m c2] 25)) := by (repeat' (first | (with_reducible exact Below.refl _ _) | (with_reducible assumption) | (with_reducible refine below_drewN ?_ _) | (with_reducible refine Below.drew ?_) | (with_reducible refine below_alloc ?_ _) | (with_reducible refine Below.alloc ?_ ?_ _) | (with_reducible refine Below.setCell ?_ ?_ _) | (with_reducible refine below_go ?_ (by with_reducible assumption)) | (with_reducible refine below_then (by with_reducible assumption) ?_ ?_) | go_size))
  replace R := R.up a2
  replace HO := Lib.hid (HO.out.up a2)
  replace HC := Lib.hid (HC.out.up a2)
  replace HB := Lib.hid (below_go HB.out a2)
  rw [z1] at HO
  obtain ⟨b, hb⟩ : ∃ b, b = w2.heap.size := ⟨_, rfl⟩
  have hbz : w.heap.size + 2 ≤ b := by omega
  clear R0 c0 b0 ho2 hc2 hg2 hdr a2 s2
  go_upto_region 3 with fail
  obtain ⟨w3, hw3⟩ : ∃ u, u = w2.alloc (.cells #[.string nm, .int .i64 (st : Int), .slice A2 m c2] 25) := ⟨_, rfl⟩
  rw [← hw3] at K HO HC HB R ⊢
  rw [← hb] at K ⊢
  clear hw3 hb z1
  have kc0 := K.cell 0; have kc1 := K.cell 1; have kc2 := K.cell 2
  simp only [List.getElem?_cons_zero, List.getElem?_cons_succ] at kc0 kc1 kc2
  go_wp2_with fail
  refine (spec_l4Good HLl.out HO.out.recs (by have := HLl.out; omega) hdf.2.2.2.1 hdf.1 hdf.2.2.2.2).mono ?_; rintro e w4 ⟨rfl, hb4⟩
  clear kc0 kc1 kc2
  replace K := K.up hb4
  replace R := R.up hb4
  replace HO := Lib.hid (HO.out.up hb4)
  replace HC := Lib.hid (HC.out.up hb4)
  replace HB := Lib.hid (below_go HB.out hb4)
  clear hb4
  rcases hgm : goodM nm (st : Int) L
  · skip
    have kc0 := K.cell 0; have kc1 := K.cell 1; have kc2 := K.cell 2
    simp only [List.getElem?_cons_zero, List.getElem?_cons_succ] at kc0 kc1 kc2
    have kd0 := R.cell 0; have kd1 := R.cell 1; have kd2 := R.cell 2
    have kf0 := R.frozen 0; have kf1 := R.frozen 1; have kf2 := R.frozen 2
    simp only [List.getElem?_cons_zero, List.getElem?_cons_succ] at kd0 kd1 kd2
    have Z := ((R.set_ 0 (.string nm)).set_ 1 (.int .i64 (st : Int))).set_ 2 (.slice A2 m c2)
    have y0 := Z.cell 0; have y1 := Z.cell 1; have y2 := Z.cell 2
    simp only [List.set_cons_zero, List.set_cons_succ, List.getElem?_cons_zero, List.getElem?_cons_succ] at y0 y1 y2
    have hbs := HB.out.size
    clear R K Z HC
    go_wp2_with fail
    refine bodyPost_ret (v := .tuple #[.agg #[.string nm, .int .i64 (st : Int), .slice A2 m c2], .string ⟨#[49, 50, 51, 52]⟩]) (by simp [results, Tryz.results21, go_sem, y0, y1, y2]) rfl ?_
    have hq := sets3_grown w4 w.heap.size (.string nm) (.int .i64 (st : Int)) (.slice A2 m c2)
    exact ⟨nm, st, A2, m, c2, L, ⟨#[49, 50, 51, 52]⟩, rfl, HDR.out, by decide, (HO.out.past hq (by omega)).base_le (by omega), HB.out.grown hq HB.out.size (fun k e => by injection e with e; omega)⟩
  · have hgs := goodM_st hgm
    have HGM := Lib.hid hgm
    clear hgm
    have kc0 := K.cell 0; have kc1 := K.cell 1; have kc2 := K.cell 2
    simp only [List.getElem?_cons_zero, List.getElem?_cons_succ] at kc0 kc1 kc2
    go_wp2_with fail
    refine (cur_row HS.out HB.out hp0 HC.out (by omega) hgs.1.1 hgs.1.2).mono ?_; rintro e w5 ⟨f, rfl, hf, hc5, hg5⟩
    have hfz : f.size ≤ 8 := by rw [hf.2]; exact hgs.1.2
    clear kc0 kc1 kc2
    replace K := K.grown hg5 (fun e => by injection e with e; omega)
    replace R := R.grown hg5 (fun e => by injection e with e; omega)
    replace HO := Lib.hid (HO.out.past hg5 (by omega))
    replace HB := Lib.hid (grown_below HB.out hp0 hg5)
    replace HC := Lib.hid hc5
    clear hg5 hc5
    go_wp2_with fail
    refine (cur_one HS.out HB.out hp0 HC.out (by omega) (by decide) (by decide)).mono ?_; rintro e w6 ⟨b1, rfl, hc6, hg6⟩
    replace K := K.grown hg6 (fun e => by injection e with e; omega)
    replace R := R.grown hg6 (fun e => by injection e with e; omega)
    replace HO := Lib.hid (HO.out.past hg6 (by omega))
    replace HB := Lib.hid (grown_below HB.out hp0 hg6)
    replace HC := Lib.hid hc6
    clear hg6 hc6
    rcases b1
    · skip
      go_wp2_with fail
      refine (cur_one HS.out HB.out hp0 HC.out (by omega) (by decide) (by decide)).mono ?_; rintro e w8 ⟨b2, rfl, hc8, hg8⟩
      replace K := K.grown hg8 (fun e => by injection e with e; omega)
      replace R := R.grown hg8 (fun e => by injection e with e; omega)
      replace HO := Lib.hid (HO.out.past hg8 (by omega))
      replace HB := Lib.hid (grown_below HB.out hp0 hg8)
      replace HC := Lib.hid hc8
      clear hg8 hc8
      rcases b2
      · skip
        have kc0 := K.cell 0; have kc1 := K.cell 1; have kc2 := K.cell 2
        simp only [List.getElem?_cons_zero, List.getElem?_cons_succ] at kc0 kc1 kc2
        have kd0 := R.cell 0; have kd1 := R.cell 1; have kd2 := R.cell 2
        have kf0 := R.frozen 0; have kf1 := R.frozen 1; have kf2 := R.frozen 2
        simp only [List.getElem?_cons_zero, List.getElem?_cons_succ] at kd0 kd1 kd2
        have Z := ((R.set_ 0 (.string nm)).set_ 1 (.int .i64 (st : Int))).set_ 2 (.slice A2 m c2)
        have y0 := Z.cell 0; have y1 := Z.cell 1; have y2 := Z.cell 2
        simp only [List.set_cons_zero, List.set_cons_succ, List.getElem?_cons_zero, List.getElem?_cons_succ] at y0 y1 y2
        have hbs := HB.out.size
        clear R K Z HC
        go_wp2_with fail
        refine bodyPost_ret (v := .tuple #[.agg #[.string nm, .int .i64 (st : Int), .slice A2 m c2], .string f]) (by simp [results, Tryz.results21, go_sem, y0, y1, y2]) rfl ?_
        have hq := sets3_grown w8 w.heap.size (.string nm) (.int .i64 (st : Int)) (.slice A2 m c2)
        exact ⟨nm, st, A2, m, c2, L, f, rfl, HDR.out, by omega, (HO.out.past hq (by omega)).base_le (by omega), HB.out.grown hq HB.out.size (fun k e => by injection e with e; omega)⟩
      · go_wp2_with fail
        refine (cur_anyRow HS.out HB.out hp0 HC.out (by omega)).mono ?_; rintro e w9 ⟨r, rfl, hr, hc9, hg9⟩
        replace K := K.grown hg9 (fun e => by injection e with e; omega)
        replace R := R.grown hg9 (fun e => by injection e with e; omega)
        replace HO := Lib.hid (HO.out.past hg9 (by omega))
        replace HB := Lib.hid (grown_below HB.out hp0 hg9)
        replace HC := Lib.hid hc9
        clear hg9 hc9
        have kc0 := K.cell 0; have kc1 := K.cell 1; have kc2 := K.cell 2
        simp only [List.getElem?_cons_zero, List.getElem?_cons_succ] at kc0 kc1 kc2
        have kd0 := R.cell 0; have kd1 := R.cell 1; have kd2 := R.cell 2
        have kf0 := R.frozen 0; have kf1 := R.frozen 1; have kf2 := R.frozen 2
        simp only [List.getElem?_cons_zero, List.getElem?_cons_succ] at kd0 kd1 kd2
        have Z := ((R.set_ 0 (.string nm)).set_ 1 (.int .i64 (st : Int))).set_ 2 (.slice A2 m c2)
        have y0 := Z.cell 0; have y1 := Z.cell 1; have y2 := Z.cell 2
        simp only [List.set_cons_zero, List.set_cons_succ, List.getElem?_cons_zero, List.getElem?_cons_succ] at y0 y1 y2
        have hbs := HB.out.size
        clear R K Z HC
        go_wp2_with fail
        refine bodyPost_ret (v := .tuple #[.agg #[.string nm, .int .i64 (st : Int), .slice A2 m c2], .string r]) (by simp [results, Tryz.results21, go_sem, y0, y1, y2]) rfl ?_
        have hq := sets3_grown w9 w.heap.size (.string nm) (.int .i64 (st : Int)) (.slice A2 m c2)
        exact ⟨nm, st, A2, m, c2, L, r, rfl, HDR.out, by omega, (HO.out.past hq (by omega)).base_le (by omega), HB.out.grown hq HB.out.size (fun k e => by injection e with e; omega)⟩
    · skip
      have kc0 := K.cell 0; have kc1 := K.cell 1; have kc2 := K.cell 2
      simp only [List.getElem?_cons_zero, List.getElem?_cons_succ] at kc0 kc1 kc2
      go_wp2_with fail
      refine (spec_l11Heads HLl.out HO.out.recs (by have := HLl.out; omega) hdf.2.2.2.1 hdf.1 hdf.2.1 HGM.out).mono ?_; rintro e w7 ⟨A7, m7, c7, rfl, ho7, hm7, hb7⟩
      have HO7 := Lib.hid ho7
      have hs6 := HB.out.size
      have hs6' := HO.out.cap
      clear kc0 kc1 kc2 ho7
      have hs7 := hb7.size
      have hp7 : w.heap.size + 1 < w6.heap.size := HC.out.lt
      replace K := K.up hb7
      replace R := R.up hb7
      replace HO := Lib.hid (HO.out.up hb7)
      replace HC := Lib.hid (HC.out.up hb7)
      replace HB := Lib.hid (below_go HB.out hb7)
      clear hb7
      have hpos : 0 < m7 := by
        have h1 := HO7.out.len
        have h2 : roundsS st ∈ falS (leadL st L) := falS_mem.2 (falL_rounds (leadL_row hgs.1.1 hgs.1.2 L) (fun e => by
          have := leadL_len st L
          rw [e] at this
          simp at this; omega))
        rw [← h1]
        exact List.length_pos_of_mem h2
      go_wp2_with fail
      refine (cur_pickL HS.out HB.out hp0 HC.out (by omega) (by omega) (by omega)).mono ?_; rintro e w8 ⟨x, rfl, ⟨x0, x1⟩, hc8, hg8⟩
      obtain ⟨X, rfl⟩ := Int.eq_ofNat_of_zero_le x0
      have hX : X < m7 := by omega
      have HO8 := Lib.hid (HO7.out.past hg8 (by omega))
      clear x0 x1
      replace K := K.grown hg8 (fun e => by injection e with e; omega)
      replace R := R.grown hg8 (fun e => by injection e with e; omega)
      replace HO := Lib.hid (HO.out.past hg8 (by omega))
      replace HB := Lib.hid (grown_below HB.out hp0 hg8)
      replace HC := Lib.hid hc8
      clear hg8 hc8
      obtain ⟨g7, rfl, _, _, gc7, _⟩ := HO8.out.at_ (by omega)
      obtain ⟨y, hy⟩ := some_of_lt (l := falS (leadL st L)) (k := X) (by rw [HO8.out.len]; exact hX)
      have cy := gc7 X y 0 _ hy rfl
      simp only [Nat.mul_one, Nat.add_zero] at cy
      have hyz : y.size ≤ 8 := by
        have h1 := (falL_row (leadL_row hgs.1.1 hgs.1.2 L) y (falS_mem.1 (List.mem_of_getElem? hy))).2
        omega
      clear gc7 hy HO7
      go_wp2_with fail
      refine (cur_one HS.out HB.out hp0 HC.out (by omega) (by decide) (by decide)).mono ?_; rintro e w8 ⟨b2, rfl, hc8, hg8⟩
      replace K := K.grown hg8 (fun e => by injection e with e; omega)
      replace R := R.grown hg8 (fun e => by injection e with e; omega)
      replace HO := Lib.hid (HO.out.past hg8 (by omega))
      replace HB := Lib.hid (grown_below HB.out hp0 hg8)
      replace HC := Lib.hid hc8
      clear hg8 hc8
      rcases b2
      · skip
        have kc0 := K.cell 0; have kc1 := K.cell 1; have kc2 := K.cell 2
        simp only [List.getElem?_cons_zero, List.getElem?_cons_succ] at kc0 kc1 kc2
        have kd0 := R.cell 0; have kd1 := R.cell 1; have kd2 := R.cell 2
        have kf0 := R.frozen 0; have kf1 := R.frozen 1; have kf2 := R.frozen 2
        simp only [List.getElem?_cons_zero, List.getElem?_cons_succ] at kd0 kd1 kd2
        have Z := ((R.set_ 0 (.string nm)).set_ 1 (.int .i64 (st : Int))).set_ 2 (.slice A2 m c2)
        have y0 := Z.cell 0; have y1 := Z.cell 1; have y2 := Z.cell 2
        simp only [List.set_cons_zero, List.set_cons_succ, List.getElem?_cons_zero, List.getElem?_cons_succ] at y0 y1 y2
        have hbs := HB.out.size
        clear R K Z HC
        go_wp2_with fail
        refine bodyPost_ret (v := .tuple #[.agg #[.string nm, .int .i64 (st : Int), .slice A2 m c2], .string y]) (by simp [results, Tryz.results21, go_sem, y0, y1, y2]) rfl ?_
        have hq := sets3_grown w8 w.heap.size (.string nm) (.int .i64 (st : Int)) (.slice A2 m c2)
        exact ⟨nm, st, A2, m, c2, L, y, rfl, HDR.out, by omega, (HO.out.past hq (by omega)).base_le (by omega), HB.out.grown hq HB.out.size (fun k e => by injection e with e; omega)⟩
      · go_wp2_with fail
        refine (cur_anyRow HS.out HB.out hp0 HC.out (by omega)).mono ?_; rintro e w9 ⟨r, rfl, hr, hc9, hg9⟩
        replace K := K.grown hg9 (fun e => by injection e with e; omega)
        replace R := R.grown hg9 (fun e => by injection e with e; omega)
        replace HO := Lib.hid (HO.out.past hg9 (by omega))
        replace HB := Lib.hid (grown_below HB.out hp0 hg9)
        replace HC := Lib.hid hc9
        clear hg9 hc9
        have kc0 := K.cell 0; have kc1 := K.cell 1; have kc2 := K.cell 2
        simp only [List.getElem?_cons_zero, List.getElem?_cons_succ] at kc0 kc1 kc2
        have kd0 := R.cell 0; have kd1 := R.cell 1; have kd2 := R.cell 2
        have kf0 := R.frozen 0; have kf1 := R.frozen 1; have kf2 := R.frozen 2
        simp only [List.getElem?_cons_zero, List.getElem?_cons_succ] at kd0 kd1 kd2
        have Z := ((R.set_ 0 (.string nm)).set_ 1 (.int .i64 (st : Int))).set_ 2 (.slice A2 m c2)
        have y0 := Z.cell 0; have y1 := Z.cell 1; have y2 := Z.cell 2
        simp only [List.set_cons_zero, List.set_cons_succ, List.getElem?_cons_zero, List.getElem?_cons_succ] at y0 y1 y2
        have hbs := HB.out.size
        clear R K Z HC
        go_wp2_with fail
        refine bodyPost_ret (v := .tuple #[.agg #[.string nm, .int .i64 (st : Int), .slice A2 m c2], .string r]) (by simp [results, Tryz.results21, go_sem, y0, y1, y2]) rfl ?_
        have hq := sets3_grown w9 w.heap.size (.string nm) (.int .i64 (st : Int)) (.slice A2 m c2)
        exact ⟨nm, st, A2, m, c2, L, r, rfl, HDR.out, by omega, (HO.out.past hq (by omega)).base_le (by omega), HB.out.grown hq HB.out.size (fun k e => by injection e with e; omega)⟩
end Go.Proofs.YtidolgonmimicaaGreat
/- The walk of the reference's l4Start: a method begun at another change. -/
namespace Go.Proofs.YtidolgonmimicaaGreat
set_option linter.unusedVariables false
set_option linter.unusedSimpArgs false
open Go.ChangeShapes Go.WideShapes Go.ChangeAt Go.RowKit Go.Deep
theorem sets3_at (u : World) (r : Nat) (a b c : Value) : u.grownBy (((u.setCell ⟨r, 0, none⟩ a).setCell ⟨r, 1, none⟩ b).setCell ⟨r, 2, none⟩ c) (some r) :=
  grownBy_trans (grownBy_trans (only_set _ (p := ⟨r, 0, none⟩) _) (only_set _ (p := ⟨r, 1, none⟩) _)) (only_set _ (p := ⟨r, 2, none⟩) _)
set_option maxHeartbeats 2000000 in
set_option maxRecDepth 100000 in
theorem spec_l4Start {g o n c st k : Nat} {nm : ByteArray} {l : List ByteArray} {w : World} (hn : l.length = n) (h : Strs w (some ⟨g, o, none⟩) l) (hz : n ≤ 1048576) (hk : k < n) (hcap : n ≤ c) (hc63 : c ≤ 9223372036854775807) :
    Calls Tryz.prog 110 #[.agg #[.string nm, .int .i64 st, .slice (some ⟨g, o, none⟩) n c], .int .i64 k] w fun e w' => ∃ A' c', e = .returned (.agg #[.string nm, .int .i64 st, .slice A' n c']) ∧ Owned strE 1 9 w' w.heap.size A' n c' (l.drop k ++ l.take k) ∧ Below w.heap.size w w' := by
  have b0 : Below w.heap.size w ((w.alloc (.cells ⟨[.string nm, .int .i64 st, .slice (some ⟨g, o, none⟩) n c]⟩ 25)).alloc (.cells ⟨[.string { data := #[] }, .int .i64 0, .slice none 0 0]⟩ 25)) := by (repeat' (first | (with_reducible exact Below.refl _ _) | (with_reducible assumption) | (with_reducible refine below_drewN ?_ _) | (with_reducible refine Below.drew ?_) | (with_reducible refine below_alloc ?_ _) | (with_reducible refine Below.alloc ?_ ?_ _) | (with_reducible refine Below.setCell ?_ ?_ _) | (with_reducible refine below_go ?_ (by with_reducible assumption)) | (with_reducible refine below_then (by with_reducible assumption) ?_ ?_) | go_size))
  have K0 := (Blk.at_ w 25 [.string nm, .int .i64 st, .slice (some ⟨g, o, none⟩) n c] (b := w.heap.size) rfl).alloc (.cells ⟨[.string { data := #[] }, .int .i64 0, .slice none 0 0]⟩ 25)
  have R0 := Blk.at_ (w.alloc (.cells ⟨[.string nm, .int .i64 st, .slice (some ⟨g, o, none⟩) n c]⟩ 25)) 25 [.string { data := #[] }, .int .i64 0, .slice none 0 0] (b := w.heap.size + 1) (by simp)
  have H0 := h.up b0
  have T1 := Lib.hid (show (l.drop k).length = n - k by rw [List.length_drop, hn])
  have T2 := Lib.hid (show (l.take k).length = k by rw [List.length_take]; omega)
  have HKN := Lib.hid (show n - k + k = n by omega)
  go_in
  go_upto_region 1 with fail
  obtain ⟨w0, hw0⟩ : ∃ u, u = ((w.alloc (.cells #[.string nm, .int .i64 st, .slice (some ⟨g, o, none⟩) n c] 25)).alloc (.cells #[.string { data := #[] }, .int .i64 0, .slice none 0 0] 25)) := ⟨_, rfl⟩
  have z0 : w0.heap.size = w.heap.size + 2 := by rw [hw0]; simp
  rw [← hw0] at b0 K0 R0 H0 ⊢
  clear hw0
  have R1 : Hid (Strs w0 (some ⟨g, o + k, none⟩) (l.drop k)) := Lib.hid (by
    have := H0.part k n (by omega) (by omega)
    rw [Nat.mul_one, List.take_of_length_le (by rw [List.length_drop]; omega)] at this; exact this)
  have R2 : Hid (Strs w0 (some ⟨g, o, none⟩) (l.take k)) := Lib.hid (by
    have := H0.part 0 k (Nat.zero_le _) (by omega)
    simpa using this)
  have carry : Hid (∀ u : World, Below w0.heap.size w0 u → u.cell? ⟨w.heap.size, 0, none⟩ = some (.string nm) ∧ u.cell? ⟨w.heap.size, 1, none⟩ = some (.int .i64 st) ∧ u.cell? ⟨w.heap.size, 2, none⟩ = some (.slice (some ⟨g, o, none⟩) n c)) := Lib.hid (fun u hu => by
    have L0 := K0.up hu
    exact ⟨by simpa using L0.cell 0, by simpa using L0.cell 1, by simpa using L0.cell 2⟩)
  have carR : Hid (∀ u : World, Below w0.heap.size w0 u → (u.cell? ⟨w.heap.size + 1, 0, none⟩ = some (.string { data := #[] }) ∧ u.cell? ⟨w.heap.size + 1, 1, none⟩ = some (.int .i64 0) ∧ u.cell? ⟨w.heap.size + 1, 2, none⟩ = some (.slice none 0 0)) ∧ u.frozen? ⟨w.heap.size + 1, 0, none⟩ = false ∧ u.frozen? ⟨w.heap.size + 1, 1, none⟩ = false ∧ u.frozen? ⟨w.heap.size + 1, 2, none⟩ = false) := Lib.hid (fun u hu => by
    have L0 := R0.up hu
    exact ⟨⟨by simpa using L0.cell 0, by simpa using L0.cell 1, by simpa using L0.cell 2⟩, L0.frozen 0, L0.frozen 1, L0.frozen 2⟩)
  have RB := Lib.hid (fun (u : World) (hu : Below w0.heap.size w0 u) => R0.up hu)
  have carS : Hid (∀ (u : World) (a b d : Value), Below w0.heap.size w0 u → (((u.setCell ⟨w.heap.size + 1, 0, none⟩ a).setCell ⟨w.heap.size + 1, 1, none⟩ b).setCell ⟨w.heap.size + 1, 2, none⟩ d).cell? ⟨w.heap.size, 0, none⟩ = some (.string nm) ∧ (((u.setCell ⟨w.heap.size + 1, 0, none⟩ a).setCell ⟨w.heap.size + 1, 1, none⟩ b).setCell ⟨w.heap.size + 1, 2, none⟩ d).cell? ⟨w.heap.size, 1, none⟩ = some (.int .i64 st) ∧ (((u.setCell ⟨w.heap.size + 1, 0, none⟩ a).setCell ⟨w.heap.size + 1, 1, none⟩ b).setCell ⟨w.heap.size + 1, 2, none⟩ d).cell? ⟨w.heap.size, 2, none⟩ = some (.slice (some ⟨g, o, none⟩) n c)) := Lib.hid (fun u a b d hu => by
    have L0 := (K0.up hu).grown (grownBy_trans (grownBy_trans (only_set u (p := ⟨w.heap.size + 1, 0, none⟩) a) (only_set _ (p := ⟨w.heap.size + 1, 1, none⟩) b)) (only_set _ (p := ⟨w.heap.size + 1, 2, none⟩) d)) (fun e => by injection e with e; dsimp only at e; omega)
    exact ⟨by simpa using L0.cell 0, by simpa using L0.cell 1, by simpa using L0.cell 2⟩)
  have hw : IntKind.i64.wrap (k : Int) = (k : Int) := wrap_id (by omega)
  have hw2 : wrap64 (k : Int) = (k : Int) := by unfold wrap64; omega
  have hle1 : (k : Int) ≤ (c : Int) := by omega
  have hle2 : (k : Int) ≤ (n : Int) := by omega
  have hle3 : (n : Int) ≤ (c : Int) := by omega
  have hne : ¬ c = k := by omega
  have hne2 : ¬ c - k = 0 := by omega
  clear h H0 K0 R0 hn
  go_region_held3 (fun u => u.cell? ⟨w.heap.size, 0, none⟩ = some (.string nm) ∧ u.cell? ⟨w.heap.size, 1, none⟩ = some (.int .i64 st) ∧ u.cell? ⟨w.heap.size, 2, none⟩ = some (.slice (some ⟨g, o, none⟩) n c)) (first | exact carS.out _ _ _ _ hbW | exact carry.out _ hbW | exact carry.out _ hbY | exact carry.out _ (Below.refl _ _).drew | exact carry.out _ (Below.refl _ _)) (first
    | (go_at_call 151; refine (spec_l1OwnS T1.out R1.out.drew (by omega)).mono ?_; rintro e w3 ⟨A3, c3, rfl, o3, hbd⟩; have hbY := below_of_drew hbd; have O3 := Lib.hid o3; have R3 := Lib.hid (R2.out.up hbY); have hs3 := hbY.size)
    | (refine step_append_recs Tryz.elStr strE_one rfl (.tmp 13) (.tmp 17) rfl (by rfl) O3.out (by rfl) R3.out T2.out ?_ (by decide) ?_ ?_; (focus (omega)); (focus (simpa using hs3)); intro A4 c4 w4 o4 hg4 hl4; have hbW : Below w0.heap.size w0 w4 := hbY.grown hg4 hbY.size (fun z hz => (O3.out.blk hz).1); have O4 := Lib.hid o4; have z := carR.out _ hbW; obtain ⟨⟨z1, z2, z3⟩, f1, f2, f3⟩ := z))
  have L4 := RB.out _ hbW
  have Z := ((L4.set_ 0 (.string nm)).set_ 1 (.int .i64 (st : Int))).set_ 2 (.slice A4 (n - k + k) c4)
  have y0 := Z.cell 0; have y1 := Z.cell 1; have y2 := Z.cell 2
  simp only [List.set_cons_zero, List.set_cons_succ, List.getElem?_cons_zero, List.getElem?_cons_succ] at y0 y1 y2
  have hq := sets3_at w4 (w.heap.size + 1) (.string nm) (.int .i64 (st : Int)) (.slice A4 (n - k + k) c4)
  have hO := (O4.out.base_le (show w0.heap.size ≤ w0.heap.size by omega)).past hq (show w.heap.size + 1 < w0.heap.size by omega)
  have hB := (below_go b0 hbW).grown hq (below_go b0 hbW).size (fun z hz => by injection hz with hz; omega)
  go_wp2_with fail
  refine bodyPost_ret (v := .agg #[.string nm, .int .i64 (st : Int), .slice A4 (n - k + k) c4]) (by simp [results, Tryz.results110, go_sem, y0, y1, y2]) rfl ?_
  rw [HKN.out] at hO hB ⊢
  exact ⟨_, _, rfl, hO.base_le (by omega), hB⟩
end Go.Proofs.YtidolgonmimicaaGreat
/- The walk through the draw of two methods whose false lead heads are compared. -/
namespace Go.Proofs.YtidolgonmimicaaGreat
set_option linter.unusedVariables false
set_option linter.unusedSimpArgs false
open Go.ChangeShapes Go.WideShapes Go.ChangeAt Go.RowKit Go.Deep
theorem rot_small {L : List ByteArray} {k B : Nat} (h : ∀ s ∈ L, s.size ≤ B) : ∀ s ∈ L.drop k ++ L.take k, s.size ≤ B := fun s hs =>
  (List.mem_append.1 hs).elim (fun q => h s (List.mem_of_mem_drop q)) (fun q => h s (List.mem_of_mem_take q))
set_option maxHeartbeats 4000000 in
set_option maxRecDepth 100000 in
theorem draw_SameFalse {A : Option Addr} {n c : Nat} {w : World} (hS : Src w A n) :
    Calls Tryz.prog 30 #[.slice A n c] w fun e w' => ∃ (na : ByteArray) (sa : Nat) (A1 : Option Addr) (n1 c1 : Nat) (La : List ByteArray) (nb : ByteArray) (sb : Nat) (A2 : Option Addr) (n2 c2 : Nat) (Lb : List ByteArray), e = .returned (.tuple #[.agg #[.string na, .int .i64 sa, .slice A1 n1 c1], .agg #[.string nb, .int .i64 sb, .slice A2 n2 c2]]) ∧ drM na sa La ∧ drM nb sb Lb ∧ Owned strE 1 9 w' w.heap.size A1 n1 c1 La ∧ Owned strE 1 9 w' w.heap.size A2 n2 c2 Lb ∧ Below w.heap.size w w' := by
  have R0 := ((Blk.at_ w 25 [.string ⟨#[]⟩, .int .i64 0, .slice none 0 0] (b := w.heap.size) rfl).alloc (.cells #[.string ⟨#[]⟩, .int .i64 0, .slice none 0 0] 25)).alloc (.cells #[.slice A n c, .int .i64 0, .int .u64 0] 87)
  have Q0 := (Blk.at_ (w.alloc (.cells #[.string ⟨#[]⟩, .int .i64 0, .slice none 0 0] 25)) 25 [.string ⟨#[]⟩, .int .i64 0, .slice none 0 0] (b := w.heap.size + 1) (by simp)).alloc (.cells #[.slice A n c, .int .i64 0, .int .u64 0] 87)
  have c0 := cur_fresh ((w.alloc (.cells #[.string ⟨#[]⟩, .int .i64 0, .slice none 0 0] 25)).alloc (.cells #[.string ⟨#[]⟩, .int .i64 0, .slice none 0 0] 25)) A n c
  rw [show ((w.alloc (.cells #[.string ⟨#[]⟩, .int .i64 0, .slice none 0 0] 25)).alloc (.cells #[.string ⟨#[]⟩, .int .i64 0, .slice none 0 0] 25)).heap.size = w.heap.size + 2 by simp] at c0
  have b0 : Below w.heap.size w (((w.alloc (.cells #[.string ⟨#[]⟩, .int .i64 0, .slice none 0 0] 25)).alloc (.cells #[.string ⟨#[]⟩, .int .i64 0, .slice none 0 0] 25)).alloc (.cells #[.slice A n c, .int .i64 0, .int .u64 0] 87)) := by (repeat' (first | (with_reducible exact Below.refl _ _) | (with_reducible assumption) | (with_reducible refine below_drewN ?_ _) | (with_reducible refine Below.drew ?_) | (with_reducible refine below_alloc ?_ _) | (with_reducible refine Below.alloc ?_ ?_ _) | (with_reducible refine Below.setCell ?_ ?_ _) | (with_reducible refine below_go ?_ (by with_reducible assumption)) | (with_reducible refine below_then (by with_reducible assumption) ?_ ?_) | go_size))
  have HS := Lib.hid hS
  have hp0 : w.heap.size ≤ w.heap.size + 2 := by omega
  clear hS
  go_in
  go_wp2_with fail
  obtain ⟨w1, hw1⟩ : ∃ u, u = ((w.alloc (.cells #[.string ⟨#[]⟩, .int .i64 0, .slice none 0 0] 25)).alloc (.cells #[.string ⟨#[]⟩, .int .i64 0, .slice none 0 0] 25)).alloc (.cells #[.slice A n c, .int .i64 0, .int .u64 0] 87) := ⟨_, rfl⟩
  have z1 : w1.heap.size = w.heap.size + 3 := by rw [hw1]; simp
  rw [← hw1] at b0 R0 Q0 c0 ⊢
  clear hw1
  refine (cur_anyMethod HS.out b0 hp0 c0 (by omega)).mono ?_; rintro e w2 ⟨nm, st, A2, m, c2, L, rfl, hdr, ho2, hc2, hg2⟩
  have s2 := hg2.size
  have K := Blk.at_ w2 25 [.string nm, .int .i64 (st : Int), .slice A2 m c2] (b := w2.heap.size) rfl
  have R := R0.grown hg2 (fun e => by injection e with e; omega)
  have Y := Q0.grown hg2 (fun e => by injection e with e; omega)
  have HO := Lib.hid ho2
  have HB := Lib.hid (grown_below b0 hp0 hg2)
  have HC := Lib.hid hc2
  have HDR := Lib.hid hdr
  have hdf := drM_f hdr
  have HLl := Lib.hid ho2.len
  have a2 : Below w2.heap.size w2 (w2.alloc (.cells #[.string nm, .int .i64 (st : Int), .slice A2 m c2] 25)) := by (repeat' (first | (with_reducible exact Below.refl _ _) | (with_reducible assumption) | (with_reducible refine below_drewN ?_ _) | (with_reducible refine Below.drew ?_) | (with_reducible refine below_alloc ?_ _) | (with_reducible refine Below.alloc ?_ ?_ _) | (with_reducible refine Below.setCell ?_ ?_ _) | (with_reducible refine below_go ?_ (by with_reducible assumption)) | (with_reducible refine below_then (by with_reducible assumption) ?_ ?_) | go_size))
  replace R := R.up a2
  replace Y := Y.up a2
  replace HO := Lib.hid (HO.out.up a2)
  replace HC := Lib.hid (HC.out.up a2)
  replace HB := Lib.hid (below_go HB.out a2)
  rw [z1] at HO
  obtain ⟨b, hb⟩ : ∃ b, b = w2.heap.size := ⟨_, rfl⟩
  have hbz : w.heap.size + 3 ≤ b := by omega
  clear R0 Q0 c0 b0 ho2 hc2 hg2 hdr a2 s2
  go_upto_region 3 with fail
  obtain ⟨w3, hw3⟩ : ∃ u, u = w2.alloc (.cells #[.string nm, .int .i64 (st : Int), .slice A2 m c2] 25) := ⟨_, rfl⟩
  rw [← hw3] at K HO HC HB R Y ⊢
  rw [← hb] at K ⊢
  clear hw3 hb z1
  go_wp2_with fail
  have hb3 : b < w3.heap.size := K.lt
  refine (cur_anyMethod HS.out HB.out hp0 HC.out (by omega)).mono ?_; rintro e w4 ⟨nb, sb, A4, m4, c4, L4, rfl, hdr4, ho4, hc4, hg4⟩
  have HP := Lib.hid (ho4.base_le (show w.heap.size + 3 ≤ w3.heap.size by omega))
  have HDR4 := Lib.hid hdr4
  have s4 := hg4.size
  replace K := K.grown hg4 (fun e => by injection e with e; omega)
  replace R := R.grown hg4 (fun e => by injection e with e; omega)
  replace Y := Y.grown hg4 (fun e => by injection e with e; omega)
  replace HO := Lib.hid (HO.out.past hg4 (by omega))
  replace HB := Lib.hid (grown_below HB.out hp0 hg4)
  replace HC := Lib.hid hc4
  have J := Blk.at_ w4 25 [.string nb, .int .i64 (sb : Int), .slice A4 m4 c4] (b := w4.heap.size) rfl
  have a4 : Below w4.heap.size w4 (w4.alloc (.cells #[.string nb, .int .i64 (sb : Int), .slice A4 m4 c4] 25)) := by (repeat' (first | (with_reducible exact Below.refl _ _) | (with_reducible assumption) | (with_reducible refine below_drewN ?_ _) | (with_reducible refine Below.drew ?_) | (with_reducible refine below_alloc ?_ _) | (with_reducible refine Below.alloc ?_ ?_ _) | (with_reducible refine Below.setCell ?_ ?_ _) | (with_reducible refine below_go ?_ (by with_reducible assumption)) | (with_reducible refine below_then (by with_reducible assumption) ?_ ?_) | go_size))
  replace K := K.up a4
  replace R := R.up a4
  replace Y := Y.up a4
  replace HO := Lib.hid (HO.out.up a4)
  replace HP := Lib.hid (HP.out.up a4)
  replace HC := Lib.hid (HC.out.up a4)
  replace HB := Lib.hid (below_go HB.out a4)
  obtain ⟨d, hd⟩ : ∃ b, b = w4.heap.size := ⟨_, rfl⟩
  have hdz : b < d := by omega
  clear ho4 hc4 hg4 hdr4 a4 s4
  go_upto_region 4 with fail
  obtain ⟨w5, hw5⟩ : ∃ u, u = w4.alloc (.cells #[.string nb, .int .i64 (sb : Int), .slice A4 m4 c4] 25) := ⟨_, rfl⟩
  rw [← hw5] at K J HO HP HC HB R Y ⊢
  rw [← hd] at J ⊢
  clear hw5 hd
  have kc0 := K.cell 0; have kc1 := K.cell 1; have kc2 := K.cell 2
  simp only [List.getElem?_cons_zero, List.getElem?_cons_succ] at kc0 kc1 kc2
  go_wp2_with fail
  refine (spec_l4Good HLl.out HO.out.recs (by have := HLl.out; omega) hdf.2.2.2.1 hdf.1 hdf.2.2.2.2).mono ?_; rintro e w6 ⟨rfl, hb6⟩
  clear kc0 kc1 kc2
  replace K := K.up hb6
  replace J := J.up hb6
  replace R := R.up hb6
  replace Y := Y.up hb6
  replace HO := Lib.hid (HO.out.up hb6)
  replace HP := Lib.hid (HP.out.up hb6)
  replace HC := Lib.hid (HC.out.up hb6)
  replace HB := Lib.hid (below_go HB.out hb6)
  clear hb6
  rcases hgm : goodM nm (st : Int) L
  · skip
    have kc0 := K.cell 0; have kc1 := K.cell 1; have kc2 := K.cell 2
    have jc0 := J.cell 0; have jc1 := J.cell 1; have jc2 := J.cell 2
    simp only [List.getElem?_cons_zero, List.getElem?_cons_succ] at kc0 kc1 kc2 jc0 jc1 jc2
    have rc0 := R.cell 0; have rc1 := R.cell 1; have rc2 := R.cell 2
    have rf0 := R.frozen 0; have rf1 := R.frozen 1; have rf2 := R.frozen 2
    have yc0 := Y.cell 0; have yc1 := Y.cell 1; have yc2 := Y.cell 2
    have yf0 := Y.frozen 0; have yf1 := Y.frozen 1; have yf2 := Y.frozen 2
    simp only [List.getElem?_cons_zero, List.getElem?_cons_succ] at rc0 rc1 rc2 yc0 yc1 yc2
    have q1 := sets3_at w6 w.heap.size (.string nm) (.int .i64 (st : Int)) (.slice A2 m c2)
    have R1 := ((R.set_ 0 (.string nm)).set_ 1 (.int .i64 (st : Int))).set_ 2 (.slice A2 m c2)
    have Y1 := Y.grown q1 (fun e => by injection e with e; omega)
    have q2 := sets3_at (((w6.setCell ⟨w.heap.size, 0, none⟩ (.string nm)).setCell ⟨w.heap.size, 1, none⟩ (.int .i64 (st : Int))).setCell ⟨w.heap.size, 2, none⟩ (.slice A2 m c2)) (w.heap.size + 1) (.string nb) (.int .i64 (sb : Int)) (.slice A4 m4 c4)
    have R2 := R1.grown q2 (fun e => by injection e with e; omega)
    have Y2 := ((Y1.set_ 0 (.string nb)).set_ 1 (.int .i64 (sb : Int))).set_ 2 (.slice A4 m4 c4)
    have u0 := R2.cell 0; have u1 := R2.cell 1; have u2 := R2.cell 2
    have v0 := Y2.cell 0; have v1 := Y2.cell 1; have v2 := Y2.cell 2
    simp only [List.set_cons_zero, List.set_cons_succ, List.getElem?_cons_zero, List.getElem?_cons_succ] at u0 u1 u2 v0 v1 v2
    have hbs := HB.out.size
    have HB1 := Lib.hid (HB.out.grown q1 hbs (fun k e => by injection e with e; omega))
    have HB2 := Lib.hid (HB1.out.grown q2 HB1.out.size (fun k e => by injection e with e; omega))
    have HO2 := Lib.hid ((HO.out.past q1 (by omega)).past q2 (by omega))
    have HP2 := Lib.hid ((HP.out.past q1 (by omega)).past q2 (by omega))
    clear R Y R1 R2 Y1 Y2 K J HC q1 q2
    have ne1 : ¬ w.heap.size = w.heap.size + 1 := by omega
    have ne2 : ¬ w.heap.size + 1 = w.heap.size := by omega
    go_upto_region 6 with fail
    go_region
    go_wp2_with fail
    refine bodyPost_ret (v := .tuple #[.agg #[.string nm, .int .i64 (st : Int), .slice A2 m c2], .agg #[.string nb, .int .i64 (sb : Int), .slice A4 m4 c4]]) (by simp [results, Tryz.results30, go_sem, u0, u1, u2, v0, v1, v2]) rfl ?_
    exact ⟨nm, st, A2, m, c2, L, nb, sb, A4, m4, c4, _, rfl, HDR.out, HDR4.out, (HO2.out.drewN 1).base_le (by omega), (HP2.out.drewN 1).base_le (by omega), below_drewN HB2.out 1⟩
  · have hgs := goodM_st hgm
    go_wp2_with fail
    refine (cur_one HS.out HB.out hp0 HC.out (by omega) (by decide) (by decide)).mono ?_; rintro e w7 ⟨b1, rfl, hc7, hg7⟩
    replace K := K.grown hg7 (fun e => by injection e with e; omega)
    replace J := J.grown hg7 (fun e => by injection e with e; omega)
    replace R := R.grown hg7 (fun e => by injection e with e; omega)
    replace Y := Y.grown hg7 (fun e => by injection e with e; omega)
    replace HO := Lib.hid (HO.out.past hg7 (by omega))
    replace HP := Lib.hid (HP.out.past hg7 (by omega))
    replace HB := Lib.hid (grown_below HB.out hp0 hg7)
    replace HC := Lib.hid hc7
    clear hg7 hc7 hgm
    rcases b1
    · skip
      have kc0 := K.cell 0; have kc1 := K.cell 1; have kc2 := K.cell 2
      have jc0 := J.cell 0; have jc1 := J.cell 1; have jc2 := J.cell 2
      simp only [List.getElem?_cons_zero, List.getElem?_cons_succ] at kc0 kc1 kc2 jc0 jc1 jc2
      have rc0 := R.cell 0; have rc1 := R.cell 1; have rc2 := R.cell 2
      have rf0 := R.frozen 0; have rf1 := R.frozen 1; have rf2 := R.frozen 2
      have yc0 := Y.cell 0; have yc1 := Y.cell 1; have yc2 := Y.cell 2
      have yf0 := Y.frozen 0; have yf1 := Y.frozen 1; have yf2 := Y.frozen 2
      simp only [List.getElem?_cons_zero, List.getElem?_cons_succ] at rc0 rc1 rc2 yc0 yc1 yc2
      have q1 := sets3_at w7 w.heap.size (.string nm) (.int .i64 (st : Int)) (.slice A2 m c2)
      have R1 := ((R.set_ 0 (.string nm)).set_ 1 (.int .i64 (st : Int))).set_ 2 (.slice A2 m c2)
      have Y1 := Y.grown q1 (fun e => by injection e with e; omega)
      have q2 := sets3_at (((w7.setCell ⟨w.heap.size, 0, none⟩ (.string nm)).setCell ⟨w.heap.size, 1, none⟩ (.int .i64 (st : Int))).setCell ⟨w.heap.size, 2, none⟩ (.slice A2 m c2)) (w.heap.size + 1) (.string nb) (.int .i64 (sb : Int)) (.slice A4 m4 c4)
      have R2 := R1.grown q2 (fun e => by injection e with e; omega)
      have Y2 := ((Y1.set_ 0 (.string nb)).set_ 1 (.int .i64 (sb : Int))).set_ 2 (.slice A4 m4 c4)
      have u0 := R2.cell 0; have u1 := R2.cell 1; have u2 := R2.cell 2
      have v0 := Y2.cell 0; have v1 := Y2.cell 1; have v2 := Y2.cell 2
      simp only [List.set_cons_zero, List.set_cons_succ, List.getElem?_cons_zero, List.getElem?_cons_succ] at u0 u1 u2 v0 v1 v2
      have hbs := HB.out.size
      have HB1 := Lib.hid (HB.out.grown q1 hbs (fun k e => by injection e with e; omega))
      have HB2 := Lib.hid (HB1.out.grown q2 HB1.out.size (fun k e => by injection e with e; omega))
      have HO2 := Lib.hid ((HO.out.past q1 (by omega)).past q2 (by omega))
      have HP2 := Lib.hid ((HP.out.past q1 (by omega)).past q2 (by omega))
      clear R Y R1 R2 Y1 Y2 K J HC q1 q2
      have ne1 : ¬ w.heap.size = w.heap.size + 1 := by omega
      have ne2 : ¬ w.heap.size + 1 = w.heap.size := by omega
      go_upto_region 6 with fail
      go_region
      go_wp2_with fail
      refine bodyPost_ret (v := .tuple #[.agg #[.string nm, .int .i64 (st : Int), .slice A2 m c2], .agg #[.string nb, .int .i64 (sb : Int), .slice A4 m4 c4]]) (by simp [results, Tryz.results30, go_sem, u0, u1, u2, v0, v1, v2]) rfl ?_
      exact ⟨nm, st, A2, m, c2, L, nb, sb, A4, m4, c4, _, rfl, HDR.out, HDR4.out, (HO2.out.drewN 1).base_le (by omega), (HP2.out.drewN 1).base_le (by omega), below_drewN HB2.out 1⟩
    · have hdb := drM_f HDR.out
      have hcp := HO.out.cap
      have HLc := Lib.hid HLl.out
      have hm40 : 0 < m ∧ m ≤ 41 := by
        have h1 := HLl.out
        have h2 := hgs.2
        have h3 := HDR.out.2.2.2.1
        omega
      obtain ⟨g, hA2, _, _, _, _⟩ := HO.out.at_ hm40.1
      subst hA2
      have kc0 := K.cell 0; have kc1 := K.cell 1; have kc2 := K.cell 2
      simp only [List.getElem?_cons_zero, List.getElem?_cons_succ] at kc0 kc1 kc2
      have kd : Hid (∀ u : World, w7.grownBy u (some (w.heap.size + 2)) → u.cell? ⟨b, 0, none⟩ = some (.string nm) ∧ u.cell? ⟨b, 1, none⟩ = some (.int .i64 (st : Int)) ∧ u.cell? ⟨b, 2, none⟩ = some (.slice (some ⟨g, 0, none⟩) m c2)) := Lib.hid (fun u hu => by
        have L0 := K.grown hu (fun e => by injection e with e; omega)
        exact ⟨by simpa using L0.cell 0, by simpa using L0.cell 1, by simpa using L0.cell 2⟩)
      go_upto_region 5 with fail
      refine wp_region_any (by kernel_rfl) ?_
      (try (change wpAny _ _ _ _ _ _ _ (World.drew _)))
      refine wpAny_take (i := 1) (oi := { dst := some 21, op := _, type := _, pos := _, after := _, guard := _ }) (v := ?_) rfl (by kernel_rfl) (by kernel_rfl) (by kernel_rfl) (fun _ _ _ h => h) (Or.inl ⟨by rfl, ?_⟩) ?_
      rotate_left
      · (intro w; go_simp) <;> with_reducible rfl
      (try simp only [Act.put, List.setIfInBounds_toArray, List.set_cons_zero, List.set_cons_succ])
      refine wpAny_take (i := 2) (oi := { dst := some 22, op := _, type := _, pos := _, after := _, guard := _ }) (v := ?_) rfl (by kernel_rfl) (by kernel_rfl) (by kernel_rfl) (fun _ _ _ h => h) (Or.inl ⟨by rfl, ?_⟩) ?_
      rotate_left
      · (intro w; go_simp) <;> with_reducible rfl
      (try simp only [Act.put, List.setIfInBounds_toArray, List.set_cons_zero, List.set_cons_succ])
      refine wpAny_ready (rs := [0, 3]) (by kernel_rfl) (by simp) ?_
      refine AllReady.cons (o := _) rfl (fun K hK => ?_) (AllReady.cons (o := _) rfl (fun K hK => ?_) (AllReady.nil))
      · go_simp
        (try (refine hK _ _ ?_; clear hK K))
        (try simp only [Act.put, List.setIfInBounds_toArray, List.set_cons_zero, List.set_cons_succ])
        refine wpAny_ready (rs := [3]) (by kernel_rfl) (by simp) ?_
        refine AllReady.cons (o := _) rfl (fun K hK => ?_) (AllReady.nil)
        go_simp
        (try (refine hK _ _ ?_; clear hK K))
        (try simp only [Act.put, List.setIfInBounds_toArray, List.set_cons_zero, List.set_cons_succ])
        refine wpAny_ready (rs := [4]) (by kernel_rfl) (by simp) ?_
        refine AllReady.cons (o := _) rfl (fun K hK => ?_) (AllReady.nil)
        go_simp
        (try (refine hK _ _ ?_; clear hK K))
        (try simp only [Act.put, List.setIfInBounds_toArray, List.set_cons_zero, List.set_cons_succ])
        refine wpAny_ready (rs := [5]) (by kernel_rfl) (by simp) ?_
        refine AllReady.cons (o := _) rfl (fun K hK => ?_) (AllReady.nil)
        go_simp
        refine (cur_pick HS.out (below_drewN HB.out 1) hp0 (HC.out.up (below_drewN (Below.refl _ _) 1)) (by omega) (by omega) (by omega)).mono ?_; rintro e w8 ⟨x, rfl, ⟨x0, x1⟩, hc8, hg8⟩
        have HG8 := Lib.hid (grownBy_trans (grown_any (below_drewN (Below.refl w7.heap.size w7) 1) (some (w.heap.size + 2))) hg8)
        obtain ⟨X, rfl⟩ := Int.eq_ofNat_of_zero_le x0
        have hX : X < m := by omega
        clear x0 x1
        obtain ⟨kd0, kd1, kd2⟩ := kd.out _ HG8.out
        try go_wp2_with fail
        (try (refine hK _ _ ?_; clear hK K))
        (try simp only [Act.put, List.setIfInBounds_toArray, List.set_cons_zero, List.set_cons_succ])
        refine wpAny_ready (rs := [6]) (by kernel_rfl) (by simp) ?_
        refine AllReady.cons (o := _) rfl (fun K hK => ?_) (AllReady.nil)
        go_simp
        refine (spec_l4Start (nm := nm) (st := st) (k := X) HLc.out ((HO.out.past HG8.out (by omega)).recs) (by omega) hX hcp.1 hcp.2).mono ?_; rintro e w9 ⟨A9, c9, rfl, ho9, hb9⟩
        have HG9 := Lib.hid (grownBy_trans HG8.out (grown_any hb9 (some (w.heap.size + 2))))
        have J9 := J.grown HG9.out (fun e => by injection e with e; omega)
        have jf0 := J9.cell 0; have jf1 := J9.cell 1; have jf2 := J9.cell 2
        have jg0 := J9.frozen 0; have jg1 := J9.frozen 1; have jg2 := J9.frozen 2
        simp only [List.getElem?_cons_zero, List.getElem?_cons_succ] at jf0 jf1 jf2
        try go_wp2_with fail
        (try (refine hK _ _ ?_; clear hK K))
        (try simp only [Act.put, List.setIfInBounds_toArray, List.set_cons_zero, List.set_cons_succ])
        refine wpAny_ready (rs := [7]) (by kernel_rfl) (by simp) ?_
        refine AllReady.cons (o := _) rfl (fun K hK => ?_) (AllReady.nil)
        go_simp
        (try (refine hK _ _ ?_; clear hK K))
        (try simp only [Act.put, List.setIfInBounds_toArray, List.set_cons_zero, List.set_cons_succ])
        refine wpAny_done (by kernel_rfl) ?_ _
        (try simp only [Act.put, List.setIfInBounds_toArray, List.set_cons_zero, List.set_cons_succ])
        have q9 := sets3_at w9 d (.string nm) (.int .i64 (st : Int)) (.slice A9 m c9)
        have J := ((J9.set_ 0 (.string nm)).set_ 1 (.int .i64 (st : Int))).set_ 2 (.slice A9 m c9)
        have K := (K.grown HG9.out (fun e => by injection e with e; omega)).grown q9 (fun e => by injection e with e; omega)
        have R := (R.grown HG9.out (fun e => by injection e with e; omega)).grown q9 (fun e => by injection e with e; omega)
        have Y := (Y.grown HG9.out (fun e => by injection e with e; omega)).grown q9 (fun e => by injection e with e; omega)
        have HO := Lib.hid (own_fld (HO.out.past HG9.out (by omega)) J9 q9)
        have HP : Hid (Owned strE 1 9 _ (w.heap.size + 3) A9 m c9 (L.drop X ++ L.take X)) := Lib.hid ((own_fld ho9 J9 q9).base_le (by have h1 := HG8.out.size; have h2 := HB.out.size; have h3 := K.lt; have h4 := hg8.size; simp at h4; omega))
        have HC := Lib.hid ((hc8.up hb9).grown q9 (fun e => by injection e with e; omega))
        have HB := Lib.hid ((grown_below HB.out hp0 HG9.out).grown q9 (grown_below HB.out hp0 HG9.out).size (fun k e => by injection e with e; omega))
        have HDR4 : Hid (drM nm st (L.drop X ++ L.take X)) := Lib.hid ⟨HDR.out.1, HDR.out.2.1, HDR.out.2.2.1, by have := HDR.out.2.2.2.1; simp; omega, rot_small HDR.out.2.2.2.2⟩
        clear jf0 jf1 jf2 jg0 jg1 jg2 kd0 kd1 kd2 J9 kc0 kc1 kc2 hg8
        obtain ⟨wf, hwf⟩ : ∃ u, u = ((w9.setCell ⟨d, 0, none⟩ (.string nm)).setCell ⟨d, 1, none⟩ (.int .i64 (st : Int))).setCell ⟨d, 2, none⟩ (.slice A9 m c9) := ⟨_, rfl⟩
        rw [← hwf] at J K R Y HO HP HC HB ⊢
        clear hwf q9
        have kc0 := K.cell 0; have kc1 := K.cell 1; have kc2 := K.cell 2
        have jc0 := J.cell 0; have jc1 := J.cell 1; have jc2 := J.cell 2
        simp only [List.getElem?_cons_zero, List.getElem?_cons_succ] at kc0 kc1 kc2 jc0 jc1 jc2
        have rc0 := R.cell 0; have rc1 := R.cell 1; have rc2 := R.cell 2
        have rf0 := R.frozen 0; have rf1 := R.frozen 1; have rf2 := R.frozen 2
        have yc0 := Y.cell 0; have yc1 := Y.cell 1; have yc2 := Y.cell 2
        have yf0 := Y.frozen 0; have yf1 := Y.frozen 1; have yf2 := Y.frozen 2
        simp only [List.getElem?_cons_zero, List.getElem?_cons_succ] at rc0 rc1 rc2 yc0 yc1 yc2
        have q1 := sets3_at wf w.heap.size (.string nm) (.int .i64 (st : Int)) (.slice (some ⟨g, 0, none⟩) m c2)
        have R1 := ((R.set_ 0 (.string nm)).set_ 1 (.int .i64 (st : Int))).set_ 2 (.slice (some ⟨g, 0, none⟩) m c2)
        have Y1 := Y.grown q1 (fun e => by injection e with e; omega)
        have q2 := sets3_at (((wf.setCell ⟨w.heap.size, 0, none⟩ (.string nm)).setCell ⟨w.heap.size, 1, none⟩ (.int .i64 (st : Int))).setCell ⟨w.heap.size, 2, none⟩ (.slice (some ⟨g, 0, none⟩) m c2)) (w.heap.size + 1) (.string nm) (.int .i64 (st : Int)) (.slice A9 m c9)
        have R2 := R1.grown q2 (fun e => by injection e with e; omega)
        have Y2 := ((Y1.set_ 0 (.string nm)).set_ 1 (.int .i64 (st : Int))).set_ 2 (.slice A9 m c9)
        have u0 := R2.cell 0; have u1 := R2.cell 1; have u2 := R2.cell 2
        have v0 := Y2.cell 0; have v1 := Y2.cell 1; have v2 := Y2.cell 2
        simp only [List.set_cons_zero, List.set_cons_succ, List.getElem?_cons_zero, List.getElem?_cons_succ] at u0 u1 u2 v0 v1 v2
        have hbs := HB.out.size
        have HB1 := Lib.hid (HB.out.grown q1 hbs (fun k e => by injection e with e; omega))
        have HB2 := Lib.hid (HB1.out.grown q2 HB1.out.size (fun k e => by injection e with e; omega))
        have HO2 := Lib.hid ((HO.out.past q1 (by omega)).past q2 (by omega))
        have HP2 := Lib.hid ((HP.out.past q1 (by omega)).past q2 (by omega))
        clear R Y R1 R2 Y1 Y2 K J HC q1 q2
        have ne1 : ¬ w.heap.size = w.heap.size + 1 := by omega
        have ne2 : ¬ w.heap.size + 1 = w.heap.size := by omega
        go_upto_region 6 with fail
        go_region
        go_wp2_with fail
        refine bodyPost_ret (v := .tuple #[.agg #[.string nm, .int .i64 (st : Int), .slice (some ⟨g, 0, none⟩) m c2], .agg #[.string nm, .int .i64 (st : Int), .slice A9 m c9]]) (by simp [results, Tryz.results30, go_sem, u0, u1, u2, v0, v1, v2]) rfl ?_
        exact ⟨nm, st, (some ⟨g, 0, none⟩), m, c2, L, nm, st, A9, m, c9, _, rfl, HDR.out, HDR4.out, (HO2.out.drewN 1).base_le (by omega), (HP2.out.drewN 1).base_le (by omega), below_drewN HB2.out 1⟩
      · go_simp
        (try (refine hK _ _ ?_; clear hK K))
        (try simp only [Act.put, List.setIfInBounds_toArray, List.set_cons_zero, List.set_cons_succ])
        refine wpAny_ready (rs := [0, 4]) (by kernel_rfl) (by simp) ?_
        refine AllReady.cons (o := _) rfl (fun K hK => ?_) (AllReady.cons (o := _) rfl (fun K hK => ?_) (AllReady.nil))
        · go_simp
          (try (refine hK _ _ ?_; clear hK K))
          (try simp only [Act.put, List.setIfInBounds_toArray, List.set_cons_zero, List.set_cons_succ])
          refine wpAny_ready (rs := [4]) (by kernel_rfl) (by simp) ?_
          refine AllReady.cons (o := _) rfl (fun K hK => ?_) (AllReady.nil)
          go_simp
          (try (refine hK _ _ ?_; clear hK K))
          (try simp only [Act.put, List.setIfInBounds_toArray, List.set_cons_zero, List.set_cons_succ])
          refine wpAny_ready (rs := [5]) (by kernel_rfl) (by simp) ?_
          refine AllReady.cons (o := _) rfl (fun K hK => ?_) (AllReady.nil)
          go_simp
          refine (cur_pick HS.out (below_drewN HB.out 1) hp0 (HC.out.up (below_drewN (Below.refl _ _) 1)) (by omega) (by omega) (by omega)).mono ?_; rintro e w8 ⟨x, rfl, ⟨x0, x1⟩, hc8, hg8⟩
          have HG8 := Lib.hid (grownBy_trans (grown_any (below_drewN (Below.refl w7.heap.size w7) 1) (some (w.heap.size + 2))) hg8)
          obtain ⟨X, rfl⟩ := Int.eq_ofNat_of_zero_le x0
          have hX : X < m := by omega
          clear x0 x1
          obtain ⟨kd0, kd1, kd2⟩ := kd.out _ HG8.out
          try go_wp2_with fail
          (try (refine hK _ _ ?_; clear hK K))
          (try simp only [Act.put, List.setIfInBounds_toArray, List.set_cons_zero, List.set_cons_succ])
          refine wpAny_ready (rs := [6]) (by kernel_rfl) (by simp) ?_
          refine AllReady.cons (o := _) rfl (fun K hK => ?_) (AllReady.nil)
          go_simp
          refine (spec_l4Start (nm := nm) (st := st) (k := X) HLc.out ((HO.out.past HG8.out (by omega)).recs) (by omega) hX hcp.1 hcp.2).mono ?_; rintro e w9 ⟨A9, c9, rfl, ho9, hb9⟩
          have HG9 := Lib.hid (grownBy_trans HG8.out (grown_any hb9 (some (w.heap.size + 2))))
          have J9 := J.grown HG9.out (fun e => by injection e with e; omega)
          have jf0 := J9.cell 0; have jf1 := J9.cell 1; have jf2 := J9.cell 2
          have jg0 := J9.frozen 0; have jg1 := J9.frozen 1; have jg2 := J9.frozen 2
          simp only [List.getElem?_cons_zero, List.getElem?_cons_succ] at jf0 jf1 jf2
          try go_wp2_with fail
          (try (refine hK _ _ ?_; clear hK K))
          (try simp only [Act.put, List.setIfInBounds_toArray, List.set_cons_zero, List.set_cons_succ])
          refine wpAny_ready (rs := [7]) (by kernel_rfl) (by simp) ?_
          refine AllReady.cons (o := _) rfl (fun K hK => ?_) (AllReady.nil)
          go_simp
          (try (refine hK _ _ ?_; clear hK K))
          (try simp only [Act.put, List.setIfInBounds_toArray, List.set_cons_zero, List.set_cons_succ])
          refine wpAny_done (by kernel_rfl) ?_ _
          (try simp only [Act.put, List.setIfInBounds_toArray, List.set_cons_zero, List.set_cons_succ])
          have q9 := sets3_at w9 d (.string nm) (.int .i64 (st : Int)) (.slice A9 m c9)
          have J := ((J9.set_ 0 (.string nm)).set_ 1 (.int .i64 (st : Int))).set_ 2 (.slice A9 m c9)
          have K := (K.grown HG9.out (fun e => by injection e with e; omega)).grown q9 (fun e => by injection e with e; omega)
          have R := (R.grown HG9.out (fun e => by injection e with e; omega)).grown q9 (fun e => by injection e with e; omega)
          have Y := (Y.grown HG9.out (fun e => by injection e with e; omega)).grown q9 (fun e => by injection e with e; omega)
          have HO := Lib.hid (own_fld (HO.out.past HG9.out (by omega)) J9 q9)
          have HP : Hid (Owned strE 1 9 _ (w.heap.size + 3) A9 m c9 (L.drop X ++ L.take X)) := Lib.hid ((own_fld ho9 J9 q9).base_le (by have h1 := HG8.out.size; have h2 := HB.out.size; have h3 := K.lt; have h4 := hg8.size; simp at h4; omega))
          have HC := Lib.hid ((hc8.up hb9).grown q9 (fun e => by injection e with e; omega))
          have HB := Lib.hid ((grown_below HB.out hp0 HG9.out).grown q9 (grown_below HB.out hp0 HG9.out).size (fun k e => by injection e with e; omega))
          have HDR4 : Hid (drM nm st (L.drop X ++ L.take X)) := Lib.hid ⟨HDR.out.1, HDR.out.2.1, HDR.out.2.2.1, by have := HDR.out.2.2.2.1; simp; omega, rot_small HDR.out.2.2.2.2⟩
          clear jf0 jf1 jf2 jg0 jg1 jg2 kd0 kd1 kd2 J9 kc0 kc1 kc2 hg8
          obtain ⟨wf, hwf⟩ : ∃ u, u = ((w9.setCell ⟨d, 0, none⟩ (.string nm)).setCell ⟨d, 1, none⟩ (.int .i64 (st : Int))).setCell ⟨d, 2, none⟩ (.slice A9 m c9) := ⟨_, rfl⟩
          rw [← hwf] at J K R Y HO HP HC HB ⊢
          clear hwf q9
          have kc0 := K.cell 0; have kc1 := K.cell 1; have kc2 := K.cell 2
          have jc0 := J.cell 0; have jc1 := J.cell 1; have jc2 := J.cell 2
          simp only [List.getElem?_cons_zero, List.getElem?_cons_succ] at kc0 kc1 kc2 jc0 jc1 jc2
          have rc0 := R.cell 0; have rc1 := R.cell 1; have rc2 := R.cell 2
          have rf0 := R.frozen 0; have rf1 := R.frozen 1; have rf2 := R.frozen 2
          have yc0 := Y.cell 0; have yc1 := Y.cell 1; have yc2 := Y.cell 2
          have yf0 := Y.frozen 0; have yf1 := Y.frozen 1; have yf2 := Y.frozen 2
          simp only [List.getElem?_cons_zero, List.getElem?_cons_succ] at rc0 rc1 rc2 yc0 yc1 yc2
          have q1 := sets3_at wf w.heap.size (.string nm) (.int .i64 (st : Int)) (.slice (some ⟨g, 0, none⟩) m c2)
          have R1 := ((R.set_ 0 (.string nm)).set_ 1 (.int .i64 (st : Int))).set_ 2 (.slice (some ⟨g, 0, none⟩) m c2)
          have Y1 := Y.grown q1 (fun e => by injection e with e; omega)
          have q2 := sets3_at (((wf.setCell ⟨w.heap.size, 0, none⟩ (.string nm)).setCell ⟨w.heap.size, 1, none⟩ (.int .i64 (st : Int))).setCell ⟨w.heap.size, 2, none⟩ (.slice (some ⟨g, 0, none⟩) m c2)) (w.heap.size + 1) (.string nm) (.int .i64 (st : Int)) (.slice A9 m c9)
          have R2 := R1.grown q2 (fun e => by injection e with e; omega)
          have Y2 := ((Y1.set_ 0 (.string nm)).set_ 1 (.int .i64 (st : Int))).set_ 2 (.slice A9 m c9)
          have u0 := R2.cell 0; have u1 := R2.cell 1; have u2 := R2.cell 2
          have v0 := Y2.cell 0; have v1 := Y2.cell 1; have v2 := Y2.cell 2
          simp only [List.set_cons_zero, List.set_cons_succ, List.getElem?_cons_zero, List.getElem?_cons_succ] at u0 u1 u2 v0 v1 v2
          have hbs := HB.out.size
          have HB1 := Lib.hid (HB.out.grown q1 hbs (fun k e => by injection e with e; omega))
          have HB2 := Lib.hid (HB1.out.grown q2 HB1.out.size (fun k e => by injection e with e; omega))
          have HO2 := Lib.hid ((HO.out.past q1 (by omega)).past q2 (by omega))
          have HP2 := Lib.hid ((HP.out.past q1 (by omega)).past q2 (by omega))
          clear R Y R1 R2 Y1 Y2 K J HC q1 q2
          have ne1 : ¬ w.heap.size = w.heap.size + 1 := by omega
          have ne2 : ¬ w.heap.size + 1 = w.heap.size := by omega
          go_upto_region 6 with fail
          go_region
          go_wp2_with fail
          refine bodyPost_ret (v := .tuple #[.agg #[.string nm, .int .i64 (st : Int), .slice (some ⟨g, 0, none⟩) m c2], .agg #[.string nm, .int .i64 (st : Int), .slice A9 m c9]]) (by simp [results, Tryz.results30, go_sem, u0, u1, u2, v0, v1, v2]) rfl ?_
          exact ⟨nm, st, (some ⟨g, 0, none⟩), m, c2, L, nm, st, A9, m, c9, _, rfl, HDR.out, HDR4.out, (HO2.out.drewN 1).base_le (by omega), (HP2.out.drewN 1).base_le (by omega), below_drewN HB2.out 1⟩
        · go_simp
          (try (refine hK _ _ ?_; clear hK K))
          (try simp only [Act.put, List.setIfInBounds_toArray, List.set_cons_zero, List.set_cons_succ])
          refine wpAny_ready (rs := [0, 5]) (by kernel_rfl) (by simp) ?_
          refine AllReady.cons (o := _) rfl (fun K hK => ?_) (AllReady.cons (o := _) rfl (fun K hK => ?_) (AllReady.nil))
          · go_simp
            (try (refine hK _ _ ?_; clear hK K))
            (try simp only [Act.put, List.setIfInBounds_toArray, List.set_cons_zero, List.set_cons_succ])
            refine wpAny_ready (rs := [5]) (by kernel_rfl) (by simp) ?_
            refine AllReady.cons (o := _) rfl (fun K hK => ?_) (AllReady.nil)
            go_simp
            refine (cur_pick HS.out (below_drewN HB.out 1) hp0 (HC.out.up (below_drewN (Below.refl _ _) 1)) (by omega) (by omega) (by omega)).mono ?_; rintro e w8 ⟨x, rfl, ⟨x0, x1⟩, hc8, hg8⟩
            have HG8 := Lib.hid (grownBy_trans (grown_any (below_drewN (Below.refl w7.heap.size w7) 1) (some (w.heap.size + 2))) hg8)
            obtain ⟨X, rfl⟩ := Int.eq_ofNat_of_zero_le x0
            have hX : X < m := by omega
            clear x0 x1
            obtain ⟨kd0, kd1, kd2⟩ := kd.out _ HG8.out
            try go_wp2_with fail
            (try (refine hK _ _ ?_; clear hK K))
            (try simp only [Act.put, List.setIfInBounds_toArray, List.set_cons_zero, List.set_cons_succ])
            refine wpAny_ready (rs := [6]) (by kernel_rfl) (by simp) ?_
            refine AllReady.cons (o := _) rfl (fun K hK => ?_) (AllReady.nil)
            go_simp
            refine (spec_l4Start (nm := nm) (st := st) (k := X) HLc.out ((HO.out.past HG8.out (by omega)).recs) (by omega) hX hcp.1 hcp.2).mono ?_; rintro e w9 ⟨A9, c9, rfl, ho9, hb9⟩
            have HG9 := Lib.hid (grownBy_trans HG8.out (grown_any hb9 (some (w.heap.size + 2))))
            have J9 := J.grown HG9.out (fun e => by injection e with e; omega)
            have jf0 := J9.cell 0; have jf1 := J9.cell 1; have jf2 := J9.cell 2
            have jg0 := J9.frozen 0; have jg1 := J9.frozen 1; have jg2 := J9.frozen 2
            simp only [List.getElem?_cons_zero, List.getElem?_cons_succ] at jf0 jf1 jf2
            try go_wp2_with fail
            (try (refine hK _ _ ?_; clear hK K))
            (try simp only [Act.put, List.setIfInBounds_toArray, List.set_cons_zero, List.set_cons_succ])
            refine wpAny_ready (rs := [7]) (by kernel_rfl) (by simp) ?_
            refine AllReady.cons (o := _) rfl (fun K hK => ?_) (AllReady.nil)
            go_simp
            (try (refine hK _ _ ?_; clear hK K))
            (try simp only [Act.put, List.setIfInBounds_toArray, List.set_cons_zero, List.set_cons_succ])
            refine wpAny_done (by kernel_rfl) ?_ _
            (try simp only [Act.put, List.setIfInBounds_toArray, List.set_cons_zero, List.set_cons_succ])
            have q9 := sets3_at w9 d (.string nm) (.int .i64 (st : Int)) (.slice A9 m c9)
            have J := ((J9.set_ 0 (.string nm)).set_ 1 (.int .i64 (st : Int))).set_ 2 (.slice A9 m c9)
            have K := (K.grown HG9.out (fun e => by injection e with e; omega)).grown q9 (fun e => by injection e with e; omega)
            have R := (R.grown HG9.out (fun e => by injection e with e; omega)).grown q9 (fun e => by injection e with e; omega)
            have Y := (Y.grown HG9.out (fun e => by injection e with e; omega)).grown q9 (fun e => by injection e with e; omega)
            have HO := Lib.hid (own_fld (HO.out.past HG9.out (by omega)) J9 q9)
            have HP : Hid (Owned strE 1 9 _ (w.heap.size + 3) A9 m c9 (L.drop X ++ L.take X)) := Lib.hid ((own_fld ho9 J9 q9).base_le (by have h1 := HG8.out.size; have h2 := HB.out.size; have h3 := K.lt; have h4 := hg8.size; simp at h4; omega))
            have HC := Lib.hid ((hc8.up hb9).grown q9 (fun e => by injection e with e; omega))
            have HB := Lib.hid ((grown_below HB.out hp0 HG9.out).grown q9 (grown_below HB.out hp0 HG9.out).size (fun k e => by injection e with e; omega))
            have HDR4 : Hid (drM nm st (L.drop X ++ L.take X)) := Lib.hid ⟨HDR.out.1, HDR.out.2.1, HDR.out.2.2.1, by have := HDR.out.2.2.2.1; simp; omega, rot_small HDR.out.2.2.2.2⟩
            clear jf0 jf1 jf2 jg0 jg1 jg2 kd0 kd1 kd2 J9 kc0 kc1 kc2 hg8
            obtain ⟨wf, hwf⟩ : ∃ u, u = ((w9.setCell ⟨d, 0, none⟩ (.string nm)).setCell ⟨d, 1, none⟩ (.int .i64 (st : Int))).setCell ⟨d, 2, none⟩ (.slice A9 m c9) := ⟨_, rfl⟩
            rw [← hwf] at J K R Y HO HP HC HB ⊢
            clear hwf q9
            have kc0 := K.cell 0; have kc1 := K.cell 1; have kc2 := K.cell 2
            have jc0 := J.cell 0; have jc1 := J.cell 1; have jc2 := J.cell 2
            simp only [List.getElem?_cons_zero, List.getElem?_cons_succ] at kc0 kc1 kc2 jc0 jc1 jc2
            have rc0 := R.cell 0; have rc1 := R.cell 1; have rc2 := R.cell 2
            have rf0 := R.frozen 0; have rf1 := R.frozen 1; have rf2 := R.frozen 2
            have yc0 := Y.cell 0; have yc1 := Y.cell 1; have yc2 := Y.cell 2
            have yf0 := Y.frozen 0; have yf1 := Y.frozen 1; have yf2 := Y.frozen 2
            simp only [List.getElem?_cons_zero, List.getElem?_cons_succ] at rc0 rc1 rc2 yc0 yc1 yc2
            have q1 := sets3_at wf w.heap.size (.string nm) (.int .i64 (st : Int)) (.slice (some ⟨g, 0, none⟩) m c2)
            have R1 := ((R.set_ 0 (.string nm)).set_ 1 (.int .i64 (st : Int))).set_ 2 (.slice (some ⟨g, 0, none⟩) m c2)
            have Y1 := Y.grown q1 (fun e => by injection e with e; omega)
            have q2 := sets3_at (((wf.setCell ⟨w.heap.size, 0, none⟩ (.string nm)).setCell ⟨w.heap.size, 1, none⟩ (.int .i64 (st : Int))).setCell ⟨w.heap.size, 2, none⟩ (.slice (some ⟨g, 0, none⟩) m c2)) (w.heap.size + 1) (.string nm) (.int .i64 (st : Int)) (.slice A9 m c9)
            have R2 := R1.grown q2 (fun e => by injection e with e; omega)
            have Y2 := ((Y1.set_ 0 (.string nm)).set_ 1 (.int .i64 (st : Int))).set_ 2 (.slice A9 m c9)
            have u0 := R2.cell 0; have u1 := R2.cell 1; have u2 := R2.cell 2
            have v0 := Y2.cell 0; have v1 := Y2.cell 1; have v2 := Y2.cell 2
            simp only [List.set_cons_zero, List.set_cons_succ, List.getElem?_cons_zero, List.getElem?_cons_succ] at u0 u1 u2 v0 v1 v2
            have hbs := HB.out.size
            have HB1 := Lib.hid (HB.out.grown q1 hbs (fun k e => by injection e with e; omega))
            have HB2 := Lib.hid (HB1.out.grown q2 HB1.out.size (fun k e => by injection e with e; omega))
            have HO2 := Lib.hid ((HO.out.past q1 (by omega)).past q2 (by omega))
            have HP2 := Lib.hid ((HP.out.past q1 (by omega)).past q2 (by omega))
            clear R Y R1 R2 Y1 Y2 K J HC q1 q2
            have ne1 : ¬ w.heap.size = w.heap.size + 1 := by omega
            have ne2 : ¬ w.heap.size + 1 = w.heap.size := by omega
            go_upto_region 6 with fail
            go_region
            go_wp2_with fail
            refine bodyPost_ret (v := .tuple #[.agg #[.string nm, .int .i64 (st : Int), .slice (some ⟨g, 0, none⟩) m c2], .agg #[.string nm, .int .i64 (st : Int), .slice A9 m c9]]) (by simp [results, Tryz.results30, go_sem, u0, u1, u2, v0, v1, v2]) rfl ?_
            exact ⟨nm, st, (some ⟨g, 0, none⟩), m, c2, L, nm, st, A9, m, c9, _, rfl, HDR.out, HDR4.out, (HO2.out.drewN 1).base_le (by omega), (HP2.out.drewN 1).base_le (by omega), below_drewN HB2.out 1⟩
          · go_simp
            refine (cur_pick HS.out (below_drewN HB.out 1) hp0 (HC.out.up (below_drewN (Below.refl _ _) 1)) (by omega) (by omega) (by omega)).mono ?_; rintro e w8 ⟨x, rfl, ⟨x0, x1⟩, hc8, hg8⟩
            have HG8 := Lib.hid (grownBy_trans (grown_any (below_drewN (Below.refl w7.heap.size w7) 1) (some (w.heap.size + 2))) hg8)
            obtain ⟨X, rfl⟩ := Int.eq_ofNat_of_zero_le x0
            have hX : X < m := by omega
            clear x0 x1
            obtain ⟨kd0, kd1, kd2⟩ := kd.out _ HG8.out
            try go_wp2_with fail
            (try (refine hK _ _ ?_; clear hK K))
            (try simp only [Act.put, List.setIfInBounds_toArray, List.set_cons_zero, List.set_cons_succ])
            refine wpAny_ready (rs := [0]) (by kernel_rfl) (by simp) ?_
            refine AllReady.cons (o := _) rfl (fun K hK => ?_) (AllReady.nil)
            go_simp
            (try (refine hK _ _ ?_; clear hK K))
            (try simp only [Act.put, List.setIfInBounds_toArray, List.set_cons_zero, List.set_cons_succ])
            refine wpAny_ready (rs := [6]) (by kernel_rfl) (by simp) ?_
            refine AllReady.cons (o := _) rfl (fun K hK => ?_) (AllReady.nil)
            go_simp
            refine (spec_l4Start (nm := nm) (st := st) (k := X) HLc.out ((HO.out.past HG8.out (by omega)).recs) (by omega) hX hcp.1 hcp.2).mono ?_; rintro e w9 ⟨A9, c9, rfl, ho9, hb9⟩
            have HG9 := Lib.hid (grownBy_trans HG8.out (grown_any hb9 (some (w.heap.size + 2))))
            have J9 := J.grown HG9.out (fun e => by injection e with e; omega)
            have jf0 := J9.cell 0; have jf1 := J9.cell 1; have jf2 := J9.cell 2
            have jg0 := J9.frozen 0; have jg1 := J9.frozen 1; have jg2 := J9.frozen 2
            simp only [List.getElem?_cons_zero, List.getElem?_cons_succ] at jf0 jf1 jf2
            try go_wp2_with fail
            (try (refine hK _ _ ?_; clear hK K))
            (try simp only [Act.put, List.setIfInBounds_toArray, List.set_cons_zero, List.set_cons_succ])
            refine wpAny_ready (rs := [7]) (by kernel_rfl) (by simp) ?_
            refine AllReady.cons (o := _) rfl (fun K hK => ?_) (AllReady.nil)
            go_simp
            (try (refine hK _ _ ?_; clear hK K))
            (try simp only [Act.put, List.setIfInBounds_toArray, List.set_cons_zero, List.set_cons_succ])
            refine wpAny_done (by kernel_rfl) ?_ _
            (try simp only [Act.put, List.setIfInBounds_toArray, List.set_cons_zero, List.set_cons_succ])
            have q9 := sets3_at w9 d (.string nm) (.int .i64 (st : Int)) (.slice A9 m c9)
            have J := ((J9.set_ 0 (.string nm)).set_ 1 (.int .i64 (st : Int))).set_ 2 (.slice A9 m c9)
            have K := (K.grown HG9.out (fun e => by injection e with e; omega)).grown q9 (fun e => by injection e with e; omega)
            have R := (R.grown HG9.out (fun e => by injection e with e; omega)).grown q9 (fun e => by injection e with e; omega)
            have Y := (Y.grown HG9.out (fun e => by injection e with e; omega)).grown q9 (fun e => by injection e with e; omega)
            have HO := Lib.hid (own_fld (HO.out.past HG9.out (by omega)) J9 q9)
            have HP : Hid (Owned strE 1 9 _ (w.heap.size + 3) A9 m c9 (L.drop X ++ L.take X)) := Lib.hid ((own_fld ho9 J9 q9).base_le (by have h1 := HG8.out.size; have h2 := HB.out.size; have h3 := K.lt; have h4 := hg8.size; simp at h4; omega))
            have HC := Lib.hid ((hc8.up hb9).grown q9 (fun e => by injection e with e; omega))
            have HB := Lib.hid ((grown_below HB.out hp0 HG9.out).grown q9 (grown_below HB.out hp0 HG9.out).size (fun k e => by injection e with e; omega))
            have HDR4 : Hid (drM nm st (L.drop X ++ L.take X)) := Lib.hid ⟨HDR.out.1, HDR.out.2.1, HDR.out.2.2.1, by have := HDR.out.2.2.2.1; simp; omega, rot_small HDR.out.2.2.2.2⟩
            clear jf0 jf1 jf2 jg0 jg1 jg2 kd0 kd1 kd2 J9 kc0 kc1 kc2 hg8
            obtain ⟨wf, hwf⟩ : ∃ u, u = ((w9.setCell ⟨d, 0, none⟩ (.string nm)).setCell ⟨d, 1, none⟩ (.int .i64 (st : Int))).setCell ⟨d, 2, none⟩ (.slice A9 m c9) := ⟨_, rfl⟩
            rw [← hwf] at J K R Y HO HP HC HB ⊢
            clear hwf q9
            have kc0 := K.cell 0; have kc1 := K.cell 1; have kc2 := K.cell 2
            have jc0 := J.cell 0; have jc1 := J.cell 1; have jc2 := J.cell 2
            simp only [List.getElem?_cons_zero, List.getElem?_cons_succ] at kc0 kc1 kc2 jc0 jc1 jc2
            have rc0 := R.cell 0; have rc1 := R.cell 1; have rc2 := R.cell 2
            have rf0 := R.frozen 0; have rf1 := R.frozen 1; have rf2 := R.frozen 2
            have yc0 := Y.cell 0; have yc1 := Y.cell 1; have yc2 := Y.cell 2
            have yf0 := Y.frozen 0; have yf1 := Y.frozen 1; have yf2 := Y.frozen 2
            simp only [List.getElem?_cons_zero, List.getElem?_cons_succ] at rc0 rc1 rc2 yc0 yc1 yc2
            have q1 := sets3_at wf w.heap.size (.string nm) (.int .i64 (st : Int)) (.slice (some ⟨g, 0, none⟩) m c2)
            have R1 := ((R.set_ 0 (.string nm)).set_ 1 (.int .i64 (st : Int))).set_ 2 (.slice (some ⟨g, 0, none⟩) m c2)
            have Y1 := Y.grown q1 (fun e => by injection e with e; omega)
            have q2 := sets3_at (((wf.setCell ⟨w.heap.size, 0, none⟩ (.string nm)).setCell ⟨w.heap.size, 1, none⟩ (.int .i64 (st : Int))).setCell ⟨w.heap.size, 2, none⟩ (.slice (some ⟨g, 0, none⟩) m c2)) (w.heap.size + 1) (.string nm) (.int .i64 (st : Int)) (.slice A9 m c9)
            have R2 := R1.grown q2 (fun e => by injection e with e; omega)
            have Y2 := ((Y1.set_ 0 (.string nm)).set_ 1 (.int .i64 (st : Int))).set_ 2 (.slice A9 m c9)
            have u0 := R2.cell 0; have u1 := R2.cell 1; have u2 := R2.cell 2
            have v0 := Y2.cell 0; have v1 := Y2.cell 1; have v2 := Y2.cell 2
            simp only [List.set_cons_zero, List.set_cons_succ, List.getElem?_cons_zero, List.getElem?_cons_succ] at u0 u1 u2 v0 v1 v2
            have hbs := HB.out.size
            have HB1 := Lib.hid (HB.out.grown q1 hbs (fun k e => by injection e with e; omega))
            have HB2 := Lib.hid (HB1.out.grown q2 HB1.out.size (fun k e => by injection e with e; omega))
            have HO2 := Lib.hid ((HO.out.past q1 (by omega)).past q2 (by omega))
            have HP2 := Lib.hid ((HP.out.past q1 (by omega)).past q2 (by omega))
            clear R Y R1 R2 Y1 Y2 K J HC q1 q2
            have ne1 : ¬ w.heap.size = w.heap.size + 1 := by omega
            have ne2 : ¬ w.heap.size + 1 = w.heap.size := by omega
            go_upto_region 6 with fail
            go_region
            go_wp2_with fail
            refine bodyPost_ret (v := .tuple #[.agg #[.string nm, .int .i64 (st : Int), .slice (some ⟨g, 0, none⟩) m c2], .agg #[.string nm, .int .i64 (st : Int), .slice A9 m c9]]) (by simp [results, Tryz.results30, go_sem, u0, u1, u2, v0, v1, v2]) rfl ?_
            exact ⟨nm, st, (some ⟨g, 0, none⟩), m, c2, L, nm, st, A9, m, c9, _, rfl, HDR.out, HDR4.out, (HO2.out.drewN 1).base_le (by omega), (HP2.out.drewN 1).base_le (by omega), below_drewN HB2.out 1⟩
end Go.Proofs.YtidolgonmimicaaGreat
/- The walk through FnFalse: for all bytes the law answers true. -/
namespace Go.Proofs.YtidolgonmimicaaGreat
set_option linter.unusedVariables false
set_option linter.unusedSimpArgs false
open Go.ChangeShapes Go.WideShapes Go.ChangeAt Go.RowKit Go.Deep
theorem inL_take {H : List ByteArray} {k : Nat} {y f : ByteArray} (h : H[k]? = some y) : inL (H.take (k + 1)) f = (inL (H.take k) f || (y.toList == f.toList)) := by
  rw [take_succ_some h, inL_snoc]
  congr 1
  by_cases e : y = f
  · rw [decide_eq_true e, e]; simp
  · rw [decide_eq_false e, bytes_ne e]
theorem st_lt {nm : ByteArray} {st : Nat} {L : List ByteArray} (h : drM nm st L) : st ≤ 9 := h.2.2.1
set_option maxHeartbeats 8000000 in
set_option maxRecDepth 100000 in
theorem law_False (A0 : Option Addr) (c0 : Nat) (l0 : List Int) (A1 : Option Addr) (c1 : Nat) (l1 : List Int) (w : World) (h0 : Recs byteE 1 w A0 l0) (hm0 : l0.length ≤ 9223372036854775807) (hb0 : ∀ x ∈ l0, 0 ≤ x ∧ x ≤ 255)
    (h1 : Recs byteE 1 w A1 l1) (hm1 : l1.length ≤ 9223372036854775807) (hb1 : ∀ x ∈ l1, 0 ≤ x ∧ x ≤ 255) :
    Calls Tryz.prog 4 #[.slice A0 l0.length c0, .slice A1 l1.length c1] w fun e w' => e = .returned (.bool true) ∧ Below w.heap.size w w' := by
  have S0 := Lib.hid (show Src w A0 l0.length from ⟨l0, rfl, hm0, hb0, h0⟩)
  have S1 := Lib.hid (show Src w A1 l1.length from ⟨l1, rfl, hm1, hb1, h1⟩)
  clear h0 h1 hb0 hb1
  by_cases hz : wrap64 ((l0.length : Int) + (l1.length : Int)) ≤ 1048576
  · have hI : ¬ 1048576 < wrap64 ((l0.length : Int) + (l1.length : Int)) := by omega
    clear hz
    go_in
    go_wp2_with fail
    clear hI
    refine (draw_IsFalseHead S0.out).mono ?_; rintro e w1 ⟨nm, st, A2, m, c2, L, f, rfl, hdr, hf16, ho, hB1⟩
    have HDR := Lib.hid hdr
    have hdf := drM_f hdr
    have HLl := Lib.hid ho.len
    have hfz : f.size ≤ 16777216 := by omega
    have a1 : Below w1.heap.size w1 (w1.alloc (.cells #[.string nm, .int .i64 (st : Int), .slice A2 m c2] 25)) := by (repeat' (first | (with_reducible exact Below.refl _ _) | (with_reducible assumption) | (with_reducible refine below_drewN ?_ _) | (with_reducible refine Below.drew ?_) | (with_reducible refine below_alloc ?_ _) | (with_reducible refine Below.alloc ?_ ?_ _) | (with_reducible refine Below.setCell ?_ ?_ _) | (with_reducible refine below_go ?_ (by with_reducible assumption)) | (with_reducible refine below_then (by with_reducible assumption) ?_ ?_) | go_size))
    have K := Blk.at_ w1 25 [.string nm, .int .i64 (st : Int), .slice A2 m c2] (b := w1.heap.size) rfl
    have R := ho.recs.up a1
    have HW := below_go hB1 a1
    have hz20 : m ≤ 1048576 := by have := HLl.out; omega
    clear hdr ho hB1 a1 hf16
    go_upto_region 4 with fail
    obtain ⟨w2, hw2⟩ : ∃ u, u = w1.alloc (.cells #[.string nm, .int .i64 (st : Int), .slice A2 m c2] 25) := ⟨_, rfl⟩
    obtain ⟨b, hb⟩ : ∃ b, b = w1.heap.size := ⟨_, rfl⟩
    rw [← hw2] at K R HW ⊢
    rw [← hb] at K ⊢
    clear hw2 hb
    have HT := Lib.hid (fun h => And.intro (fhOk_turn (nm := nm) (st := st) (l := L) (f := f) h) (And.intro (fhV_turn h) (And.intro (fhV_sh h) (fhOk_t h))))
    have HH := Lib.hid (fun h g => And.intro (fhs_in (nm := nm) (st := st) (l := L) (f := f) h g) (fhs_rounds h g))
    obtain ⟨p, hp⟩ : ∃ u, u = fhOk nm st L f := ⟨_, rfl⟩
    obtain ⟨v, hv⟩ : ∃ u, u = fhV nm st L f := ⟨_, rfl⟩
    obtain ⟨q, hq⟩ : ∃ u, u = fhsOk nm st L := ⟨_, rfl⟩
    obtain ⟨x, hx⟩ : ∃ u, u = ltV nm st L := ⟨_, rfl⟩
    obtain ⟨y, hy⟩ : ∃ u, u = goodM nm (st : Int) L := ⟨_, rfl⟩
    obtain ⟨SL, hSL⟩ : ∃ u, u = shV nm st L f := ⟨_, rfl⟩
    obtain ⟨FL, hFL⟩ : ∃ u, u = fhsV nm st L := ⟨_, rfl⟩
    rw [← hp, ← hv, ← hSL] at HT
    rw [← hp, ← hv, ← hq, ← hFL] at HH
    have GP := Lib.hid hp; have GV := Lib.hid hv; have GQ := Lib.hid hq; have GX := Lib.hid hx; have GY := Lib.hid hy; have GS := Lib.hid hSL; have GF := Lib.hid hFL
    clear hp hv hq hx hy hSL hFL
    have kc0 := K.cell 0; have kc1 := K.cell 1; have kc2 := K.cell 2
    simp only [List.getElem?_cons_zero, List.getElem?_cons_succ] at kc0 kc1 kc2
    go_wp2_with fail
    refine (impl_IsFalseHead HLl.out R hz20 hdf.2.2.2.1 hdf.1 hdf.2.1 hfz).mono ?_; rw [← GP.out, ← GV.out]; rintro e w3 ⟨rfl, hb3⟩
    clear kc0 kc1 kc2
    replace K := K.up hb3
    replace R := R.up hb3
    replace HW := below_go HW hb3
    clear hb3
    have kc0 := K.cell 0; have kc1 := K.cell 1; have kc2 := K.cell 2
    simp only [List.getElem?_cons_zero, List.getElem?_cons_succ] at kc0 kc1 kc2
    go_wp2_with fail
    refine (spec_IsFalseHead HLl.out R hz20 hdf.2.2.2.1 hdf.1 hdf.2.1 hfz).mono ?_; rw [← GP.out, ← GV.out]; rintro e w4 ⟨rfl, hb4⟩
    clear kc0 kc1 kc2
    replace K := K.up hb4
    replace R := R.up hb4
    replace HW := below_go HW hb4
    clear hb4
    have kc0 := K.cell 0; have kc1 := K.cell 1; have kc2 := K.cell 2
    simp only [List.getElem?_cons_zero, List.getElem?_cons_succ] at kc0 kc1 kc2
    go_wp2_with fail
    refine (impl_SharedRows HLl.out R hz20 hdf.2.2.2.1 hdf.1 hdf.2.1 hfz).mono ?_; rw [← GP.out, ← GS.out]; rintro e w5 ⟨A5, m5, d5, rfl, o5, z5, hb5⟩
    clear kc0 kc1 kc2
    replace K := K.up hb5
    replace R := R.up hb5
    replace HW := below_go HW hb5
    clear hb5
    have R5 := o5.recs
    have HL5 := Lib.hid o5.len
    clear o5
    have kc0 := K.cell 0; have kc1 := K.cell 1; have kc2 := K.cell 2
    simp only [List.getElem?_cons_zero, List.getElem?_cons_succ] at kc0 kc1 kc2
    go_wp2_with fail
    refine (spec_SharedRows HLl.out R hz20 hdf.2.2.2.1 hdf.1 hdf.2.1 hfz).mono ?_; rw [← GP.out, ← GS.out]; rintro e w6 ⟨A6, m6, d6, rfl, o6, z6, hb6⟩
    clear kc0 kc1 kc2
    replace K := K.up hb6
    replace R := R.up hb6
    replace R5 := R5.up hb6
    replace HW := below_go HW hb6
    clear hb6
    obtain rfl : m5 = m6 := by rw [← HL5.out, o6.len]
    have R6 := o6.recs
    clear o6
    have kc0 := K.cell 0; have kc1 := K.cell 1; have kc2 := K.cell 2
    simp only [List.getElem?_cons_zero, List.getElem?_cons_succ] at kc0 kc1 kc2
    go_wp2_with fail
    refine (impl_FalseHeads HLl.out R hz20 hdf.2.2.2.1 hdf.1 hdf.2.1).mono ?_; rw [← GQ.out, ← GF.out]; rintro e w7 ⟨A7, m7, d7, rfl, o7, z7, hb7⟩
    clear kc0 kc1 kc2
    replace K := K.up hb7
    replace R := R.up hb7
    replace R5 := R5.up hb7
    replace R6 := R6.up hb7
    replace HW := below_go HW hb7
    clear hb7
    have R7 := o7.recs
    have HL7 := Lib.hid o7.len
    clear o7
    have kc0 := K.cell 0; have kc1 := K.cell 1; have kc2 := K.cell 2
    simp only [List.getElem?_cons_zero, List.getElem?_cons_succ] at kc0 kc1 kc2
    go_wp2_with fail
    refine (spec_FalseHeads HLl.out R hz20 hdf.2.2.2.1 hdf.1 hdf.2.1).mono ?_; rw [← GQ.out, ← GF.out]; rintro e w8 ⟨A8, m8, d8, rfl, o8, z8, hb8⟩
    clear kc0 kc1 kc2
    replace K := K.up hb8
    replace R := R.up hb8
    replace R5 := R5.up hb8
    replace R6 := R6.up hb8
    replace R7 := R7.up hb8
    replace HW := below_go HW hb8
    clear hb8
    obtain rfl : m7 = m8 := by rw [← HL7.out, o8.len]
    have R8 := o8.recs
    clear o8
    have kc0 := K.cell 0; have kc1 := K.cell 1; have kc2 := K.cell 2
    simp only [List.getElem?_cons_zero, List.getElem?_cons_succ] at kc0 kc1 kc2
    go_wp2_with fail
    refine (impl_IsLeadTrue HLl.out R hz20 hdf.2.2.2.1 hdf.1 hdf.2.1).mono ?_; rw [← GX.out, ← GY.out]; rintro e w9 ⟨rfl, hb9⟩
    clear kc0 kc1 kc2
    replace K := K.up hb9
    replace R := R.up hb9
    replace R5 := R5.up hb9
    replace R6 := R6.up hb9
    replace R7 := R7.up hb9
    replace R8 := R8.up hb9
    replace HW := below_go HW hb9
    clear hb9
    have kc0 := K.cell 0; have kc1 := K.cell 1; have kc2 := K.cell 2
    simp only [List.getElem?_cons_zero, List.getElem?_cons_succ] at kc0 kc1 kc2
    go_wp2_with fail
    refine (spec_IsLeadTrue HLl.out R hz20 hdf.2.2.2.1 hdf.1 hdf.2.1).mono ?_; rw [← GX.out, ← GY.out]; rintro e w10 ⟨rfl, hb10⟩
    clear kc0 kc1 kc2
    replace K := K.up hb10
    replace R := R.up hb10
    replace R5 := R5.up hb10
    replace R6 := R6.up hb10
    replace R7 := R7.up hb10
    replace R8 := R8.up hb10
    replace HW := below_go HW hb10
    clear hb10
    go_wp2_with fail
    refine (draw_SameFalse (S1.out.over HW)).mono ?_; rintro e w20 ⟨na, sa, A21, m21, c21, La, nb, sb, A22, m22, c22, Lb, rfl, dra, drb, oa, ob, hb20⟩
    have hda := drM_f dra
    have hdb := drM_f drb
    have HLa := Lib.hid oa.len
    have HLb := Lib.hid ob.len
    have z21 : m21 ≤ 1048576 := by have := HLa.out; omega
    have z22 : m22 ≤ 1048576 := by have := HLb.out; omega
    clear dra drb
    replace K := K.up hb20
    replace R := R.up hb20
    replace R5 := R5.up hb20
    replace R6 := R6.up hb20
    replace R7 := R7.up hb20
    replace R8 := R8.up hb20
    replace HW := below_go HW hb20
    clear hb20
    have a20 : Below w20.heap.size w20 ((w20.alloc (.cells #[.string na, .int .i64 (sa : Int), .slice A21 m21 c21] 25)).alloc (.cells #[.string nb, .int .i64 (sb : Int), .slice A22 m22 c22] 25)) := by (repeat' (first | (with_reducible exact Below.refl _ _) | (with_reducible assumption) | (with_reducible refine below_drewN ?_ _) | (with_reducible refine Below.drew ?_) | (with_reducible refine below_alloc ?_ _) | (with_reducible refine Below.alloc ?_ ?_ _) | (with_reducible refine Below.setCell ?_ ?_ _) | (with_reducible refine below_go ?_ (by with_reducible assumption)) | (with_reducible refine below_then (by with_reducible assumption) ?_ ?_) | go_size))
    have Ka := (Blk.at_ w20 25 [.string na, .int .i64 (sa : Int), .slice A21 m21 c21] (b := w20.heap.size) rfl).alloc (.cells #[.string nb, .int .i64 (sb : Int), .slice A22 m22 c22] 25)
    have Kb := Blk.at_ (w20.alloc (.cells #[.string na, .int .i64 (sa : Int), .slice A21 m21 c21] 25)) 25 [.string nb, .int .i64 (sb : Int), .slice A22 m22 c22] (b := w20.heap.size + 1) (by simp)
    have Ra := oa.recs.up a20
    have Rb := ob.recs.up a20
    clear oa ob
    replace K := K.up a20
    replace R := R.up a20
    replace R5 := R5.up a20
    replace R6 := R6.up a20
    replace R7 := R7.up a20
    replace R8 := R8.up a20
    replace HW := below_go HW a20
    clear a20
    go_upto_region 13 with fail
    obtain ⟨w21, hw21⟩ : ∃ u, u = (w20.alloc (.cells #[.string na, .int .i64 (sa : Int), .slice A21 m21 c21] 25)).alloc (.cells #[.string nb, .int .i64 (sb : Int), .slice A22 m22 c22] 25) := ⟨_, rfl⟩
    rw [← hw21] at K R HW Ka Kb Ra Rb R5 R6 R7 R8 ⊢
    clear hw21
    obtain ⟨t, ht⟩ : ∃ u, u = sfV na sa La nb sb Lb := ⟨_, rfl⟩
    obtain ⟨u, hu⟩ : ∃ u, u = sfOk na sa La nb sb Lb := ⟨_, rfl⟩
    have GT := Lib.hid ht; have GU := Lib.hid hu
    clear ht hu
    have ac0 := Ka.cell 0; have ac1 := Ka.cell 1; have ac2 := Ka.cell 2
    simp only [List.getElem?_cons_zero, List.getElem?_cons_succ] at ac0 ac1 ac2
    have bc0 := Kb.cell 0; have bc1 := Kb.cell 1; have bc2 := Kb.cell 2
    simp only [List.getElem?_cons_zero, List.getElem?_cons_succ] at bc0 bc1 bc2
    go_wp2_with fail
    refine (impl_SameFalse HLa.out Ra z21 hda.2.2.2.1 hda.1 hda.2.1 HLb.out Rb z22 hdb.2.2.2.1 hdb.1 hdb.2.1).mono ?_; rw [← GT.out, ← GU.out]; rintro e w22 ⟨rfl, hb22⟩
    clear ac0 ac1 ac2 bc0 bc1 bc2
    replace K := K.up hb22
    replace Ka := Ka.up hb22
    replace Kb := Kb.up hb22
    replace R := R.up hb22
    replace R5 := R5.up hb22
    replace R6 := R6.up hb22
    replace R7 := R7.up hb22
    replace R8 := R8.up hb22
    replace Ra := Ra.up hb22
    replace Rb := Rb.up hb22
    replace HW := below_go HW hb22
    clear hb22
    have ac0 := Ka.cell 0; have ac1 := Ka.cell 1; have ac2 := Ka.cell 2
    simp only [List.getElem?_cons_zero, List.getElem?_cons_succ] at ac0 ac1 ac2
    have bc0 := Kb.cell 0; have bc1 := Kb.cell 1; have bc2 := Kb.cell 2
    simp only [List.getElem?_cons_zero, List.getElem?_cons_succ] at bc0 bc1 bc2
    go_wp2_with fail
    refine (spec_SameFalse HLa.out Ra z21 hda.2.2.2.1 hda.1 hda.2.1 HLb.out Rb z22 hdb.2.2.2.1 hdb.1 hdb.2.1).mono ?_; rw [← GT.out, ← GU.out]; rintro e w23 ⟨rfl, hb23⟩
    clear ac0 ac1 ac2 bc0 bc1 bc2
    replace K := K.up hb23
    replace Ka := Ka.up hb23
    replace Kb := Kb.up hb23
    replace R := R.up hb23
    replace R5 := R5.up hb23
    replace R6 := R6.up hb23
    replace R7 := R7.up hb23
    replace R8 := R8.up hb23
    replace Ra := Ra.up hb23
    replace Rb := Rb.up hb23
    replace HW := below_go HW hb23
    clear hb23
    clear Ka Kb Ra Rb HLa HLb hda hdb GT GU
    go_wp2_with fail
    refine (laws_qSameS HL5.out R5 R6 (by omega)).mono ?_; rintro e w24 ⟨rfl, hb24⟩
    replace K := K.up hb24
    replace R := R.up hb24
    replace R5 := R5.up hb24
    replace R6 := R6.up hb24
    replace R7 := R7.up hb24
    replace R8 := R8.up hb24
    replace HW := below_go HW hb24
    clear hb24
    go_wp2_with fail
    refine (laws_qSameS HL7.out R7 R8 (by omega)).mono ?_; rintro e w25 ⟨rfl, hb25⟩
    replace K := K.up hb25
    replace R := R.up hb25
    replace R5 := R5.up hb25
    replace R6 := R6.up hb25
    replace R7 := R7.up hb25
    replace R8 := R8.up hb25
    replace HW := below_go HW hb25
    clear hb25
    clear R5 R6 R8
    rcases p
    · go_wp2
      go_ret
      exact ⟨rfl, HW⟩
    · obtain ⟨hto, htv, hts, hft⟩ := HT.out rfl
      have HTO := Lib.hid hto; have HTV := Lib.hid htv; have HTS := Lib.hid hts
      have h38 := hft.2.2.1
      have HFN := Lib.hid hft.2.1
      have tz : (turnS f).size ≤ 16777216 := by have := (turn_rowN HFN.out).2; omega
      clear hto htv hts hft
      go_wp2_with fail
      refine (spec_TurnRow HFN.out.1 hfz).mono ?_; rintro e w26 ⟨rfl, hb26⟩
      replace K := K.up hb26
      replace R := R.up hb26
      replace R7 := R7.up hb26
      replace HW := below_go HW hb26
      clear hb26
      obtain ⟨g, hg⟩ : ∃ u, u = turnS f := ⟨_, rfl⟩
      rw [← hg] at HTO HTV tz ⊢
      clear hg
      have kc0 := K.cell 0; have kc1 := K.cell 1; have kc2 := K.cell 2
      simp only [List.getElem?_cons_zero, List.getElem?_cons_succ] at kc0 kc1 kc2
      go_wp2_with fail
      refine (impl_IsFalseHead (f := g) HLl.out R hz20 hdf.2.2.2.1 hdf.1 hdf.2.1 tz).mono ?_; rw [HTO.out, HTV.out]; rintro e w27 ⟨rfl, hb27⟩
      clear kc0 kc1 kc2
      replace K := K.up hb27
      replace R := R.up hb27
      replace R7 := R7.up hb27
      replace HW := below_go HW hb27
      clear hb27
      have hvm : v = decide ((0 : Int) < (m5 : Int)) := by rw [HTS.out, HL5.out, Bool.eq_iff_iff, decide_eq_true_iff, decide_eq_true_iff]; omega
      have HVM := Lib.hid hvm
      rcases q
      · rcases v
        · have hI : ¬ (0 : Int) < (m5 : Int) := by intro e; rw [decide_eq_true e] at hvm; cases hvm
          clear hvm
          go_wp2
          go_ret
          exact ⟨rfl, HW⟩
        · have hI : (0 : Int) < (m5 : Int) := of_decide_eq_true hvm.symm
          have hI2 : 0 < m5 := by omega
          have hI3 : (0 : Int) ≠ (m5 : Int) := by omega
          have hI4 : decide ((0 : Int) < (m5 : Int)) = true := hvm.symm
          clear hvm
          go_wp2
          go_ret
          exact ⟨rfl, HW⟩
      · obtain ⟨hin, hro⟩ := HH.out (by trivial) (by trivial)
        have HIN := Lib.hid hin; have HRO := Lib.hid hro
        have k1 := K.cell 1
        simp only [List.getElem?_cons_zero, List.getElem?_cons_succ] at k1
        clear hin hro
        rcases v
        · have hI : ¬ (0 : Int) < (m5 : Int) := by intro e; rw [decide_eq_true e] at hvm; cases hvm
          clear hvm
          go_wp2_with fail
          refine (spec_RoundsOf h38.1 h38.2).mono ?_; rintro e w' ⟨rfl, rfl⟩
          obtain ⟨r, hr⟩ : ∃ u, u = roundsS st := ⟨_, rfl⟩
          rw [← hr] at HRO ⊢
          clear hr
          have RF := Lib.hid R7
          have HWW := Lib.hid HW
          clear R R7 HW K k1
          go_wp2
          go_loopw [35, 36, 202] (fun s t i wr => ∃ k : Nat, k ≤ m7 ∧ s = .bool (inL (FL.take k) f) ∧ t = .bool (inL (FL.take k) r) ∧ i = .int .i64 k ∧ w27 = wr) (fun _ _ i _ => m7 - (intOf i).toNat)
          case atStart => exact ⟨0, Nat.zero_le _, rfl, rfl, rfl, rfl⟩
          case round =>
            obtain ⟨k, hk, rfl, rfl, rfl, rfl⟩ := hrel
            by_cases hlt : k < m7
            · have hI : (k : Int) < (m7 : Int) := by omega
              obtain ⟨bb, oo, y, hA, _, hy, hcy⟩ := RF.out.at_str (k := k) (by rw [HL7.out]; exact hlt)
              subst hA
              have HF1 := Lib.hid (inL_take (f := f) hy)
              have HF2 := Lib.hid (inL_take (f := r) hy)
              clear hy
              obtain ⟨s1, hs1⟩ : ∃ u, u = inL (FL.take k) f := ⟨_, rfl⟩
              obtain ⟨s2, hs2⟩ : ∃ u, u = inL (FL.take k) r := ⟨_, rfl⟩
              rw [← hs1] at HF1 ⊢
              rw [← hs2] at HF2 ⊢
              clear hs1 hs2
              rcases s1 <;> rcases s2
              all_goals
                go_wp2
                go_roundw
                case rel => exact ⟨k + 1, by omega, by rw [HF1.out]; simp, by rw [HF2.out]; simp, by go_num, trivial⟩
                case measure => simp [intOf]; omega
            · obtain rfl : k = m7 := by omega
              have hI : ¬ (k : Int) < (k : Int) := by omega
              have e1 : FL.take k = FL := List.take_of_length_le (by rw [HL7.out]; omega)
              rw [e1, HIN.out, HRO.out]
              clear e1
              go_wp2
              go_ret
              exact ⟨rfl, HWW.out⟩
        · have hI : (0 : Int) < (m5 : Int) := of_decide_eq_true hvm.symm
          have hI2 : 0 < m5 := by omega
          clear hvm
          go_wp2_with fail
          refine (spec_RoundsOf h38.1 h38.2).mono ?_; rintro e w' ⟨rfl, rfl⟩
          obtain ⟨r, hr⟩ : ∃ u, u = roundsS st := ⟨_, rfl⟩
          rw [← hr] at HRO ⊢
          clear hr
          have RF := Lib.hid R7
          have HWW := Lib.hid HW
          clear R R7 HW K k1
          go_wp2
          go_loopw [35, 36, 202] (fun s t i wr => ∃ k : Nat, k ≤ m7 ∧ s = .bool (inL (FL.take k) f) ∧ t = .bool (inL (FL.take k) r) ∧ i = .int .i64 k ∧ w27 = wr) (fun _ _ i _ => m7 - (intOf i).toNat)
          case atStart => exact ⟨0, Nat.zero_le _, rfl, rfl, rfl, rfl⟩
          case round =>
            obtain ⟨k, hk, rfl, rfl, rfl, rfl⟩ := hrel
            by_cases hlt : k < m7
            · have hI : (k : Int) < (m7 : Int) := by omega
              obtain ⟨bb, oo, y, hA, _, hy, hcy⟩ := RF.out.at_str (k := k) (by rw [HL7.out]; exact hlt)
              subst hA
              have HF1 := Lib.hid (inL_take (f := f) hy)
              have HF2 := Lib.hid (inL_take (f := r) hy)
              clear hy
              obtain ⟨s1, hs1⟩ : ∃ u, u = inL (FL.take k) f := ⟨_, rfl⟩
              obtain ⟨s2, hs2⟩ : ∃ u, u = inL (FL.take k) r := ⟨_, rfl⟩
              rw [← hs1] at HF1 ⊢
              rw [← hs2] at HF2 ⊢
              clear hs1 hs2
              rcases s1 <;> rcases s2
              all_goals
                go_wp2
                go_roundw
                case rel => exact ⟨k + 1, by omega, by rw [HF1.out]; simp, by rw [HF2.out]; simp, by go_num, trivial⟩
                case measure => simp [intOf]; omega
            · obtain rfl : k = m7 := by omega
              have hI : ¬ (k : Int) < (k : Int) := by omega
              have e1 : FL.take k = FL := List.take_of_length_le (by rw [HL7.out]; omega)
              rw [e1, HIN.out, HRO.out]
              clear e1
              go_wp2
              go_ret
              exact ⟨rfl, HWW.out⟩
  · have hI : 1048576 < wrap64 ((l0.length : Int) + (l1.length : Int)) := by omega
    go_in
    go_wp2
    go_ret
    exact ⟨rfl, Below.refl _ _⟩
end Go.Proofs.YtidolgonmimicaaGreat
