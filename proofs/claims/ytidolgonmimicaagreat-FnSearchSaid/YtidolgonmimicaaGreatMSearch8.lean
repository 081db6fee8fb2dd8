/- Texts 8 of 9 that the claim leans on: plain laws and the walks' contracts, in order. -/
import Derived.Test.YtidolgonmimicaaGreatMSearch7
set_option linter.unusedVariables false
set_option linter.unusedSimpArgs false
namespace Go.Proofs.YtidolgonmimicaaGreat
open Go.ChangeShapes Go.WideShapes Go.ChangeAt Go.RowKit Go.Deep
def CSt (w u : World) (p : Nat) (A : Option Addr) (n c a b : Nat) (kb ks : ByteArray) : Prop :=
 Blk u b 27 [.string kb, .string ks] ∧ Cur u p A n c a ∧ (∃ x y, Blk u (w.heap.size + 1) 27 [x, y]) ∧ w.grownBy u (some p) ∧ p < w.heap.size ∧ w.heap.size + 1 < b
section
variable {w u u' : World} {p n c a a' b : Nat} {A : Option Addr} {kb ks : ByteArray}
theorem CSt.mono (h : CSt w u p A n c a b kb ks) (ha : a ≤ a') : CSt w u p A n c a' b kb ks := ⟨h.1, h.2.1.mono ha, h.2.2⟩
theorem CSt.draw (h : CSt w u p A n c a b kb ks) (hg : u.grownBy u' (some p)) (hc : Cur u' p A n c a') : CSt w u' p A n c a' b kb ks := by
 obtain ⟨h1, _, ⟨x, y, h3⟩, h4, h5, h6⟩ := h
 exact ⟨h1.grown hg (fun e => by injection e with e; omega), hc, ⟨x, y, h3.grown hg (fun e => by injection e with e; omega)⟩, grownBy_trans h4 hg, h5, h6⟩
theorem CSt.up (h : CSt w u p A n c a b kb ks) (hb : Below u.heap.size u u') : CSt w u' p A n c a b kb ks := by
 obtain ⟨h1, h2, ⟨x, y, h3⟩, h4, h5, h6⟩ := h
 exact ⟨h1.up hb, h2.up hb, ⟨x, y, h3.up hb⟩, grownBy_trans h4 (grown_any hb _), h5, h6⟩
theorem CSt.put0 {x : ByteArray} (h : CSt w u p A n c a b kb ks) : CSt w (u.setCell ⟨b, 0, none⟩ (.string x)) p A n c a b x ks := by
 obtain ⟨h1, h2, ⟨q, y, h3⟩, h4, h5, h6⟩ := h
 have hg : u.grownBy (u.setCell ⟨b, 0, none⟩ (.string x)) (some b) := only_set u (p := ⟨b, 0, none⟩) (.string x)
 exact ⟨h1.set_ 0 (.string x), h2.grown hg (fun e => by injection e with e; omega), ⟨q, y, h3.grown hg (fun e => by injection e with e; omega)⟩, grow_own h4 hg (fun k e => by injection e with e; omega), h5, h6⟩
theorem CSt.put1 {x : ByteArray} (h : CSt w u p A n c a b kb ks) : CSt w (u.setCell ⟨b, 1, none⟩ (.string x)) p A n c a b kb x := by
 obtain ⟨h1, h2, ⟨q, y, h3⟩, h4, h5, h6⟩ := h
 have hg : u.grownBy (u.setCell ⟨b, 1, none⟩ (.string x)) (some b) := only_set u (p := ⟨b, 1, none⟩) (.string x)
 exact ⟨h1.set_ 1 (.string x), h2.grown hg (fun e => by injection e with e; omega), ⟨q, y, h3.grown hg (fun e => by injection e with e; omega)⟩, grow_own h4 hg (fun k e => by injection e with e; omega), h5, h6⟩
end
set_option maxHeartbeats 4000000 in
set_option maxRecDepth 100000 in
theorem cur_calls {A B : Option Addr} {n c a p st m d : Nat} {nm : ByteArray} {w0 w : World} (hS : Src w0 A n) (hb : Below w0.heap.size w0 w) (hp : w0.heap.size ≤ p) (hc : Cur w p A n c a) (ha : a ≤ 1000000) (h3 : 3 ≤ st) (h8 : st ≤ 8) :
  Calls Tryz.prog 195 #[.pointer (some ⟨p, 0, none⟩), .agg #[.string nm, .int .i64 st, .slice B m d]] w fun e w' => ∃ kb ks : ByteArray, e = .returned (.agg #[.string kb, .string ks]) ∧ kb.size ≤ 8 ∧ ks.size ≤ 8 ∧ Cur w' p A n c (a + 10) ∧ w.grownBy w' (some p) := by
 have hpw := hc.lt
 have R0 := Blk.at_ (w.alloc (.cells #[.string nm, .int .i64 (st : Int), .slice B m d] 25)) 27 [.string ⟨#[]⟩, .string ⟨#[]⟩] (b := w.heap.size + 1) (by simp)
 have b0 : Below w.heap.size w ((w.alloc (.cells #[.string nm, .int .i64 (st : Int), .slice B m d] 25)).alloc (.cells #[.string ⟨#[]⟩, .string ⟨#[]⟩] 27)) := by (repeat' (first | (with_reducible exact Below.refl _ _) | (with_reducible assumption) | (with_reducible refine below_drewN ?_ _) | (with_reducible refine Below.drew ?_) | (with_reducible refine below_alloc ?_ _) | (with_reducible refine Below.alloc ?_ ?_ _) | (with_reducible refine Below.setCell ?_ ?_ _) | (with_reducible refine below_go ?_ (by with_reducible assumption)) | (with_reducible refine below_then (by with_reducible assumption) ?_ ?_) | go_size))
 have G : Hid (∀ u : World, w.grownBy u (some p) → Below w0.heap.size w0 u) := Lib.hid (fun u hg => grown_below hb hp hg)
 have HS := Lib.hid hS
 clear hS hb
 go_in
 go_wp2_with fail
 obtain ⟨w1, hw1⟩ : ∃ u, u = ((w.alloc (.cells #[.string nm, .int .i64 (st : Int), .slice B m d] 25)).alloc (.cells #[.string ⟨#[]⟩, .string ⟨#[]⟩] 27)) := ⟨_, rfl⟩
 have z1 : w1.heap.size = w.heap.size + 2 := by rw [hw1]; simp
 rw [← hw1] at b0 R0 ⊢
 clear hw1
 refine (cur_change HS.out (G.out _ (grown_any b0 _)) hp (hc.up b0) (by omega) h8 h3).mono ?_; rintro e w2 ⟨x, rfl, _, zx, hc2, hg2⟩
 have g2 : w.grownBy w2 (some p) := grownBy_trans (grown_any b0 _) hg2
 have R2 := R0.grown hg2 (fun e => by injection e with e; omega)
 clear R0 hc b0
 go_wp2_with fail
 refine (cur_change HS.out (G.out _ g2) hp hc2 (by omega) h8 h3).mono ?_; rintro e w3 ⟨y, rfl, _, zy, hc3, hg3⟩
 have g3 := grownBy_trans g2 hg3
 have R3 := R2.grown hg3 (fun e => by injection e with e; omega)
 have s2 := hg2.size
 have s3 := hg3.size
 have K3 := Blk.at_ w3 27 [.string x, .string y] (b := w3.heap.size) rfl
 have a3 : Below w3.heap.size w3 (w3.alloc (.cells #[.string x, .string y] 27)) := by (repeat' (first | (with_reducible exact Below.refl _ _) | (with_reducible assumption) | (with_reducible refine below_drewN ?_ _) | (with_reducible refine Below.drew ?_) | (with_reducible refine below_alloc ?_ _) | (with_reducible refine Below.alloc ?_ ?_ _) | (with_reducible refine Below.setCell ?_ ?_ _) | (with_reducible refine below_go ?_ (by with_reducible assumption)) | (with_reducible refine below_then (by with_reducible assumption) ?_ ?_) | go_size))
 have HM3 := Lib.hid (show CSt w (w3.alloc (.cells #[.string x, .string y] 27)) p A n c (a + 2) w3.heap.size x y from ⟨K3, hc3.up a3, ⟨_, _, R3.up a3⟩, grownBy_trans g3 (grown_any a3 _), hpw, by omega⟩)
 clear R2 R3 hc2 hc3 hg2 hg3 K3 a3 g2 g3
 go_upto_region 3 with fail
 obtain ⟨w4, hw4⟩ : ∃ u, u = w3.alloc (.cells #[.string x, .string y] 27) := ⟨_, rfl⟩
 obtain ⟨b, hb⟩ : ∃ b, b = w3.heap.size := ⟨_, rfl⟩
 rw [← hw4] at HM3 ⊢
 rw [← hb] at HM3 ⊢
 clear hw4 hb s2 s3 z1
 have hst : st = 3 ∨ st = 4 ∨ st = 5 ∨ st = 6 ∨ st = 7 ∨ st = 8 := by omega
 clear h3 h8
 rcases hst with rfl | rfl | rfl | rfl | rfl | rfl
 ·skip
  have HM := HM3
  clear HM3
  obtain ⟨K1, K2, ⟨rx, ry, K3⟩, K4, K5, K6⟩ := HM.out
  have kc0 := K1.cell 0; have kc1 := K1.cell 1
  have kd0 := K3.cell 0; have kd1 := K3.cell 1
  have kf0 := K3.frozen 0; have kf1 := K3.frozen 1
  simp only [List.getElem?_cons_zero, List.getElem?_cons_succ] at kc0 kc1 kd0 kd1
  have Z := (K3.set_ 0 (.string x)).set_ 1 (.string y)
  have y0 := Z.cell 0; have y1 := Z.cell 1
  simp only [List.set_cons_zero, List.set_cons_succ, List.getElem?_cons_zero, List.getElem?_cons_succ] at y0 y1
  have HK := Lib.hid K2; have HGR := Lib.hid K4
  clear K1 K2 K3 K4 Z
  go_wp2_with fail
  refine bodyPost_ret (v := .agg #[.string x, .string y]) (by simp [results, Tryz.results195, go_sem, y0, y1]) rfl ?_
  have hq := sets2_grown w4 (w.heap.size + 1) (.string x) (.string y)
  exact ⟨x, y, rfl, zx, zy, (HK.out.grown hq (fun e => by injection e with e; omega)).mono (by omega), grow_own HGR.out hq (fun k e => by injection e with e; omega)⟩
 ·skip
  go_wp2_with fail
  refine (cur_one HS.out (G.out _ HM3.out.2.2.2.1) hp HM3.out.2.1 (by omega) (by decide) (by decide)).mono ?_; rintro e w5 ⟨b1, rfl, hc5, hg5⟩
  have HM5 := Lib.hid (HM3.out.draw hg5 hc5)
  clear hc5 hg5 HM3
  rcases b1
  ·skip
   have g0 := HM5.out.1.cell 0; have g1 := HM5.out.1.cell 1; have e0 := HM5.out.1.frozen 0; have e1 := HM5.out.1.frozen 1
   simp only [List.getElem?_cons_zero, List.getElem?_cons_succ] at g0 g1
   have HM := Lib.hid ((((HM5.out.put0 (x := ⟨#[49, 52]⟩)).put1 (x := ⟨#[49, 50, 51, 52]⟩)).put1 (x := ⟨#[49, 50]⟩)).put0 (x := ⟨#[49, 52]⟩))
   clear HM5
   obtain ⟨K1, K2, ⟨rx, ry, K3⟩, K4, K5, K6⟩ := HM.out
   have kc0 := K1.cell 0; have kc1 := K1.cell 1
   have kd0 := K3.cell 0; have kd1 := K3.cell 1
   have kf0 := K3.frozen 0; have kf1 := K3.frozen 1
   simp only [List.getElem?_cons_zero, List.getElem?_cons_succ] at kc0 kc1 kd0 kd1
   have Z := (K3.set_ 0 (.string ⟨#[49, 52]⟩)).set_ 1 (.string ⟨#[49, 50]⟩)
   have y0 := Z.cell 0; have y1 := Z.cell 1
   simp only [List.set_cons_zero, List.set_cons_succ, List.getElem?_cons_zero, List.getElem?_cons_succ] at y0 y1
   have HK := Lib.hid K2; have HGR := Lib.hid K4
   clear K1 K2 K3 K4 Z
   go_wp2_with fail
   refine bodyPost_ret (v := .agg #[.string ⟨#[49, 52]⟩, .string ⟨#[49, 50]⟩]) (by simp [results, Tryz.results195, go_sem, y0, y1]) rfl ?_
   have hq := sets2_grown ((((w5.setCell ⟨b, 0, none⟩ (.string ⟨#[49, 52]⟩)).setCell ⟨b, 1, none⟩ (.string ⟨#[49, 50, 51, 52]⟩)).setCell ⟨b, 1, none⟩ (.string ⟨#[49, 50]⟩)).setCell ⟨b, 0, none⟩ (.string ⟨#[49, 52]⟩)) (w.heap.size + 1) (.string ⟨#[49, 52]⟩) (.string ⟨#[49, 50]⟩)
   exact ⟨⟨#[49, 52]⟩, ⟨#[49, 50]⟩, rfl, by decide, by decide, (HK.out.grown hq (fun e => by injection e with e; omega)).mono (by omega), grow_own HGR.out hq (fun k e => by injection e with e; omega)⟩
  ·skip
   have HM := HM5
   clear HM5
   obtain ⟨K1, K2, ⟨rx, ry, K3⟩, K4, K5, K6⟩ := HM.out
   have kc0 := K1.cell 0; have kc1 := K1.cell 1
   have kd0 := K3.cell 0; have kd1 := K3.cell 1
   have kf0 := K3.frozen 0; have kf1 := K3.frozen 1
   simp only [List.getElem?_cons_zero, List.getElem?_cons_succ] at kc0 kc1 kd0 kd1
   have Z := (K3.set_ 0 (.string x)).set_ 1 (.string y)
   have y0 := Z.cell 0; have y1 := Z.cell 1
   simp only [List.set_cons_zero, List.set_cons_succ, List.getElem?_cons_zero, List.getElem?_cons_succ] at y0 y1
   have HK := Lib.hid K2; have HGR := Lib.hid K4
   clear K1 K2 K3 K4 Z
   go_wp2_with fail
   refine bodyPost_ret (v := .agg #[.string x, .string y]) (by simp [results, Tryz.results195, go_sem, y0, y1]) rfl ?_
   have hq := sets2_grown w5 (w.heap.size + 1) (.string x) (.string y)
   exact ⟨x, y, rfl, zx, zy, (HK.out.grown hq (fun e => by injection e with e; omega)).mono (by omega), grow_own HGR.out hq (fun k e => by injection e with e; omega)⟩
 ·skip
  go_wp2_with fail
  refine (cur_one HS.out (G.out _ HM3.out.2.2.2.1) hp HM3.out.2.1 (by omega) (by decide) (by decide)).mono ?_; rintro e w5 ⟨b1, rfl, hc5, hg5⟩
  have HM5 := Lib.hid (HM3.out.draw hg5 hc5)
  clear hc5 hg5 HM3
  rcases b1
  ·skip
   have g0 := HM5.out.1.cell 0; have g1 := HM5.out.1.cell 1; have e0 := HM5.out.1.frozen 0; have e1 := HM5.out.1.frozen 1
   simp only [List.getElem?_cons_zero, List.getElem?_cons_succ] at g0 g1
   have HM := Lib.hid ((HM5.out.put0 (x := ⟨#[49, 52, 53]⟩)).put1 (x := ⟨#[49, 50, 51]⟩))
   clear HM5
   obtain ⟨K1, K2, ⟨rx, ry, K3⟩, K4, K5, K6⟩ := HM.out
   have kc0 := K1.cell 0; have kc1 := K1.cell 1
   have kd0 := K3.cell 0; have kd1 := K3.cell 1
   have kf0 := K3.frozen 0; have kf1 := K3.frozen 1
   simp only [List.getElem?_cons_zero, List.getElem?_cons_succ] at kc0 kc1 kd0 kd1
   have Z := (K3.set_ 0 (.string ⟨#[49, 52, 53]⟩)).set_ 1 (.string ⟨#[49, 50, 51]⟩)
   have y0 := Z.cell 0; have y1 := Z.cell 1
   simp only [List.set_cons_zero, List.set_cons_succ, List.getElem?_cons_zero, List.getElem?_cons_succ] at y0 y1
   have HK := Lib.hid K2; have HGR := Lib.hid K4
   clear K1 K2 K3 K4 Z
   go_wp2_with fail
   refine bodyPost_ret (v := .agg #[.string ⟨#[49, 52, 53]⟩, .string ⟨#[49, 50, 51]⟩]) (by simp [results, Tryz.results195, go_sem, y0, y1]) rfl ?_
   have hq := sets2_grown ((w5.setCell ⟨b, 0, none⟩ (.string ⟨#[49, 52, 53]⟩)).setCell ⟨b, 1, none⟩ (.string ⟨#[49, 50, 51]⟩)) (w.heap.size + 1) (.string ⟨#[49, 52, 53]⟩) (.string ⟨#[49, 50, 51]⟩)
   exact ⟨⟨#[49, 52, 53]⟩, ⟨#[49, 50, 51]⟩, rfl, by decide, by decide, (HK.out.grown hq (fun e => by injection e with e; omega)).mono (by omega), grow_own HGR.out hq (fun k e => by injection e with e; omega)⟩
  ·skip
   have HM := HM5
   clear HM5
   obtain ⟨K1, K2, ⟨rx, ry, K3⟩, K4, K5, K6⟩ := HM.out
   have kc0 := K1.cell 0; have kc1 := K1.cell 1
   have kd0 := K3.cell 0; have kd1 := K3.cell 1
   have kf0 := K3.frozen 0; have kf1 := K3.frozen 1
   simp only [List.getElem?_cons_zero, List.getElem?_cons_succ] at kc0 kc1 kd0 kd1
   have Z := (K3.set_ 0 (.string x)).set_ 1 (.string y)
   have y0 := Z.cell 0; have y1 := Z.cell 1
   simp only [List.set_cons_zero, List.set_cons_succ, List.getElem?_cons_zero, List.getElem?_cons_succ] at y0 y1
   have HK := Lib.hid K2; have HGR := Lib.hid K4
   clear K1 K2 K3 K4 Z
   go_wp2_with fail
   refine bodyPost_ret (v := .agg #[.string x, .string y]) (by simp [results, Tryz.results195, go_sem, y0, y1]) rfl ?_
   have hq := sets2_grown w5 (w.heap.size + 1) (.string x) (.string y)
   exact ⟨x, y, rfl, zx, zy, (HK.out.grown hq (fun e => by injection e with e; omega)).mono (by omega), grow_own HGR.out hq (fun k e => by injection e with e; omega)⟩
 ·skip
  go_wp2_with fail
  refine (cur_one HS.out (G.out _ HM3.out.2.2.2.1) hp HM3.out.2.1 (by omega) (by decide) (by decide)).mono ?_; rintro e w5 ⟨b1, rfl, hc5, hg5⟩
  have HM5 := Lib.hid (HM3.out.draw hg5 hc5)
  clear hc5 hg5 HM3
  rcases b1
  ·skip
   have g0 := HM5.out.1.cell 0; have g1 := HM5.out.1.cell 1; have e0 := HM5.out.1.frozen 0; have e1 := HM5.out.1.frozen 1
   simp only [List.getElem?_cons_zero, List.getElem?_cons_succ] at g0 g1
   have HM := Lib.hid ((HM5.out.put0 (x := ⟨#[49, 52]⟩)).put1 (x := ⟨#[49, 50, 51, 52]⟩))
   clear HM5
   obtain ⟨K1, K2, ⟨rx, ry, K3⟩, K4, K5, K6⟩ := HM.out
   have kc0 := K1.cell 0; have kc1 := K1.cell 1
   have kd0 := K3.cell 0; have kd1 := K3.cell 1
   have kf0 := K3.frozen 0; have kf1 := K3.frozen 1
   simp only [List.getElem?_cons_zero, List.getElem?_cons_succ] at kc0 kc1 kd0 kd1
   have Z := (K3.set_ 0 (.string ⟨#[49, 52]⟩)).set_ 1 (.string ⟨#[49, 50, 51, 52]⟩)
   have y0 := Z.cell 0; have y1 := Z.cell 1
   simp only [List.set_cons_zero, List.set_cons_succ, List.getElem?_cons_zero, List.getElem?_cons_succ] at y0 y1
   have HK := Lib.hid K2; have HGR := Lib.hid K4
   clear K1 K2 K3 K4 Z
   go_wp2_with fail
   refine bodyPost_ret (v := .agg #[.string ⟨#[49, 52]⟩, .string ⟨#[49, 50, 51, 52]⟩]) (by simp [results, Tryz.results195, go_sem, y0, y1]) rfl ?_
   have hq := sets2_grown ((w5.setCell ⟨b, 0, none⟩ (.string ⟨#[49, 52]⟩)).setCell ⟨b, 1, none⟩ (.string ⟨#[49, 50, 51, 52]⟩)) (w.heap.size + 1) (.string ⟨#[49, 52]⟩) (.string ⟨#[49, 50, 51, 52]⟩)
   exact ⟨⟨#[49, 52]⟩, ⟨#[49, 50, 51, 52]⟩, rfl, by decide, by decide, (HK.out.grown hq (fun e => by injection e with e; omega)).mono (by omega), grow_own HGR.out hq (fun k e => by injection e with e; omega)⟩
  ·skip
   have HM := HM5
   clear HM5
   obtain ⟨K1, K2, ⟨rx, ry, K3⟩, K4, K5, K6⟩ := HM.out
   have kc0 := K1.cell 0; have kc1 := K1.cell 1
   have kd0 := K3.cell 0; have kd1 := K3.cell 1
   have kf0 := K3.frozen 0; have kf1 := K3.frozen 1
   simp only [List.getElem?_cons_zero, List.getElem?_cons_succ] at kc0 kc1 kd0 kd1
   have Z := (K3.set_ 0 (.string x)).set_ 1 (.string y)
   have y0 := Z.cell 0; have y1 := Z.cell 1
   simp only [List.set_cons_zero, List.set_cons_succ, List.getElem?_cons_zero, List.getElem?_cons_succ] at y0 y1
   have HK := Lib.hid K2; have HGR := Lib.hid K4
   clear K1 K2 K3 K4 Z
   go_wp2_with fail
   refine bodyPost_ret (v := .agg #[.string x, .string y]) (by simp [results, Tryz.results195, go_sem, y0, y1]) rfl ?_
   have hq := sets2_grown w5 (w.heap.size + 1) (.string x) (.string y)
   exact ⟨x, y, rfl, zx, zy, (HK.out.grown hq (fun e => by injection e with e; omega)).mono (by omega), grow_own HGR.out hq (fun k e => by injection e with e; omega)⟩
 ·skip
  have HM := HM3
  clear HM3
  obtain ⟨K1, K2, ⟨rx, ry, K3⟩, K4, K5, K6⟩ := HM.out
  have kc0 := K1.cell 0; have kc1 := K1.cell 1
  have kd0 := K3.cell 0; have kd1 := K3.cell 1
  have kf0 := K3.frozen 0; have kf1 := K3.frozen 1
  simp only [List.getElem?_cons_zero, List.getElem?_cons_succ] at kc0 kc1 kd0 kd1
  have Z := (K3.set_ 0 (.string x)).set_ 1 (.string y)
  have y0 := Z.cell 0; have y1 := Z.cell 1
  simp only [List.set_cons_zero, List.set_cons_succ, List.getElem?_cons_zero, List.getElem?_cons_succ] at y0 y1
  have HK := Lib.hid K2; have HGR := Lib.hid K4
  clear K1 K2 K3 K4 Z
  go_wp2_with fail
  refine bodyPost_ret (v := .agg #[.string x, .string y]) (by simp [results, Tryz.results195, go_sem, y0, y1]) rfl ?_
  have hq := sets2_grown w4 (w.heap.size + 1) (.string x) (.string y)
  exact ⟨x, y, rfl, zx, zy, (HK.out.grown hq (fun e => by injection e with e; omega)).mono (by omega), grow_own HGR.out hq (fun k e => by injection e with e; omega)⟩
 ·skip
  go_wp2_with fail
  refine (cur_one HS.out (G.out _ HM3.out.2.2.2.1) hp HM3.out.2.1 (by omega) (by decide) (by decide)).mono ?_; rintro e w5 ⟨b1, rfl, hc5, hg5⟩
  have HM5 := Lib.hid (HM3.out.draw hg5 hc5)
  clear hc5 hg5 HM3
  rcases b1
  ·skip
   have g0 := HM5.out.1.cell 0; have g1 := HM5.out.1.cell 1; have e0 := HM5.out.1.frozen 0; have e1 := HM5.out.1.frozen 1
   simp only [List.getElem?_cons_zero, List.getElem?_cons_succ] at g0 g1
   have HM := Lib.hid ((HM5.out.put0 (x := ⟨#[49, 52]⟩)).put1 (x := ⟨#[49, 50, 51, 52]⟩))
   clear HM5
   obtain ⟨K1, K2, ⟨rx, ry, K3⟩, K4, K5, K6⟩ := HM.out
   have kc0 := K1.cell 0; have kc1 := K1.cell 1
   have kd0 := K3.cell 0; have kd1 := K3.cell 1
   have kf0 := K3.frozen 0; have kf1 := K3.frozen 1
   simp only [List.getElem?_cons_zero, List.getElem?_cons_succ] at kc0 kc1 kd0 kd1
   have Z := (K3.set_ 0 (.string ⟨#[49, 52]⟩)).set_ 1 (.string ⟨#[49, 50, 51, 52]⟩)
   have y0 := Z.cell 0; have y1 := Z.cell 1
   simp only [List.set_cons_zero, List.set_cons_succ, List.getElem?_cons_zero, List.getElem?_cons_succ] at y0 y1
   have HK := Lib.hid K2; have HGR := Lib.hid K4
   clear K1 K2 K3 K4 Z
   go_wp2_with fail
   refine bodyPost_ret (v := .agg #[.string ⟨#[49, 52]⟩, .string ⟨#[49, 50, 51, 52]⟩]) (by simp [results, Tryz.results195, go_sem, y0, y1]) rfl ?_
   have hq := sets2_grown ((w5.setCell ⟨b, 0, none⟩ (.string ⟨#[49, 52]⟩)).setCell ⟨b, 1, none⟩ (.string ⟨#[49, 50, 51, 52]⟩)) (w.heap.size + 1) (.string ⟨#[49, 52]⟩) (.string ⟨#[49, 50, 51, 52]⟩)
   exact ⟨⟨#[49, 52]⟩, ⟨#[49, 50, 51, 52]⟩, rfl, by decide, by decide, (HK.out.grown hq (fun e => by injection e with e; omega)).mono (by omega), grow_own HGR.out hq (fun k e => by injection e with e; omega)⟩
  ·skip
   have HM := HM5
   clear HM5
   obtain ⟨K1, K2, ⟨rx, ry, K3⟩, K4, K5, K6⟩ := HM.out
   have kc0 := K1.cell 0; have kc1 := K1.cell 1
   have kd0 := K3.cell 0; have kd1 := K3.cell 1
   have kf0 := K3.frozen 0; have kf1 := K3.frozen 1
   simp only [List.getElem?_cons_zero, List.getElem?_cons_succ] at kc0 kc1 kd0 kd1
   have Z := (K3.set_ 0 (.string x)).set_ 1 (.string y)
   have y0 := Z.cell 0; have y1 := Z.cell 1
   simp only [List.set_cons_zero, List.set_cons_succ, List.getElem?_cons_zero, List.getElem?_cons_succ] at y0 y1
   have HK := Lib.hid K2; have HGR := Lib.hid K4
   clear K1 K2 K3 K4 Z
   go_wp2_with fail
   refine bodyPost_ret (v := .agg #[.string x, .string y]) (by simp [results, Tryz.results195, go_sem, y0, y1]) rfl ?_
   have hq := sets2_grown w5 (w.heap.size + 1) (.string x) (.string y)
   exact ⟨x, y, rfl, zx, zy, (HK.out.grown hq (fun e => by injection e with e; omega)).mono (by omega), grow_own HGR.out hq (fun k e => by injection e with e; omega)⟩
set_option maxHeartbeats 4000000 in
set_option maxRecDepth 100000 in
theorem cur_anyCalls {A B : Option Addr} {n c a p st m d : Nat} {nm : ByteArray} {L : List ByteArray} {w0 w : World} (hS : Src w0 A n) (hb : Below w0.heap.size w0 w) (hp : w0.heap.size ≤ p) (hc : Cur w p A n c a) (ha : a ≤ 900000) (hn : L.length = m) (h : Strs w B L) (hz : m ≤ 1048576) (hs : ∀ s ∈ L, s.size ≤ 16777216) (hnm : nm.size ≤ 16777216) (hst : I64 (st : Int)) :
  Calls Tryz.prog 116 #[.pointer (some ⟨p, 0, none⟩), .agg #[.string nm, .int .i64 st, .slice B m d]] w fun e w' => ∃ kb ks : ByteArray, e = .returned (.agg #[.string kb, .string ks]) ∧ kb.size ≤ 8 ∧ ks.size ≤ 8 ∧ Cur w' p A n c (a + 20) ∧ w.grownBy w' (some p) := by
 have hpw := hc.lt
 have N0 := (Blk.at_ w 25 [.string nm, .int .i64 (st : Int), .slice B m d] (b := w.heap.size) rfl).alloc (.cells #[.string ⟨#[]⟩, .string ⟨#[]⟩] 27)
 have R0 := Blk.at_ (w.alloc (.cells #[.string nm, .int .i64 (st : Int), .slice B m d] 25)) 27 [.string ⟨#[]⟩, .string ⟨#[]⟩] (b := w.heap.size + 1) (by simp)
 have b0 : Below w.heap.size w ((w.alloc (.cells #[.string nm, .int .i64 (st : Int), .slice B m d] 25)).alloc (.cells #[.string ⟨#[]⟩, .string ⟨#[]⟩] 27)) := by (repeat' (first | (with_reducible exact Below.refl _ _) | (with_reducible assumption) | (with_reducible refine below_drewN ?_ _) | (with_reducible refine Below.drew ?_) | (with_reducible refine below_alloc ?_ _) | (with_reducible refine Below.alloc ?_ ?_ _) | (with_reducible refine Below.setCell ?_ ?_ _) | (with_reducible refine below_go ?_ (by with_reducible assumption)) | (with_reducible refine below_then (by with_reducible assumption) ?_ ?_) | go_size))
 have G : Hid (∀ u : World, w.grownBy u (some p) → Below w0.heap.size w0 u) := Lib.hid (fun u hg => grown_below hb hp hg)
 have HS := Lib.hid hS
 have H0 := h.up b0
 clear hS hb
 go_in
 go_wp2_with fail
 obtain ⟨w1, hw1⟩ : ∃ u, u = ((w.alloc (.cells #[.string nm, .int .i64 (st : Int), .slice B m d] 25)).alloc (.cells #[.string ⟨#[]⟩, .string ⟨#[]⟩] 27)) := ⟨_, rfl⟩
 have z1 : w1.heap.size = w.heap.size + 2 := by rw [hw1]; simp
 rw [← hw1] at b0 R0 N0 H0 ⊢
 clear hw1
 refine (spec_l4Good hn H0 hz hs hnm hst).mono ?_; rintro e w2 ⟨rfl, hb2⟩
 have g2 : w.grownBy w2 (some p) := grownBy_trans (grown_any b0 _) (grown_any hb2 _)
 have R2 := R0.up hb2
 have N2 := N0.up hb2
 have C2 := (hc.up b0).up hb2
 have s2 := hb2.size
 clear R0 N0 hc H0 h b0 hb2
 rcases hg : goodM nm (st : Int) L
 ·have kd0 := R2.cell 0; have kd1 := R2.cell 1
  have kf0 := R2.frozen 0; have kf1 := R2.frozen 1
  simp only [List.getElem?_cons_zero, List.getElem?_cons_succ] at kd0 kd1
  have Z := (R2.set_ 0 (.string ⟨#[49, 52]⟩)).set_ 1 (.string ⟨#[49, 50, 51, 52]⟩)
  have y0 := Z.cell 0; have y1 := Z.cell 1
  simp only [List.set_cons_zero, List.set_cons_succ, List.getElem?_cons_zero, List.getElem?_cons_succ] at y0 y1
  go_wp2_with fail
  refine bodyPost_ret (v := .agg #[.string ⟨#[49, 52]⟩, .string ⟨#[49, 50, 51, 52]⟩]) (by simp [results, Tryz.results116, go_sem, y0, y1]) rfl ?_
  have hq := sets2_grown w2 (w.heap.size + 1) (.string ⟨#[49, 52]⟩) (.string ⟨#[49, 50, 51, 52]⟩)
  exact ⟨_, _, rfl, by decide, by decide, (C2.grown hq (fun e => by injection e with e; omega)).mono (by omega), grow_own g2 hq (fun k e => by injection e with e; omega)⟩
 ·have h38 : 3 ≤ st ∧ st ≤ 8 := by have := goodM_t hg; omega
  have n0 := N2.cell 0; have n1 := N2.cell 1; have n2 := N2.cell 2
  simp only [List.getElem?_cons_zero, List.getElem?_cons_succ] at n0 n1 n2
  go_wp2_with fail
  refine (cur_calls HS.out (G.out _ g2) hp C2 (by omega) h38.1 h38.2).mono ?_; rintro e w3 ⟨x, y, rfl, zx, zy, hc3, hg3⟩
  have g3 := grownBy_trans g2 hg3
  have R3 := R2.grown hg3 (fun e => by injection e with e; omega)
  have s3 := hg3.size
  have K3 := Blk.at_ w3 27 [.string x, .string y] (b := w3.heap.size) rfl
  have a3 : Below w3.heap.size w3 (w3.alloc (.cells #[.string x, .string y] 27)) := by (repeat' (first | (with_reducible exact Below.refl _ _) | (with_reducible assumption) | (with_reducible refine below_drewN ?_ _) | (with_reducible refine Below.drew ?_) | (with_reducible refine below_alloc ?_ _) | (with_reducible refine Below.alloc ?_ ?_ _) | (with_reducible refine Below.setCell ?_ ?_ _) | (with_reducible refine below_go ?_ (by with_reducible assumption)) | (with_reducible refine below_then (by with_reducible assumption) ?_ ?_) | go_size))
  have HM3 := Lib.hid (show CSt w (w3.alloc (.cells #[.string x, .string y] 27)) p A n c (a + 10) w3.heap.size x y from ⟨K3, hc3.up a3, ⟨_, _, R3.up a3⟩, grownBy_trans g3 (grown_any a3 _), hpw, by omega⟩)
  clear R2 R3 hc3 hg3 K3 a3 g2 g3 C2 N2 n0 n1 n2
  go_upto_region 4 with fail
  obtain ⟨w4, hw4⟩ : ∃ u, u = w3.alloc (.cells #[.string x, .string y] 27) := ⟨_, rfl⟩
  obtain ⟨b, hb⟩ : ∃ b, b = w3.heap.size := ⟨_, rfl⟩
  rw [← hw4] at HM3 ⊢
  rw [← hb] at HM3 ⊢
  clear hw4 hb
  go_wp2_with fail
  refine (cur_one HS.out (G.out _ HM3.out.2.2.2.1) hp HM3.out.2.1 (by omega) (by decide) (by decide)).mono ?_; rintro e w5 ⟨b1, rfl, hc5, hg5⟩
  have HM5 := Lib.hid (HM3.out.draw hg5 hc5)
  clear hc5 hg5 HM3
  rcases b1
  ·skip
   have HM := HM5
   clear HM5
   obtain ⟨K1, K2, ⟨rx, ry, K3⟩, K4, K5, K6⟩ := HM.out
   have kc0 := K1.cell 0; have kc1 := K1.cell 1
   have kd0 := K3.cell 0; have kd1 := K3.cell 1
   have kf0 := K3.frozen 0; have kf1 := K3.frozen 1
   simp only [List.getElem?_cons_zero, List.getElem?_cons_succ] at kc0 kc1 kd0 kd1
   have Z := (K3.set_ 0 (.string x)).set_ 1 (.string y)
   have y0 := Z.cell 0; have y1 := Z.cell 1
   simp only [List.set_cons_zero, List.set_cons_succ, List.getElem?_cons_zero, List.getElem?_cons_succ] at y0 y1
   have HK := Lib.hid K2; have HGR := Lib.hid K4
   clear K1 K2 K3 K4 Z
   go_wp2_with fail
   refine bodyPost_ret (v := .agg #[.string x, .string y]) (by simp [results, Tryz.results116, go_sem, y0, y1]) rfl ?_
   have hq := sets2_grown w5 (w.heap.size + 1) (.string x) (.string y)
   exact ⟨x, y, rfl, zx, zy, (HK.out.grown hq (fun e => by injection e with e; omega)).mono (by omega), grow_own HGR.out hq (fun k e => by injection e with e; omega)⟩
  ·go_wp2_with fail
   have hl := lit_strs2 w5 9 [⟨#[]⟩, ⟨#[120]⟩, ⟨#[49]⟩, ⟨#[49, 51]⟩, ⟨#[57, 57]⟩]
   have a5 : ∀ o : Obj, Below w5.heap.size w5 (w5.alloc o) := fun o => (Below.refl _ _).alloc (Nat.le_refl _) o
   have hs5 := HM5.out.1.lt
   have HM6 := Lib.hid (HM5.out.up (a5 (.cells #[.string ⟨#[]⟩, .string ⟨#[120]⟩, .string ⟨#[49]⟩, .string ⟨#[49, 51]⟩, .string ⟨#[57, 57]⟩] 9)))
   refine (cur_of HS.out (G.out _ HM6.out.2.2.2.1) hp HM6.out.2.1 (by omega) rfl hl (by decide) (by decide) (fun b o e => by injection e with e; injection e with e; have := HM6.out.2.2.2.2; omega)).mono ?_; rintro e w7 ⟨z, hz, rfl, hc7, hg7⟩
   have HM7 := Lib.hid (HM6.out.draw hg7 hc7)
   have zz : z.size ≤ 8 := by
    simp only [List.mem_cons, List.not_mem_nil, or_false] at hz
    rcases hz with rfl | rfl | rfl | rfl | rfl <;> decide
   clear hc7 hg7 hz hl a5 HM5 HM6
   have g0 := HM7.out.1.cell 0; have e0 := HM7.out.1.frozen 0
   simp only [List.getElem?_cons_zero, List.getElem?_cons_succ] at g0
   have HM := Lib.hid (HM7.out.put0 (x := z))
   clear HM7
   obtain ⟨K1, K2, ⟨rx, ry, K3⟩, K4, K5, K6⟩ := HM.out
   have kc0 := K1.cell 0; have kc1 := K1.cell 1
   have kd0 := K3.cell 0; have kd1 := K3.cell 1
   have kf0 := K3.frozen 0; have kf1 := K3.frozen 1
   simp only [List.getElem?_cons_zero, List.getElem?_cons_succ] at kc0 kc1 kd0 kd1
   have Z := (K3.set_ 0 (.string z)).set_ 1 (.string y)
   have y0 := Z.cell 0; have y1 := Z.cell 1
   simp only [List.set_cons_zero, List.set_cons_succ, List.getElem?_cons_zero, List.getElem?_cons_succ] at y0 y1
   have HK := Lib.hid K2; have HGR := Lib.hid K4
   clear K1 K2 K3 K4 Z
   go_wp2_with fail
   refine bodyPost_ret (v := .agg #[.string z, .string y]) (by simp [results, Tryz.results116, go_sem, y0, y1]) rfl ?_
   have hq := sets2_grown (w7.setCell ⟨b, 0, none⟩ (.string z)) (w.heap.size + 1) (.string z) (.string y)
   exact ⟨z, y, rfl, zz, zy, (HK.out.grown hq (fun e => by injection e with e; omega)).mono (by omega), grow_own HGR.out hq (fun k e => by injection e with e; omega)⟩
theorem five_cal : ∀ x ∈ [(⟨#[112]⟩ : ByteArray), ⟨#[112]⟩, ⟨#[98]⟩, ⟨#[115]⟩, ⟨#[98]⟩], calT x ∧ x.size = 1 := by
 intro x hx
 simp only [List.mem_cons, List.not_mem_nil, or_false] at hx
 rcases hx with rfl | rfl | rfl | rfl | rfl
 ·exact ⟨calT_p, rfl⟩
 ·exact ⟨calT_p, rfl⟩
 ·exact ⟨calT_b, rfl⟩
 ·exact ⟨calT_s, rfl⟩
 ·exact ⟨calT_b, rfl⟩
set_option maxHeartbeats 2000000 in
set_option maxRecDepth 100000 in
theorem cur_touch {A : Option Addr} {n c a p M : Nat} {w0 w : World} (hS : Src w0 A n) (hb : Below w0.heap.size w0 w) (hp : w0.heap.size ≤ p) (hc : Cur w p A n c a) (ha : a ≤ 1000000) (hM : M ≤ 20) (hM1 : 1 ≤ M) :
  Calls Tryz.prog 119 #[.pointer (some ⟨p, 0, none⟩), .int .i64 M] w fun e w' => ∃ t : ByteArray, e = .returned (.string t) ∧ calT t ∧ 1 ≤ t.size ∧ t.size ≤ 2 * M ∧ Cur w' p A n c (a + 30) ∧ w.grownBy w' (some p) := by
 have G : Hid (∀ u : World, w.grownBy u (some p) → Below w0.heap.size w0 u) := Lib.hid (fun u hg => grown_below hb hp hg)
 have HS := Lib.hid hS
 have HF := Lib.hid five_cal
 have hpw := hc.lt
 go_in
 go_wp2_with fail
 refine (cur_pick hS hb hp hc (by omega) (by omega) (by omega)).mono ?_; rintro e w1 ⟨x, rfl, ⟨x0, x1⟩, hc1, hg1⟩
 obtain ⟨X, rfl⟩ := Int.eq_ofNat_of_zero_le x0
 have hX : X + 1 ≤ M := by omega
 have HG1 := Lib.hid hg1
 have HC1 := Lib.hid hc1
 clear x0 x1 hb hc hS hc1 hg1
 go_wp2
 go_loopw [5, 6] (fun v i wr => ∃ (k : Nat) (t : ByteArray), k ≤ X + 1 ∧ i = .int .i64 k ∧ v = .string t ∧ t.size + k = X + 1 ∧ Hid (calT t) ∧ Hid (Cur wr p A n c (a + 1 + t.size)) ∧ Hid (w.grownBy wr (some p))) (fun _ i _ => (intOf i).toNat)
 case atStart => exact ⟨X + 1, ⟨#[]⟩, Nat.le_refl _, by go_num, rfl, by rw [show (⟨#[]⟩ : ByteArray).size = 0 from rfl]; omega, Lib.hid calT_nil, Lib.hid (HC1.out.mono (by omega)), HG1⟩
 case round =>
  obtain ⟨k, t, hk, rfl, rfl, htk, HT, HC, HG⟩ := hrel
  rename World => wr
  by_cases h0 : 0 < k
  ·have hI : (0 : Int) < (k : Int) := by omega
   have hl := lit_strs2 wr 9 [⟨#[112]⟩, ⟨#[112]⟩, ⟨#[98]⟩, ⟨#[115]⟩, ⟨#[98]⟩]
   have hpr := HC.out.lt
   go_wp2_with fail
   refine (cur_of HS.out (G.out _ (grownBy_trans HG.out (World.grownBy_alloc _ _ _))) hp (HC.out.up ((Below.refl _ _).alloc (Nat.le_refl _) _)) (by omega) rfl hl (by decide) (by decide) (fun b o e => by injection e with e; injection e with e; omega)).mono ?_; rintro e w2 ⟨y, hy, rfl, hc2, hg2⟩
   have hyc := HF.out y hy
   have HY := Lib.hid hyc.1
   have hy1 := hyc.2
   have HC2 := Lib.hid hc2
   have HG2 := Lib.hid (grownBy_trans (grownBy_trans HG.out (World.grownBy_alloc _ _ _)) hg2)
   have hty : (t ++ y).size = t.size + 1 := by rw [ByteArray.size_append, hy1]
   have HCA := Lib.hid (calT_app HT.out HY.out)
   clear hc2 hg2 hy hyc hl
   have hov : ¬ 9223372036854775807 < t.size + y.size := by omega
   go_wp2
   go_roundw
   case rel => exact ⟨k - 1, t ++ y, by omega, by go_num, rfl, by omega, HCA, Lib.hid (HC2.out.mono (by omega)), HG2⟩
   case measure => simp [intOf]; omega
  ·obtain rfl : k = 0 := by omega
   have hI : ¬ (0 : Int) < ((0 : Nat) : Int) := by omega
   go_wp2_with fail
   refine (cur_one HS.out (G.out _ HG.out) hp HC.out (by omega) (by decide) (by decide)).mono ?_; rintro e w3 ⟨b, rfl, hc3, hg3⟩
   have HC3 := Lib.hid hc3
   have HG3 := Lib.hid (grownBy_trans HG.out hg3)
   clear hc3 hg3
   have hov : ¬ 9223372036854775807 < t.size + t.size := by omega
   have hsz : (t ++ t).size = t.size + t.size := ByteArray.size_append
   rcases b
   ·go_wp2
    go_ret
    exact ⟨t, rfl, HT.out, by omega, by omega, HC3.out.mono (by omega), HG3.out⟩
   ·go_wp2
    go_ret
    exact ⟨t ++ t, rfl, calT_app HT.out HT.out, by omega, by omega, HC3.out.mono (by omega), HG3.out⟩
set_option maxHeartbeats 2000000 in
set_option maxRecDepth 100000 in
theorem cur_anyTouch {A : Option Addr} {n c a p : Nat} {w0 w : World} (hS : Src w0 A n) (hb : Below w0.heap.size w0 w) (hp : w0.heap.size ≤ p) (hc : Cur w p A n c a) (ha : a ≤ 900000) :
  Calls Tryz.prog 129 #[.pointer (some ⟨p, 0, none⟩)] w fun e w' => ∃ t : ByteArray, e = .returned (.string t) ∧ t.size ≤ 61 ∧ Cur w' p A n c (a + 100) ∧ w.grownBy w' (some p) := by
 have G : Hid (∀ u : World, w.grownBy u (some p) → Below w0.heap.size w0 u) := Lib.hid (fun u hg => grown_below hb hp hg)
 have HS := Lib.hid hS
 have hpw := hc.lt
 go_in
 go_wp2_with fail
 refine (cur_pick hS hb hp hc (by omega) (by decide) (by decide)).mono ?_; rintro e w1 ⟨x, rfl, ⟨x0, x1⟩, hc1, hg1⟩
 have HG1 := Lib.hid hg1
 have HC1 := Lib.hid hc1
 have hp1 := hc1.lt
 clear hb hc hS hc1 hg1
 have hx : x = 0 ∨ x = 1 ∨ 2 ≤ x := by omega
 clear x1
 rcases hx with rfl | rfl | hx
 ·have hl := lit_strs2 w1 9 [⟨#[]⟩, ⟨#[120]⟩, ⟨#[112, 66]⟩, ⟨#[112, 32, 98]⟩]
  go_wp2_with fail
  refine (cur_of HS.out (G.out _ (grownBy_trans HG1.out (World.grownBy_alloc _ _ _))) hp (HC1.out.up ((Below.refl _ _).alloc (Nat.le_refl _) _)) (by omega) rfl hl (by decide) (by decide) (fun b o e => by injection e with e; injection e with e; omega)).mono ?_; rintro e w2 ⟨y, hy, rfl, hc2, hg2⟩
  have HG2 := Lib.hid (grownBy_trans (grownBy_trans HG1.out (World.grownBy_alloc _ _ _)) hg2)
  have hyz : y.size ≤ 61 := by
   simp only [List.mem_cons, List.not_mem_nil, or_false] at hy
   rcases hy with rfl | rfl | rfl | rfl <;> decide
  clear hl hy
  go_wp2
  go_ret
  exact ⟨y, rfl, hyz, hc2.mono (by omega), HG2.out⟩
 ·have hl := lit_ints w1 3 [59, 60, 61]
  go_wp2_with fail
  refine (cur_among HS.out (G.out _ (grownBy_trans HG1.out (World.grownBy_alloc _ _ _))) hp (HC1.out.up ((Below.refl _ _).alloc (Nat.le_refl _) _)) (by omega) rfl hl (by decide) (by decide) (fun b o e => by injection e with e; injection e with e; omega)).mono ?_; rintro e w2 ⟨y, hy, rfl, hc2, hg2⟩
  have HG2 := Lib.hid (grownBy_trans (grownBy_trans HG1.out (World.grownBy_alloc _ _ _)) hg2)
  have HC2 := Lib.hid hc2
  simp only [List.mem_cons, List.not_mem_nil, or_false] at hy
  obtain ⟨Y, rfl⟩ : ∃ z : Nat, y = (z : Int) := ⟨y.toNat, by omega⟩
  have hY : Y ≤ 61 := by omega
  clear hl hy hc2 hg2 HG1 HC1
  go_wp2
  go_loopw [3, 4] (fun v i wr => ∃ (k : Nat) (t : ByteArray), k ≤ Y ∧ i = .int .i64 k ∧ v = .string t ∧ t.size + k = Y ∧ Hid (Cur wr p A n c (a + 2 + t.size)) ∧ Hid (w.grownBy wr (some p))) (fun _ i _ => (intOf i).toNat)
  case atStart => exact ⟨Y, ⟨#[]⟩, Nat.le_refl _, rfl, rfl, by rw [show (⟨#[]⟩ : ByteArray).size = 0 from rfl]; omega, Lib.hid (HC2.out.mono (by omega)), HG2⟩
  case round =>
   obtain ⟨k, t, hk, rfl, rfl, htk, HC, HG⟩ := hrel
   rename World => wr
   by_cases h0 : 0 < k
   ·have hI : (0 : Int) < (k : Int) := by omega
    have hl := lit_strs2 wr 9 [⟨#[112]⟩, ⟨#[98]⟩, ⟨#[115]⟩]
    have hpr := HC.out.lt
    go_wp2_with fail
    refine (cur_of HS.out (G.out _ (grownBy_trans HG.out (World.grownBy_alloc _ _ _))) hp (HC.out.up ((Below.refl _ _).alloc (Nat.le_refl _) _)) (by omega) rfl hl (by decide) (by decide) (fun b o e => by injection e with e; injection e with e; omega)).mono ?_; rintro e w2 ⟨y, hy, rfl, hc2, hg2⟩
    have hy1 : y.size = 1 := by
     simp only [List.mem_cons, List.not_mem_nil, or_false] at hy
     rcases hy with rfl | rfl | rfl <;> rfl
    have HC2 := Lib.hid hc2
    have HG2 := Lib.hid (grownBy_trans (grownBy_trans HG.out (World.grownBy_alloc _ _ _)) hg2)
    have hty : (t ++ y).size = t.size + 1 := by rw [ByteArray.size_append, hy1]
    clear hc2 hg2 hy hl
    have hov : ¬ 9223372036854775807 < t.size + y.size := by omega
    go_wp2
    go_roundw
    case rel => exact ⟨k - 1, t ++ y, by omega, by go_num, rfl, by omega, Lib.hid (HC2.out.mono (by omega)), HG2⟩
    case measure => simp [intOf]; omega
   ·obtain rfl : k = 0 := by omega
    have hI : ¬ (0 : Int) < ((0 : Nat) : Int) := by omega
    go_wp2
    go_ret
    exact ⟨t, rfl, by omega, HC.out.mono (by omega), HG.out⟩
 ·have n0 : (x == 0) = false := by simp; omega
  have n1 : (x == 1) = false := by simp; omega
  go_wp2_with fail
  refine (cur_touch (M := 9) HS.out (G.out _ HG1.out) hp HC1.out (by omega) (by decide) (by decide)).mono ?_; rintro e w2 ⟨t, rfl, _, _, ht, hc2, hg2⟩
  go_wp2
  go_ret
  exact ⟨t, rfl, by omega, hc2.mono (by omega), grownBy_trans HG1.out hg2⟩
end Go.Proofs.YtidolgonmimicaaGreat
namespace Go.Proofs.YtidolgonmimicaaGreat
open Go.ChangeShapes Go.WideShapes Go.ChangeAt Go.RowKit Go.Deep
def txLen : Value → Nat
 | .string s => s.size
 | _ => 0
end Go.Proofs.YtidolgonmimicaaGreat
namespace Go.Proofs.YtidolgonmimicaaGreat
open Go.ChangeShapes Go.WideShapes Go.ChangeAt Go.RowKit Go.Deep
end Go.Proofs.YtidolgonmimicaaGreat
namespace Go.Proofs.YtidolgonmimicaaGreat
open Go.ChangeShapes Go.WideShapes Go.ChangeAt Go.RowKit Go.Deep
set_option maxHeartbeats 2000000 in
set_option maxRecDepth 100000 in
theorem draw_DistinctTurns {A : Option Addr} {n c : Nat} {w : World} (hS : Src w A n) :
  Calls Tryz.prog 64 #[.slice A n c] w fun e w' => ∃ (A1 : Option Addr) (m c1 : Nat) (L : List ByteArray) (both : Bool), e = .returned (.tuple #[.slice A1 m c1, .bool both]) ∧ m ≤ 8 ∧ (∀ s ∈ L, s.size ≤ 61) ∧ Owned strE 1 9 w' w.heap.size A1 m c1 L ∧ Below w.heap.size w w' := by
 have b0 : Below w.heap.size w (w.alloc (.cells #[.slice A n c, .int .i64 0, .int .u64 0] 87)) := by (repeat' (first | (with_reducible exact Below.refl _ _) | (with_reducible assumption) | (with_reducible refine below_drewN ?_ _) | (with_reducible refine Below.drew ?_) | (with_reducible refine below_alloc ?_ _) | (with_reducible refine Below.alloc ?_ ?_ _) | (with_reducible refine Below.setCell ?_ ?_ _) | (with_reducible refine below_go ?_ (by with_reducible assumption)) | (with_reducible refine below_then (by with_reducible assumption) ?_ ?_) | go_size))
 have c0 := cur_fresh w A n c
 have HS := Lib.hid hS
 go_in
 go_wp2_with fail
 obtain ⟨w1, hw1⟩ : ∃ u, u = w.alloc (.cells #[.slice A n c, .int .i64 0, .int .u64 0] 87) := ⟨_, rfl⟩
 have z1 : w1.heap.size = w.heap.size + 1 := by rw [hw1]; simp
 rw [← hw1] at b0 c0 ⊢
 clear hw1 hS
 refine (cur_pick HS.out b0 (Nat.le_refl _) c0 (by omega) (by decide) (by decide)).mono ?_; rintro e w2 ⟨x, rfl, ⟨x0, x1⟩, hc2, hg2⟩
 have s2 := hg2.size
 obtain ⟨X, rfl⟩ := Int.eq_ofNat_of_zero_le x0
 have hX : X ≤ 7 := by omega
 have HB2 := Lib.hid (grown_below b0 (Nat.le_refl _) hg2)
 have HC2 := Lib.hid hc2
 obtain ⟨p, hp⟩ : ∃ p, p = w.heap.size := ⟨_, rfl⟩
 have hpl : w.heap.size ≤ p := by omega
 rw [← hp] at HC2 ⊢
 have HPW := Lib.hid hp
 clear hp x0 x1 b0 c0 hc2 hg2
 have hpz : p + 1 ≤ w2.heap.size := by rw [HPW.out]; omega
 clear z1 s2
 go_wp2
 go_loopw [5, 6] (fun v i wr => ∃ (k m : Nat) (A' : Option Addr) (c' : Nat) (L : List ByteArray), k + m = X ∧ i = .int .i64 k ∧ v = .slice A' m c' ∧ Hid (Owned strE 1 9 wr (p + 1) A' m c' L) ∧ Hid (∀ s ∈ L, s.size ≤ 61) ∧ Hid (Cur wr p A n c (1 + 30 * m)) ∧ Hid (Below w.heap.size w wr) ∧ p + 1 ≤ wr.heap.size) (fun _ i _ => (intOf i).toNat)
 case atStart => exact ⟨X, 0, none, 0, [], by omega, rfl, rfl, Lib.hid (Owned.nil strE_len _ _ _), Lib.hid (fun s hs => by cases hs), Lib.hid (HC2.out.mono (by omega)), HB2, hpz⟩
 case round =>
  obtain ⟨k, m, A3, c3, L, hkm, rfl, rfl, HO, HL, HC, HB, hsz⟩ := hrel
  rename World => wr
  by_cases h0 : 0 < k
  ·have hI : (0 : Int) < (k : Int) := by omega
   have hwk : IntKind.i64.wrap ((k : Int) - 1) = ((k - 1 : Nat) : Int) := by rw [wrap_id (by omega)]; omega
   go_wp2_with fail
   refine (cur_touch (M := 4) HS.out HB.out hpl HC.out (by omega) (by decide) (by decide)).mono ?_; rintro e w3 ⟨t, rfl, _, _, ht, hc3, hg3⟩
   have s3 := hg3.size
   have HO3 := Lib.hid (HO.out.past hg3 (by omega))
   have HC3 := Lib.hid hc3
   have HB3 := Lib.hid (grown_below HB.out hpl hg3)
   have hsz3 : p + 1 ≤ w3.heap.size := by omega
   clear hc3 hg3 s3
   go_wp2_with (first | (at_builtin; go_must ((refine wpList_append_recs Tryz.elStr strE_one rfl (.tmp 16) (.tmp 19) rfl rfl (HO3.out.alloc _) rfl (own_lit1_at' strE_len _ 9 t rfl (Nat.le_refl _)).recs rfl ?_ (by decide) ?_ ?_; (focus (first | omega | (simp only [World.size_alloc]; done) | (simp only [World.size_alloc]; omega) | (simp; done) | (simp; omega))); (focus (first | omega | (simp only [World.size_alloc]; done) | (simp only [World.size_alloc]; omega) | (simp; done) | (simp; omega))); intro A6 c6 w6 ho6 hg6 hl6; have hsz6 : p + 1 ≤ w6.heap.size := (by have a6 := hg6.size; simp at a6; omega); have HO6 := Lib.hid ho6; have HB6 : Hid (Below w.heap.size w w6) := Lib.hid ((HB3.out.alloc HB3.out.size _).trans (grown_base hg6 (by have := HB3.out.size; simp; omega) (fun z hz => by have := (HO3.out.range z hz).1; omega))); have HC6 := Lib.hid ((HC3.out.up ((Below.refl _ _).alloc (Nat.le_refl _) _)).grown hg6 (fun e => by have := (HO3.out.range p e.symm).1; omega)); clear ho6 hg6 hl6))))
   go_roundw
   case rel => exact ⟨k - 1, m + 1, A6, c6, L ++ [t], by omega, by first | rfl | go_num, rfl, HO6, Lib.hid (fun s hs => (List.mem_append.1 hs).elim (HL.out s) (fun q => by rw [List.mem_singleton.1 q]; omega)), Lib.hid (HC6.out.mono (by omega)), HB6, hsz6⟩
   case measure => simp [intOf]; omega
  ·obtain rfl : k = 0 := by omega
   have hI : ¬ (0 : Int) < ((0 : Nat) : Int) := by omega
   go_wp2_with fail
   refine (cur_one HS.out HB.out hpl HC.out (by omega) (by decide) (by decide)).mono ?_; rintro e w3 ⟨q, rfl, hc3, hg3⟩
   have s3 := hg3.size
   have HO3 := Lib.hid (HO.out.past hg3 (by omega))
   have HC3 := Lib.hid hc3
   have HB3 := Lib.hid (grown_below HB.out hpl hg3)
   have hsz3 : p + 1 ≤ w3.heap.size := by omega
   clear hc3 hg3 s3
   rcases q
   ·go_wp2_with fail
    refine (cur_one HS.out HB3.out hpl HC3.out (by omega) (by decide) (by decide)).mono ?_; rintro e w4 ⟨q2, rfl, hc4, hg4⟩
    have HO4 := Lib.hid (HO3.out.past hg4 (by omega))
    have HB4 := Lib.hid (grown_below HB3.out hpl hg4)
    go_wp2
    go_ret2
    exact ⟨A3, m, c3, L, q2, rfl, by omega, HL.out, HO4.out.base_le (by omega), HB4.out⟩
   ·go_wp2_with fail
    refine (cur_anyTouch HS.out HB3.out hpl HC3.out (by omega)).mono ?_; rintro e w4 ⟨t, rfl, ht, hc4, hg4⟩
    have s4 := hg4.size
    have HO4 := Lib.hid (HO3.out.past hg4 (by omega))
    have HC4 := Lib.hid hc4
    have HB4 := Lib.hid (grown_below HB3.out hpl hg4)
    have hsz4 : p + 1 ≤ w4.heap.size := by omega
    clear hc4 hg4 s4
    go_wp2_with (first | (at_builtin; go_must ((refine wpList_append_recs Tryz.elStr strE_one rfl (.tmp 23) (.tmp 26) rfl rfl (HO4.out.alloc _) rfl (own_lit1_at' strE_len _ 9 t rfl (Nat.le_refl _)).recs rfl ?_ (by decide) ?_ ?_; (focus (first | omega | (simp only [World.size_alloc]; done) | (simp only [World.size_alloc]; omega) | (simp; done) | (simp; omega))); (focus (first | omega | (simp only [World.size_alloc]; done) | (simp only [World.size_alloc]; omega) | (simp; done) | (simp; omega))); intro A6 c6 w6 ho6 hg6 hl6; have HO6 := Lib.hid ho6; have HB6 : Hid (Below w.heap.size w w6) := Lib.hid ((HB4.out.alloc HB4.out.size _).trans (grown_base hg6 (by have := HB4.out.size; simp; omega) (fun z hz => by have := (HO4.out.range z hz).1; omega))); have HC6 := Lib.hid ((HC4.out.up ((Below.refl _ _).alloc (Nat.le_refl _) _)).grown hg6 (fun e => by have := (HO4.out.range p e.symm).1; omega)); clear ho6 hg6 hl6))))
    refine (cur_one HS.out HB6.out hpl HC6.out (by omega) (by decide) (by decide)).mono ?_; rintro e w7 ⟨q2, rfl, hc7, hg7⟩
    have HO7 := Lib.hid (HO6.out.past hg7 (by omega))
    have HB7 := Lib.hid (grown_below HB6.out hpl hg7)
    go_wp2
    go_ret2
    exact ⟨A6, m + 1, c6, L ++ [t], q2, rfl, by omega, fun s hs => (List.mem_append.1 hs).elim (HL.out s) (fun q => by rw [List.mem_singleton.1 q]; omega), HO7.out.base_le (by omega), HB7.out⟩
end Go.Proofs.YtidolgonmimicaaGreat
namespace Go.Proofs.YtidolgonmimicaaGreat
open Go.ChangeShapes Go.WideShapes Go.ChangeAt Go.RowKit Go.Deep
theorem drM_f13 {nm : ByteArray} {st : Nat} {L : List ByteArray} (h : drM nm st L) : nm.size ≤ 16777216 ∧ st ≤ 1000 ∧ L.length ≤ 1048576 ∧ (∀ s ∈ L, s.size ≤ 16777216) ∧ I64 (st : Int) := by
 obtain ⟨h1, h2, h3, h4, h5⟩ := h
 exact ⟨by omega, by omega, by omega, fun s hs => by have := h5 s hs; omega, by constructor <;> omega⟩
set_option maxHeartbeats 4000000 in
set_option maxRecDepth 100000 in
theorem draw_SearchTouches {A : Option Addr} {n c : Nat} {w : World} (hS : Src w A n) :
  Calls Tryz.prog 60 #[.slice A n c] w fun e w' => ∃ (nm : ByteArray) (st : Nat) (A1 : Option Addr) (n1 c1 : Nat) (L : List ByteArray) (kb ks : ByteArray) (N bd : Nat), e = .returned (.tuple #[.agg #[.string nm, .int .i64 st, .slice A1 n1 c1], .agg #[.string kb, .string ks], .int .i64 N, .int .i64 bd]) ∧ drM nm st L ∧ kb.size ≤ 8 ∧ ks.size ≤ 8 ∧ N ≤ 7 ∧ bd ≤ 5001 ∧ Owned strE 1 9 w' w.heap.size A1 n1 c1 L ∧ Below w.heap.size w w' := by
 have R := ((Blk.at_ w 25 [.string ⟨#[]⟩, .int .i64 0, .slice none 0 0] (b := w.heap.size) rfl).alloc (.cells #[.string ⟨#[]⟩, .string ⟨#[]⟩] 27)).alloc (.cells #[.slice A n c, .int .i64 0, .int .u64 0] 87)
 have Q := (Blk.at_ (w.alloc (.cells #[.string ⟨#[]⟩, .int .i64 0, .slice none 0 0] 25)) 27 [.string ⟨#[]⟩, .string ⟨#[]⟩] (b := w.heap.size + 1) (by simp)).alloc (.cells #[.slice A n c, .int .i64 0, .int .u64 0] 87)
 have c0 := cur_fresh ((w.alloc (.cells #[.string ⟨#[]⟩, .int .i64 0, .slice none 0 0] 25)).alloc (.cells #[.string ⟨#[]⟩, .string ⟨#[]⟩] 27)) A n c
 rw [show ((w.alloc (.cells #[.string ⟨#[]⟩, .int .i64 0, .slice none 0 0] 25)).alloc (.cells #[.string ⟨#[]⟩, .string ⟨#[]⟩] 27)).heap.size = w.heap.size + 2 by simp] at c0
 have b0 : Below w.heap.size w (((w.alloc (.cells #[.string ⟨#[]⟩, .int .i64 0, .slice none 0 0] 25)).alloc (.cells #[.string ⟨#[]⟩, .string ⟨#[]⟩] 27)).alloc (.cells #[.slice A n c, .int .i64 0, .int .u64 0] 87)) := by (repeat' (first | (with_reducible exact Below.refl _ _) | (with_reducible assumption) | (with_reducible refine below_drewN ?_ _) | (with_reducible refine Below.drew ?_) | (with_reducible refine below_alloc ?_ _) | (with_reducible refine Below.alloc ?_ ?_ _) | (with_reducible refine Below.setCell ?_ ?_ _) | (with_reducible refine below_go ?_ (by with_reducible assumption)) | (with_reducible refine below_then (by with_reducible assumption) ?_ ?_) | go_size))
 have HS := Lib.hid hS
 have hp0 : w.heap.size ≤ w.heap.size + 2 := by omega
 clear hS
 go_in
 go_wp2_with fail
 obtain ⟨w1, hw1⟩ : ∃ u, u = (((w.alloc (.cells #[.string ⟨#[]⟩, .int .i64 0, .slice none 0 0] 25)).alloc (.cells #[.string ⟨#[]⟩, .string ⟨#[]⟩] 27)).alloc (.cells #[.slice A n c, .int .i64 0, .int .u64 0] 87)) := ⟨_, rfl⟩
 have z1 : w1.heap.size = w.heap.size + 3 := by rw [hw1]; simp
 rw [← hw1] at b0 R Q c0 ⊢
 clear hw1
 refine (cur_anyMethod HS.out b0 hp0 c0 (by omega)).mono ?_; rintro e w2 ⟨nm, st, A2, m, c2, L, rfl, hdr, ho2, hc2, hg2⟩
 have s2 := hg2.size
 have K := Blk.at_ w2 25 [.string nm, .int .i64 (st : Int), .slice A2 m c2] (b := w2.heap.size) rfl
 replace R := R.grown hg2 (fun e => by injection e with e; omega)
 replace Q := Q.grown hg2 (fun e => by injection e with e; omega)
 have HO := Lib.hid ho2
 have HB := Lib.hid (grown_below b0 hp0 hg2)
 have HC := Lib.hid hc2
 have HDR := Lib.hid hdr
 have hdf := drM_f13 hdr
 have HLl := Lib.hid ho2.len
 have a2 : Below w2.heap.size w2 (w2.alloc (.cells #[.string nm, .int .i64 (st : Int), .slice A2 m c2] 25)) := by (repeat' (first | (with_reducible exact Below.refl _ _) | (with_reducible assumption) | (with_reducible refine below_drewN ?_ _) | (with_reducible refine Below.drew ?_) | (with_reducible refine below_alloc ?_ _) | (with_reducible refine Below.alloc ?_ ?_ _) | (with_reducible refine Below.setCell ?_ ?_ _) | (with_reducible refine below_go ?_ (by with_reducible assumption)) | (with_reducible refine below_then (by with_reducible assumption) ?_ ?_) | go_size))
 replace R := R.up a2
 replace Q := Q.up a2
 replace HO := Lib.hid (HO.out.up a2)
 replace HC := Lib.hid (HC.out.up a2)
 replace HB := Lib.hid (below_go HB.out a2)
 rw [z1] at HO
 obtain ⟨b, hb⟩ : ∃ b, b = w2.heap.size := ⟨_, rfl⟩
 have hbz : w.heap.size + 3 ≤ b := by omega
 clear c0 b0 ho2 hc2 hg2 hdr a2 s2
 go_upto_region 3 with fail
 obtain ⟨w3, hw3⟩ : ∃ u, u = w2.alloc (.cells #[.string nm, .int .i64 (st : Int), .slice A2 m c2] 25) := ⟨_, rfl⟩
 rw [← hw3] at K R Q HO HC HB ⊢
 rw [← hb] at K ⊢
 clear hw3 hb z1
 have kc0 := K.cell 0; have kc1 := K.cell 1; have kc2 := K.cell 2
 simp only [List.getElem?_cons_zero, List.getElem?_cons_succ] at kc0 kc1 kc2
 go_wp2_with fail
 have hb3 := K.lt
 refine (cur_anyCalls HS.out HB.out hp0 HC.out (by omega) HLl.out HO.out.recs (by have := HLl.out; omega) hdf.2.2.2.1 hdf.1 hdf.2.2.2.2).mono ?_; rintro e w4 ⟨kb, ks, rfl, zkb, zks, hc4, hg4⟩
 have s4 := hg4.size
 clear kc0 kc1 kc2
 replace K := K.grown hg4 (fun e => by injection e with e; omega)
 replace R := R.grown hg4 (fun e => by injection e with e; omega)
 replace Q := Q.grown hg4 (fun e => by injection e with e; omega)
 replace HO := Lib.hid (HO.out.past hg4 (by omega))
 replace HB := Lib.hid (grown_below HB.out hp0 hg4)
 replace HC := Lib.hid hc4
 clear hg4 hc4
 have J := Blk.at_ w4 27 [.string kb, .string ks] (b := w4.heap.size) rfl
 have a4 : Below w4.heap.size w4 (w4.alloc (.cells #[.string kb, .string ks] 27)) := by (repeat' (first | (with_reducible exact Below.refl _ _) | (with_reducible assumption) | (with_reducible refine below_drewN ?_ _) | (with_reducible refine Below.drew ?_) | (with_reducible refine below_alloc ?_ _) | (with_reducible refine Below.alloc ?_ ?_ _) | (with_reducible refine Below.setCell ?_ ?_ _) | (with_reducible refine below_go ?_ (by with_reducible assumption)) | (with_reducible refine below_then (by with_reducible assumption) ?_ ?_) | go_size))
 replace K := K.up a4
 replace R := R.up a4
 replace Q := Q.up a4
 replace HO := Lib.hid (HO.out.up a4)
 replace HC := Lib.hid (HC.out.up a4)
 replace HB := Lib.hid (below_go HB.out a4)
 obtain ⟨d, hd⟩ : ∃ b, b = w4.heap.size := ⟨_, rfl⟩
 have hdz : b < d := by omega
 clear a4 s4
 go_upto_region 4 with fail
 obtain ⟨w5, hw5⟩ : ∃ u, u = w4.alloc (.cells #[.string kb, .string ks] 27) := ⟨_, rfl⟩
 rw [← hw5] at K J R Q HO HC HB ⊢
 rw [← hd] at J ⊢
 clear hw5 hd
 go_wp2_with fail
 have hd3 := J.lt
 refine (cur_pick HS.out HB.out hp0 HC.out (by omega) (by decide) (by decide)).mono ?_; rintro e w6 ⟨x, rfl, ⟨x0, x1⟩, hc6, hg6⟩
 have s6 := hg6.size
 obtain ⟨N, hN⟩ : ∃ q : Nat, (1 : Int) + x = (q : Int) := ⟨(1 + x).toNat, by omega⟩
 have hN7 : N ≤ 7 := by omega
 clear x0 x1
 replace K := K.grown hg6 (fun e => by injection e with e; omega)
 replace J := J.grown hg6 (fun e => by injection e with e; omega)
 replace R := R.grown hg6 (fun e => by injection e with e; omega)
 replace Q := Q.grown hg6 (fun e => by injection e with e; omega)
 replace HO := Lib.hid (HO.out.past hg6 (by omega))
 replace HB := Lib.hid (grown_below HB.out hp0 hg6)
 replace HC := Lib.hid hc6
 clear hg6 hc6
 go_upto_region 5 with fail
 (try rw [hN])
 clear hN
 go_wp2_with fail
 refine (cur_one HS.out HB.out hp0 HC.out (by omega) (by decide) (by decide)).mono ?_; rintro e w7 ⟨q1, rfl, hc7, hg7⟩
 have s7 := hg7.size
 replace K := K.grown hg7 (fun e => by injection e with e; omega)
 replace J := J.grown hg7 (fun e => by injection e with e; omega)
 replace R := R.grown hg7 (fun e => by injection e with e; omega)
 replace Q := Q.grown hg7 (fun e => by injection e with e; omega)
 replace HO := Lib.hid (HO.out.past hg7 (by omega))
 replace HB := Lib.hid (grown_below HB.out hp0 hg7)
 replace HC := Lib.hid hc7
 clear hg7 hc7
 rcases q1
 ·skip
  have carO : Hid (∀ u : World, w7.grownBy u (some (w.heap.size + 2)) → u.cell? ⟨b, 0, none⟩ = some (.string nm) ∧ u.cell? ⟨b, 1, none⟩ = some (.int .i64 (st : Int)) ∧ u.cell? ⟨b, 2, none⟩ = some (.slice A2 m c2) ∧ u.cell? ⟨d, 0, none⟩ = some (.string kb) ∧ u.cell? ⟨d, 1, none⟩ = some (.string ks)) := Lib.hid (fun u hu => by
   have L0 := K.grown hu (fun e => by injection e with e; omega)
   have L1 := J.grown hu (fun e => by injection e with e; omega)
   exact ⟨by simpa using L0.cell 0, by simpa using L0.cell 1, by simpa using L0.cell 2, by simpa using L1.cell 0, by simpa using L1.cell 1⟩)
  have C0 : w7.grownBy w7.drew (some (w.heap.size + 2)) := grown_any (Below.refl _ _).drew _
  go_upto_region 7 with fail
  have gA : w7.grownBy (w7.drew.alloc (.cells #[.int .i64 1, .int .i64 5, .int .i64 40, .int .i64 200, .int .i64 5000, .int .i64 5001, .int .i64 0, .int .i64 5000, .int .i64 5000] 3)) (some (w.heap.size + 2)) := grownBy_trans C0 (World.grownBy_alloc _ _ _)
  have hwl : w.heap.size + 2 < w7.heap.size := by omega
  have hlb := lit_ints w7.drew 3 [1, 5, 40, 200, 5000, 5001, 0, 5000, 5000]
  refine wp_region_held_drew (S := fun u => u.cell? ⟨b, 0, none⟩ = some (.string nm) ∧ u.cell? ⟨b, 1, none⟩ = some (.int .i64 (st : Int)) ∧ u.cell? ⟨b, 2, none⟩ = some (.slice A2 m c2) ∧ u.cell? ⟨d, 0, none⟩ = some (.string kb) ∧ u.cell? ⟨d, 1, none⟩ = some (.string ks)) (by kernel_rfl) (carO.out _ C0) (fun hHeld => ?_)
  refine takeH 0 26 (v := ?_) rfl (by kernel_rfl) (by kernel_rfl) (by kernel_rfl) (fun _ _ _ h => h) (Or.inl ⟨by rfl, ?_⟩) (by assumption) ?_
  rotate_left
  ·(intro w hSw; (try dsimp only at hSw); go_simp) <;> with_reducible rfl
  (try simp only [Act.put, List.setIfInBounds_toArray, List.set_cons_zero, List.set_cons_succ])
  refine takeH 1 27 (v := ?_) rfl (by kernel_rfl) (by kernel_rfl) (by kernel_rfl) (fun _ _ _ h => h) (Or.inl ⟨by rfl, ?_⟩) (by assumption) ?_
  rotate_left
  ·(intro w hSw; (try dsimp only at hSw); go_simp) <;> with_reducible rfl
  (try simp only [Act.put, List.setIfInBounds_toArray, List.set_cons_zero, List.set_cons_succ])
  refine takeH 2 28 (v := ?_) rfl (by kernel_rfl) (by kernel_rfl) (by kernel_rfl) (fun _ _ _ h => h) (Or.inl ⟨by rfl, ?_⟩) (by assumption) ?_
  rotate_left
  ·(intro w hSw; (try dsimp only at hSw); go_simp) <;> with_reducible rfl
  (try simp only [Act.put, List.setIfInBounds_toArray, List.set_cons_zero, List.set_cons_succ])
  refine takeH 3 29 (v := ?_) rfl (by kernel_rfl) (by kernel_rfl) (by kernel_rfl) (fun _ _ _ h => h) (Or.inl ⟨by rfl, ?_⟩) (by assumption) ?_
  rotate_left
  ·(intro w hSw; (try dsimp only at hSw); go_simp) <;> with_reducible rfl
  (try simp only [Act.put, List.setIfInBounds_toArray, List.set_cons_zero, List.set_cons_succ])
  refine wpAnyH_ready (rs := [4]) (by kernel_rfl) (by simp) ?_
  refine AllReadyH.cons (o := _) rfl (fun K0 hK0 => ?_) AllReadyH.nil
  go_simp
  refine hK0.out _ _ (carO.out _ gA) (fun hHeld => ?_)
  clear hK0 K0
  (try simp only [Act.put, List.setIfInBounds_toArray, List.set_cons_zero, List.set_cons_succ])
  refine wpAnyH_ready (rs := [5]) (by kernel_rfl) (by simp) ?_
  refine AllReadyH.cons (o := _) rfl (fun K hK => ?_) AllReadyH.nil
  go_simp
  refine (cur_among (l := [1, 5, 40, 200, 5000, 5001, 0, 5000, 5000]) HS.out (grown_below HB.out hp0 gA) hp0 ((HC.out.up (Below.refl _ _).drew).up ((Below.refl _ _).alloc (Nat.le_refl _) _)) (by omega) rfl hlb (by decide) (by decide) (fun b o e => by injection e with e; injection e with e; simp at e; omega)).mono ?_; rintro e w9 ⟨y, hy, rfl, hc9, hg9⟩
  have hg9 := grownBy_trans gA hg9
  try go_wp2_with fail
  refine hK.out _ _ (carO.out _ hg9) (fun hHeld => ?_)
  clear hK K
  (try simp only [Act.put, List.setIfInBounds_toArray, List.set_cons_zero, List.set_cons_succ])
  have hy2 : 0 ≤ y ∧ y ≤ 5001 := by
   simp only [List.mem_cons, List.not_mem_nil, or_false] at hy
   omega
  obtain ⟨Y, rfl⟩ := Int.eq_ofNat_of_zero_le hy2.1
  have hY : Y ≤ 5001 := by omega
  clear hy hy2 carO C0 gA hlb
  replace K := K.grown hg9 (fun e => by injection e with e; omega)
  replace J := J.grown hg9 (fun e => by injection e with e; omega)
  replace R := R.grown hg9 (fun e => by injection e with e; omega)
  replace Q := Q.grown hg9 (fun e => by injection e with e; omega)
  replace HO := Lib.hid (HO.out.past hg9 (by omega))
  replace HB := Lib.hid (grown_below HB.out hp0 hg9)
  replace HC := Lib.hid hc9
  clear hg9 hc9
  have rc0 := R.cell 0; have rc1 := R.cell 1; have rc2 := R.cell 2
  have rf0 := R.frozen 0; have rf1 := R.frozen 1; have rf2 := R.frozen 2
  have yc0 := Q.cell 0; have yc1 := Q.cell 1
  have yf0 := Q.frozen 0; have yf1 := Q.frozen 1
  simp only [List.getElem?_cons_zero, List.getElem?_cons_succ] at rc0 rc1 rc2 yc0 yc1
  have cS : Hid (∀ u : World, Blk u b 25 [.string nm, .int .i64 (st : Int), .slice A2 m c2] → Blk u d 27 [.string kb, .string ks] → u.cell? ⟨b, 0, none⟩ = some (.string nm) ∧ u.cell? ⟨b, 1, none⟩ = some (.int .i64 (st : Int)) ∧ u.cell? ⟨b, 2, none⟩ = some (.slice A2 m c2) ∧ u.cell? ⟨d, 0, none⟩ = some (.string kb) ∧ u.cell? ⟨d, 1, none⟩ = some (.string ks)) := Lib.hid (fun u L0 L1 => ⟨by simpa using L0.cell 0, by simpa using L0.cell 1, by simpa using L0.cell 2, by simpa using L1.cell 0, by simpa using L1.cell 1⟩)
  have q1 := sets3_grown w9 w.heap.size (.string nm) (.int .i64 (st : Int)) (.slice A2 m c2)
  have R1 := ((R.set_ 0 (.string nm)).set_ 1 (.int .i64 (st : Int))).set_ 2 (.slice A2 m c2)
  have Y1 := Q.grown q1 (fun e => by injection e with e; omega)
  have K1 := K.grown q1 (fun e => by injection e with e; omega)
  have J1 := J.grown q1 (fun e => by injection e with e; omega)
  have hbs := HB.out.size
  have HB1 := Lib.hid (HB.out.grown q1 hbs (fun k e => by injection e with e; omega))
  have HO1 := Lib.hid (HO.out.past q1 (by omega))
  obtain ⟨wA, hwA⟩ : ∃ u, u = ((w9.setCell ⟨w.heap.size, 0, none⟩ (.string nm)).setCell ⟨w.heap.size, 1, none⟩ (.int .i64 (st : Int))).setCell ⟨w.heap.size, 2, none⟩ (.slice A2 m c2) := ⟨_, rfl⟩
  rw [← hwA] at R1 Y1 K1 J1 HB1 HO1
  refine wpAnyH_ready (rs := [6]) (by kernel_rfl) (by simp) ?_
  refine AllReadyH.cons (o := _) rfl (fun K0 hK0 => ?_) AllReadyH.nil
  go_simp
  try rw [← hwA]
  refine hK0.out _ _ (cS.out _ K1 J1) (fun hHeld1 => ?_)
  clear hK0 K0 rc0 rc1 rc2 rf0 rf1 rf2 yc0 yc1 yf0 yf1 R Q K J hHeld hwA q1
  (try simp only [Act.put, List.setIfInBounds_toArray, List.set_cons_zero, List.set_cons_succ])
  have yc0 := Y1.cell 0; have yc1 := Y1.cell 1
  have yf0 := Y1.frozen 0; have yf1 := Y1.frozen 1
  simp only [List.getElem?_cons_zero, List.getElem?_cons_succ] at yc0 yc1
  have q2 := sets2_grown wA (w.heap.size + 1) (.string kb) (.string ks)
  have R2 := R1.grown q2 (fun e => by injection e with e; omega)
  have Y2 := (Y1.set_ 0 (.string kb)).set_ 1 (.string ks)
  have K2 := K1.grown q2 (fun e => by injection e with e; omega)
  have J2 := J1.grown q2 (fun e => by injection e with e; omega)
  have HB2 := Lib.hid (HB1.out.grown q2 HB1.out.size (fun k e => by injection e with e; omega))
  have HO2 := Lib.hid (HO1.out.past q2 (by omega))
  obtain ⟨wB, hwB⟩ : ∃ u, u = (wA.setCell ⟨w.heap.size + 1, 0, none⟩ (.string kb)).setCell ⟨w.heap.size + 1, 1, none⟩ (.string ks) := ⟨_, rfl⟩
  rw [← hwB] at R2 Y2 K2 J2 HB2 HO2
  refine wpAnyH_ready (rs := [7]) (by kernel_rfl) (by simp) ?_
  refine AllReadyH.cons (o := _) rfl (fun K0 hK0 => ?_) AllReadyH.nil
  go_simp
  try rw [← hwB]
  refine hK0.out _ _ (cS.out _ K2 J2) (fun hHeld2 => ?_)
  clear hK0 K0 yc0 yc1 yf0 yf1 hHeld1 hwB q2
  (try simp only [Act.put, List.setIfInBounds_toArray, List.set_cons_zero, List.set_cons_succ])
  refine wpAnyH_ready (rs := [8]) (by kernel_rfl) (by simp) ?_
  refine AllReadyH.cons (o := _) rfl (fun K0 hK0 => ?_) AllReadyH.nil
  go_simp
  refine hK0.out _ _ (cS.out _ K2 J2) (fun hHeld3 => ?_)
  clear hK0 K0 hHeld3
  (try simp only [Act.put, List.setIfInBounds_toArray, List.set_cons_zero, List.set_cons_succ])
  refine wpAnyH_ready (rs := [9]) (by kernel_rfl) (by simp) ?_
  refine AllReadyH.cons (o := _) rfl (fun K0 hK0 => ?_) AllReadyH.nil
  go_simp
  refine hK0.out _ _ (cS.out _ K2 J2) (fun hHeld3 => ?_)
  clear hK0 K0 hHeld3
  (try simp only [Act.put, List.setIfInBounds_toArray, List.set_cons_zero, List.set_cons_succ])
  refine wpAnyH_done (by kernel_rfl) ?_ _
  (try simp only [Act.put, List.setIfInBounds_toArray, List.set_cons_zero, List.set_cons_succ])
  have u0 := R2.cell 0; have u1 := R2.cell 1; have u2 := R2.cell 2
  have v0 := Y2.cell 0; have v1 := Y2.cell 1
  simp only [List.set_cons_zero, List.set_cons_succ, List.getElem?_cons_zero, List.getElem?_cons_succ] at u0 u1 u2 v0 v1
  clear R1 R2 Y1 Y2 K1 J1 K2 J2 HC HB1 HO1
  go_wp2_with fail
  refine bodyPost_ret (v := .tuple #[.agg #[.string nm, .int .i64 (st : Int), .slice A2 m c2], .agg #[.string kb, .string ks], .int .i64 (N : Nat), .int .i64 (Y : Nat)]) (by simp [results, Tryz.results60, go_sem, u0, u1, u2, v0, v1]) rfl ?_
  exact ⟨nm, st, A2, m, c2, L, kb, ks, N, Y, rfl, HDR.out, zkb, zks, by omega, by omega, HO2.out.base_le (by omega), HB2.out⟩
 ·skip
  have hl8 := lit_ints w7 3 [0, 6, 7]
  have g8 : w7.grownBy (w7.alloc (.cells #[.int .i64 0, .int .i64 6, .int .i64 7] 3)) (some (w.heap.size + 2)) := World.grownBy_alloc _ _ _
  have hwl7 : w.heap.size + 2 < w7.heap.size := by omega
  go_wp2_with fail
  refine (cur_among (l := [0, 6, 7]) HS.out (grown_below HB.out hp0 g8) hp0 (HC.out.up ((Below.refl _ _).alloc (Nat.le_refl _) _)) (by omega) rfl hl8 (by decide) (by decide) (fun b o e => by injection e with e; injection e with e; omega)).mono ?_; rintro e w8 ⟨z, hzl, rfl, hc8, hg8⟩
  have hg8 := grownBy_trans g8 hg8
  have hz2 : 0 ≤ z ∧ z ≤ 7 := by
   simp only [List.mem_cons, List.not_mem_nil, or_false] at hzl
   omega
  obtain ⟨Z, rfl⟩ := Int.eq_ofNat_of_zero_le hz2.1
  have hZ : Z ≤ 7 := by omega
  have s8 := hg8.size
  clear hl8 g8 hzl hz2
  replace K := K.grown hg8 (fun e => by injection e with e; omega)
  replace J := J.grown hg8 (fun e => by injection e with e; omega)
  replace R := R.grown hg8 (fun e => by injection e with e; omega)
  replace Q := Q.grown hg8 (fun e => by injection e with e; omega)
  replace HO := Lib.hid (HO.out.past hg8 (by omega))
  replace HB := Lib.hid (grown_below HB.out hp0 hg8)
  replace HC := Lib.hid hc8
  clear hg8 hc8
  have carO : Hid (∀ u : World, w8.grownBy u (some (w.heap.size + 2)) → u.cell? ⟨b, 0, none⟩ = some (.string nm) ∧ u.cell? ⟨b, 1, none⟩ = some (.int .i64 (st : Int)) ∧ u.cell? ⟨b, 2, none⟩ = some (.slice A2 m c2) ∧ u.cell? ⟨d, 0, none⟩ = some (.string kb) ∧ u.cell? ⟨d, 1, none⟩ = some (.string ks)) := Lib.hid (fun u hu => by
   have L0 := K.grown hu (fun e => by injection e with e; omega)
   have L1 := J.grown hu (fun e => by injection e with e; omega)
   exact ⟨by simpa using L0.cell 0, by simpa using L0.cell 1, by simpa using L0.cell 2, by simpa using L1.cell 0, by simpa using L1.cell 1⟩)
  have C0 : w8.grownBy w8.drew (some (w.heap.size + 2)) := grown_any (Below.refl _ _).drew _
  go_upto_region 7 with fail
  have gA : w8.grownBy (w8.drew.alloc (.cells #[.int .i64 1, .int .i64 5, .int .i64 40, .int .i64 200, .int .i64 5000, .int .i64 5001, .int .i64 0, .int .i64 5000, .int .i64 5000] 3)) (some (w.heap.size + 2)) := grownBy_trans C0 (World.grownBy_alloc _ _ _)
  have hwl : w.heap.size + 2 < w8.heap.size := by omega
  have hlb := lit_ints w8.drew 3 [1, 5, 40, 200, 5000, 5001, 0, 5000, 5000]
  refine wp_region_held_drew (S := fun u => u.cell? ⟨b, 0, none⟩ = some (.string nm) ∧ u.cell? ⟨b, 1, none⟩ = some (.int .i64 (st : Int)) ∧ u.cell? ⟨b, 2, none⟩ = some (.slice A2 m c2) ∧ u.cell? ⟨d, 0, none⟩ = some (.string kb) ∧ u.cell? ⟨d, 1, none⟩ = some (.string ks)) (by kernel_rfl) (carO.out _ C0) (fun hHeld => ?_)
  refine takeH 0 26 (v := ?_) rfl (by kernel_rfl) (by kernel_rfl) (by kernel_rfl) (fun _ _ _ h => h) (Or.inl ⟨by rfl, ?_⟩) (by assumption) ?_
  rotate_left
  ·(intro w hSw; (try dsimp only at hSw); go_simp) <;> with_reducible rfl
  (try simp only [Act.put, List.setIfInBounds_toArray, List.set_cons_zero, List.set_cons_succ])
  refine takeH 1 27 (v := ?_) rfl (by kernel_rfl) (by kernel_rfl) (by kernel_rfl) (fun _ _ _ h => h) (Or.inl ⟨by rfl, ?_⟩) (by assumption) ?_
  rotate_left
  ·(intro w hSw; (try dsimp only at hSw); go_simp) <;> with_reducible rfl
  (try simp only [Act.put, List.setIfInBounds_toArray, List.set_cons_zero, List.set_cons_succ])
  refine takeH 2 28 (v := ?_) rfl (by kernel_rfl) (by kernel_rfl) (by kernel_rfl) (fun _ _ _ h => h) (Or.inl ⟨by rfl, ?_⟩) (by assumption) ?_
  rotate_left
  ·(intro w hSw; (try dsimp only at hSw); go_simp) <;> with_reducible rfl
  (try simp only [Act.put, List.setIfInBounds_toArray, List.set_cons_zero, List.set_cons_succ])
  refine takeH 3 29 (v := ?_) rfl (by kernel_rfl) (by kernel_rfl) (by kernel_rfl) (fun _ _ _ h => h) (Or.inl ⟨by rfl, ?_⟩) (by assumption) ?_
  rotate_left
  ·(intro w hSw; (try dsimp only at hSw); go_simp) <;> with_reducible rfl
  (try simp only [Act.put, List.setIfInBounds_toArray, List.set_cons_zero, List.set_cons_succ])
  refine wpAnyH_ready (rs := [4]) (by kernel_rfl) (by simp) ?_
  refine AllReadyH.cons (o := _) rfl (fun K0 hK0 => ?_) AllReadyH.nil
  go_simp
  refine hK0.out _ _ (carO.out _ gA) (fun hHeld => ?_)
  clear hK0 K0
  (try simp only [Act.put, List.setIfInBounds_toArray, List.set_cons_zero, List.set_cons_succ])
  refine wpAnyH_ready (rs := [5]) (by kernel_rfl) (by simp) ?_
  refine AllReadyH.cons (o := _) rfl (fun K hK => ?_) AllReadyH.nil
  go_simp
  refine (cur_among (l := [1, 5, 40, 200, 5000, 5001, 0, 5000, 5000]) HS.out (grown_below HB.out hp0 gA) hp0 ((HC.out.up (Below.refl _ _).drew).up ((Below.refl _ _).alloc (Nat.le_refl _) _)) (by omega) rfl hlb (by decide) (by decide) (fun b o e => by injection e with e; injection e with e; simp at e; omega)).mono ?_; rintro e w9 ⟨y, hy, rfl, hc9, hg9⟩
  have hg9 := grownBy_trans gA hg9
  try go_wp2_with fail
  refine hK.out _ _ (carO.out _ hg9) (fun hHeld => ?_)
  clear hK K
  (try simp only [Act.put, List.setIfInBounds_toArray, List.set_cons_zero, List.set_cons_succ])
  have hy2 : 0 ≤ y ∧ y ≤ 5001 := by
   simp only [List.mem_cons, List.not_mem_nil, or_false] at hy
   omega
  obtain ⟨Y, rfl⟩ := Int.eq_ofNat_of_zero_le hy2.1
  have hY : Y ≤ 5001 := by omega
  clear hy hy2 carO C0 gA hlb
  replace K := K.grown hg9 (fun e => by injection e with e; omega)
  replace J := J.grown hg9 (fun e => by injection e with e; omega)
  replace R := R.grown hg9 (fun e => by injection e with e; omega)
  replace Q := Q.grown hg9 (fun e => by injection e with e; omega)
  replace HO := Lib.hid (HO.out.past hg9 (by omega))
  replace HB := Lib.hid (grown_below HB.out hp0 hg9)
  replace HC := Lib.hid hc9
  clear hg9 hc9
  have rc0 := R.cell 0; have rc1 := R.cell 1; have rc2 := R.cell 2
  have rf0 := R.frozen 0; have rf1 := R.frozen 1; have rf2 := R.frozen 2
  have yc0 := Q.cell 0; have yc1 := Q.cell 1
  have yf0 := Q.frozen 0; have yf1 := Q.frozen 1
  simp only [List.getElem?_cons_zero, List.getElem?_cons_succ] at rc0 rc1 rc2 yc0 yc1
  have cS : Hid (∀ u : World, Blk u b 25 [.string nm, .int .i64 (st : Int), .slice A2 m c2] → Blk u d 27 [.string kb, .string ks] → u.cell? ⟨b, 0, none⟩ = some (.string nm) ∧ u.cell? ⟨b, 1, none⟩ = some (.int .i64 (st : Int)) ∧ u.cell? ⟨b, 2, none⟩ = some (.slice A2 m c2) ∧ u.cell? ⟨d, 0, none⟩ = some (.string kb) ∧ u.cell? ⟨d, 1, none⟩ = some (.string ks)) := Lib.hid (fun u L0 L1 => ⟨by simpa using L0.cell 0, by simpa using L0.cell 1, by simpa using L0.cell 2, by simpa using L1.cell 0, by simpa using L1.cell 1⟩)
  have q1 := sets3_grown w9 w.heap.size (.string nm) (.int .i64 (st : Int)) (.slice A2 m c2)
  have R1 := ((R.set_ 0 (.string nm)).set_ 1 (.int .i64 (st : Int))).set_ 2 (.slice A2 m c2)
  have Y1 := Q.grown q1 (fun e => by injection e with e; omega)
  have K1 := K.grown q1 (fun e => by injection e with e; omega)
  have J1 := J.grown q1 (fun e => by injection e with e; omega)
  have hbs := HB.out.size
  have HB1 := Lib.hid (HB.out.grown q1 hbs (fun k e => by injection e with e; omega))
  have HO1 := Lib.hid (HO.out.past q1 (by omega))
  obtain ⟨wA, hwA⟩ : ∃ u, u = ((w9.setCell ⟨w.heap.size, 0, none⟩ (.string nm)).setCell ⟨w.heap.size, 1, none⟩ (.int .i64 (st : Int))).setCell ⟨w.heap.size, 2, none⟩ (.slice A2 m c2) := ⟨_, rfl⟩
  rw [← hwA] at R1 Y1 K1 J1 HB1 HO1
  refine wpAnyH_ready (rs := [6]) (by kernel_rfl) (by simp) ?_
  refine AllReadyH.cons (o := _) rfl (fun K0 hK0 => ?_) AllReadyH.nil
  go_simp
  try rw [← hwA]
  refine hK0.out _ _ (cS.out _ K1 J1) (fun hHeld1 => ?_)
  clear hK0 K0 rc0 rc1 rc2 rf0 rf1 rf2 yc0 yc1 yf0 yf1 R Q K J hHeld hwA q1
  (try simp only [Act.put, List.setIfInBounds_toArray, List.set_cons_zero, List.set_cons_succ])
  have yc0 := Y1.cell 0; have yc1 := Y1.cell 1
  have yf0 := Y1.frozen 0; have yf1 := Y1.frozen 1
  simp only [List.getElem?_cons_zero, List.getElem?_cons_succ] at yc0 yc1
  have q2 := sets2_grown wA (w.heap.size + 1) (.string kb) (.string ks)
  have R2 := R1.grown q2 (fun e => by injection e with e; omega)
  have Y2 := (Y1.set_ 0 (.string kb)).set_ 1 (.string ks)
  have K2 := K1.grown q2 (fun e => by injection e with e; omega)
  have J2 := J1.grown q2 (fun e => by injection e with e; omega)
  have HB2 := Lib.hid (HB1.out.grown q2 HB1.out.size (fun k e => by injection e with e; omega))
  have HO2 := Lib.hid (HO1.out.past q2 (by omega))
  obtain ⟨wB, hwB⟩ : ∃ u, u = (wA.setCell ⟨w.heap.size + 1, 0, none⟩ (.string kb)).setCell ⟨w.heap.size + 1, 1, none⟩ (.string ks) := ⟨_, rfl⟩
  rw [← hwB] at R2 Y2 K2 J2 HB2 HO2
  refine wpAnyH_ready (rs := [7]) (by kernel_rfl) (by simp) ?_
  refine AllReadyH.cons (o := _) rfl (fun K0 hK0 => ?_) AllReadyH.nil
  go_simp
  try rw [← hwB]
  refine hK0.out _ _ (cS.out _ K2 J2) (fun hHeld2 => ?_)
  clear hK0 K0 yc0 yc1 yf0 yf1 hHeld1 hwB q2
  (try simp only [Act.put, List.setIfInBounds_toArray, List.set_cons_zero, List.set_cons_succ])
  refine wpAnyH_ready (rs := [8]) (by kernel_rfl) (by simp) ?_
  refine AllReadyH.cons (o := _) rfl (fun K0 hK0 => ?_) AllReadyH.nil
  go_simp
  refine hK0.out _ _ (cS.out _ K2 J2) (fun hHeld3 => ?_)
  clear hK0 K0 hHeld3
  (try simp only [Act.put, List.setIfInBounds_toArray, List.set_cons_zero, List.set_cons_succ])
  refine wpAnyH_ready (rs := [9]) (by kernel_rfl) (by simp) ?_
  refine AllReadyH.cons (o := _) rfl (fun K0 hK0 => ?_) AllReadyH.nil
  go_simp
  refine hK0.out _ _ (cS.out _ K2 J2) (fun hHeld3 => ?_)
  clear hK0 K0 hHeld3
  (try simp only [Act.put, List.setIfInBounds_toArray, List.set_cons_zero, List.set_cons_succ])
  refine wpAnyH_done (by kernel_rfl) ?_ _
  (try simp only [Act.put, List.setIfInBounds_toArray, List.set_cons_zero, List.set_cons_succ])
  have u0 := R2.cell 0; have u1 := R2.cell 1; have u2 := R2.cell 2
  have v0 := Y2.cell 0; have v1 := Y2.cell 1
  simp only [List.set_cons_zero, List.set_cons_succ, List.getElem?_cons_zero, List.getElem?_cons_succ] at u0 u1 u2 v0 v1
  clear R1 R2 Y1 Y2 K1 J1 K2 J2 HC HB1 HO1
  go_wp2_with fail
  refine bodyPost_ret (v := .tuple #[.agg #[.string nm, .int .i64 (st : Int), .slice A2 m c2], .agg #[.string kb, .string ks], .int .i64 (Z : Nat), .int .i64 (Y : Nat)]) (by simp [results, Tryz.results60, go_sem, u0, u1, u2, v0, v1]) rfl ?_
  exact ⟨nm, st, A2, m, c2, L, kb, ks, Z, Y, rfl, HDR.out, zkb, zks, by omega, by omega, HO2.out.base_le (by omega), HB2.out⟩
end Go.Proofs.YtidolgonmimicaaGreat
namespace Go.Proofs.YtidolgonmimicaaGreat
open Go.ChangeShapes Go.WideShapes Go.ChangeAt Go.RowKit Go.Deep
theorem Recs.sub {α : Type} {e : α → List Value} {s : Nat} {w : World} {b o : Nat} {l : List α} (h : Recs e s w (some ⟨b, o, none⟩) l) {i n : Nat} (hin : i + n ≤ l.length) : Recs e s w (some ⟨b, o + i * s, none⟩) ((l.drop i).take n) := by
 have hl : ((l.drop i).take n).length = n := by simp; omega
 have h1 : (((l.drop i).take n).flatMap e).length = n * s := by rw [flatMap_len h.1, hl]
 refine ⟨h.1, by rw [hl]; exact h1, fun hn => ?_⟩
 rw [hl] at hn
 obtain ⟨b', o', hA, hb, hc⟩ := h.2.2 (by omega)
 injection hA with hA
 injection hA with e1 e2 _
 subst e1 e2
 refine ⟨b, o + i * s, rfl, hb, fun j u hu => ?_⟩
 rw [Nat.add_assoc]
 refine hc (i * s + j) u ?_
 have hj : j < n * s := by rw [← h1]; exact (List.getElem?_eq_some_iff.1 hu).1
 have e3 : l.flatMap e = (l.take i).flatMap e ++ (((l.drop i).take n).flatMap e ++ ((l.drop i).drop n).flatMap e) := by
  rw [← List.flatMap_append, ← List.flatMap_append, List.take_append_drop, List.take_append_drop]
 have e4 : ((l.take i).flatMap e).length = i * s := by rw [flatMap_len h.1, List.length_take, Nat.min_eq_left (by omega)]
 rw [e3, List.getElem?_append_right (by omega), e4, Nat.add_sub_cancel_left, List.getElem?_append_left (by omega)]
 exact hu
def rowB (l : List (Int × Int)) : ByteArray := strOfNums (l.map fun x => 48 + x.1)
def cutAt (l : List (Int × Int)) (n k : Nat) : ByteArray := rowB ((l.drop (k * n)).take n)
def cutAll (l : List (Int × Int)) (n : Nat) : Bool := (List.range (l.length / n)).all fun k => goodRow (cutAt l n k)
def cutOk (l : List (Int × Int)) (n : Int) : Bool := (goodStrikes l && inB n 3 8) && cutAll l n.toNat
def cutL (l : List (Int × Int)) (n : Int) : List ByteArray := if cutOk l n = true then (List.range (l.length / n.toNat)).map (cutAt l n.toNat) else []
def cutR (l : List (Int × Int)) (n k : Nat) : List ByteArray := (List.range k).map (cutAt l n)
end Go.Proofs.YtidolgonmimicaaGreat
namespace Go.Proofs.YtidolgonmimicaaGreat
open Go.ChangeShapes Go.WideShapes Go.ChangeAt Go.RowKit Go.Deep
theorem Recs.take13 {α : Type} {e : α → List Value} {s : Nat} {w : World} {A : Option Addr} {l : List α} (h : Recs e s w A l) (m : Nat) : Recs e s w A (l.take m) := by
 refine ⟨h.1, by rw [flatMap_len h.1], fun hn => ?_⟩
 have h0 : 0 < l.length := by rw [List.length_take] at hn; omega
 obtain ⟨b, off, hA, hb, hc⟩ := h.2.2 h0
 refine ⟨b, off, hA, hb, fun j u hu => hc j u ?_⟩
 have e1 : l.flatMap e = (l.take m).flatMap e ++ (l.drop m).flatMap e := by rw [← List.flatMap_append, List.take_append_drop]
 rw [e1, List.getElem?_append_left (List.getElem?_eq_some_iff.1 hu).1]
 exact hu
theorem Src.half {w : World} {A : Option Addr} {n : Nat} (h : Src w A n) (c : Nat) : Src w (if c = n / 2 then A else Option.map (fun x => x.add (n / 2)) A) (n - n / 2) := by
 obtain ⟨l, h1, h2, h3, h4⟩ := h
 rcases Nat.eq_zero_or_pos n with h0 | h0
 ·subst h0
  obtain rfl := List.length_eq_zero_iff.1 h1
  exact ⟨[], rfl, by omega, (fun x hx => (by cases hx)), byteE_len, Rd.none_ _ _ _⟩
 ·split
  ·exact ⟨l.take (n - n / 2), by rw [List.length_take]; omega, by omega, fun x hx => h3 x (List.mem_of_mem_take hx), h4.take13 _⟩
  ·obtain ⟨b, o, rfl, _⟩ := h4.2.2 (by omega)
   have h5 := h4.sub (i := n / 2) (n := n - n / 2) (by omega)
   rw [Nat.mul_one] at h5
   have e5 : Option.map (fun x : Addr => x.add (n / 2)) (some (⟨b, o, none⟩ : Addr)) = some ⟨b, o + n / 2, none⟩ := by rw [Option.map_some, Go.WideShapes.add_plain]
   rw [e5]
   refine ⟨(l.drop (n / 2)).take (n - n / 2), by rw [List.length_take, List.length_drop]; omega, by omega, fun x hx => h3 x (List.mem_of_mem_drop (List.mem_of_mem_take hx)), h5⟩
theorem run_C {cut : ByteArray → Option Cut3} {n : Nat} (hc : ∀ p c, cut p = some c → c.1 = p) : ∀ (b : Nat) (S T : List ByteArray) (C : List Cut3), (∀ p ∈ S, p.size ≤ n) → (∀ c ∈ C, c.1.size ≤ n) → ∀ c ∈ (runF cut n b S T C).C, c.1.size ≤ n
 | 0, S, T, C, _, h, c, hm => h c hm
 | b + 1, [], T, C, _, h, c, hm => h c hm
 | b + 1, p :: S, T, C, hS, h, c, hm => by
  have hp := hS p (List.mem_cons_self ..)
  have hS' : ∀ q ∈ S, q.size ≤ n := fun q hq => hS q (List.mem_cons_of_mem _ hq)
  cases hx : cut p with
  | some x =>
   rw [run_cut hx] at hm
   refine run_C hc b S T _ hS' (fun y hy => ?_) c hm
   rcases List.mem_append.1 hy with q | q
   ·exact h y q
   ·rw [List.mem_singleton.1 q, hc p x hx]; exact hp
  | none =>
   by_cases hn : p.size = n
   ·rw [run_touch hx hn] at hm
    exact run_C hc b S _ C hS' h c hm
   ·rw [run_kids hx hn] at hm
    refine run_C hc b _ T C (fun q hq => ?_) h c hm
    rcases List.mem_append.1 hq with g | g
    ·have := kid_size g; omega
    ·exact hS' q g
theorem stR_C (nm : ByteArray) (st : Nat) (l : List ByteArray) (kb ks : ByteArray) (N bd : Nat) : ∀ c ∈ (stR nm st l kb ks N bd).C, c.1.size ≤ N := by
 intro c hc
 rw [stR] at hc
 split at hc
 ·exact run_C (fun p c h => cut_fst p c h) _ _ _ _ (fun p hp => by rw [List.mem_singleton.1 hp]; exact Nat.zero_le _) (fun c hc => by cases hc) c hc
 ·cases hc
end Go.Proofs.YtidolgonmimicaaGreat
