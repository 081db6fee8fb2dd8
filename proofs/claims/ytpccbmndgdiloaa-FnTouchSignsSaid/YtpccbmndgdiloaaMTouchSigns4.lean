/- Texts 4 of 5 that the claim leans on: plain laws and the walks' contracts, in order. -/
import Derived.Test.YtpccbmndgdiloaaMTouchSigns3
import Derived.Deep.DeepCutAuto
import Derived.BigRegion
import Derived.Maps.StringElems
/- The walks through the generators of touches and calls. -/
namespace Go.Proofs.Ytpccbmndgdiloaa
set_option linter.unusedVariables false
set_option linter.unusedSimpArgs false
open Go.ChangeShapes Go.WideShapes Go.ChangeAt Go.RowKit Go.Deep
theorem sets3_grown (u : World) (r : Nat) (a b c : Value) : u.grownBy (((u.setCell ⟨r, 0, none⟩ a).setCell ⟨r, 1, none⟩ b).setCell ⟨r, 2, none⟩ c) (some r) :=
  grownBy_trans (grownBy_trans (only_set _ (p := ⟨r, 0, none⟩) _) (only_set _ (p := ⟨r, 1, none⟩) _)) (only_set _ (p := ⟨r, 2, none⟩) _)
theorem sets2_grown (u : World) (r : Nat) (a b : Value) : u.grownBy ((u.setCell ⟨r, 0, none⟩ a).setCell ⟨r, 1, none⟩ b) (some r) :=
  grownBy_trans (only_set _ (p := ⟨r, 0, none⟩) _) (only_set _ (p := ⟨r, 1, none⟩) _)
set_option maxHeartbeats 4000000 in
set_option maxRecDepth 100000 in
theorem cur_called {A : Option Addr} {n c a p : Nat} {w0 w : World} (hS : Src w0 A n) (hb : Below w0.heap.size w0 w) (hp : w0.heap.size ≤ p) (hc : Cur w p A n c a) (ha : a ≤ 100000) :
    Calls Try.prog 154 #[.pointer (some ⟨p, 0, none⟩)] w fun e w' => ∃ (nm : ByteArray) (st : Nat) (A' : Option Addr) (m c' : Nat) (L : List ByteArray) (kb ks : ByteArray), e = .returned (.tuple #[.agg #[.string nm, .int .i64 st, .slice A' m c'], .agg #[.string kb, .string ks]]) ∧ goodM nm st L = true ∧ 3 ≤ st ∧ st ≤ 6 ∧ kb.size ≤ 8 ∧ ks.size ≤ 8 ∧ m ≤ 12 ∧ Owned strE 1 9 w' w.heap.size A' m c' L ∧ Cur w' p A n c (a + 102) ∧ w.grownBy w' (some p) := by
  have hpw := hc.lt
  have R0 := (Blk.at_ w 26 [.string ⟨#[]⟩, .int .i64 0, .slice none 0 0] (b := w.heap.size) rfl).alloc (.cells #[.string ⟨#[]⟩, .string ⟨#[]⟩] 28)
  have Q0 := Blk.at_ (w.alloc (.cells #[.string ⟨#[]⟩, .int .i64 0, .slice none 0 0] 26)) 28 [.string ⟨#[]⟩, .string ⟨#[]⟩] (b := w.heap.size + 1) (by simp)
  have b0 : Below w.heap.size w ((w.alloc (.cells #[.string ⟨#[]⟩, .int .i64 0, .slice none 0 0] 26)).alloc (.cells #[.string ⟨#[]⟩, .string ⟨#[]⟩] 28)) := by (repeat' (first | (with_reducible exact Below.refl _ _) | (with_reducible assumption) | (with_reducible refine below_drewN ?_ _) | (with_reducible refine Below.drew ?_) | (with_reducible refine below_alloc ?_ _) | (with_reducible refine Below.alloc ?_ ?_ _) | (with_reducible refine Below.setCell ?_ ?_ _) | (with_reducible refine below_go ?_ (by with_reducible assumption)) | (with_reducible refine below_then (by with_reducible assumption) ?_ ?_) | go_size))
  have G : Hid (∀ u : World, w.grownBy u (some p) → Below w0.heap.size w0 u) := Lib.hid (fun u hg => grown_below hb hp hg)
  have HS := Lib.hid hS
  clear hS hb
  go_in
  go_wp2_with fail
  obtain ⟨w1, hw1⟩ : ∃ u, u = (w.alloc (.cells #[.string ⟨#[]⟩, .int .i64 0, .slice none 0 0] 26)).alloc (.cells #[.string ⟨#[]⟩, .string ⟨#[]⟩] 28) := ⟨_, rfl⟩
  have z1 : w1.heap.size = w.heap.size + 2 := by rw [hw1]; simp
  rw [← hw1] at b0 R0 Q0 ⊢
  clear hw1
  refine (cur_method HS.out (G.out _ (grown_any b0 _)) hp (hc.up b0) (by omega)).mono ?_; rintro e w2 ⟨nm, st, A2, m, c2, L, rfl, hgm, h3, h6, hm, ho2, hc2, hg2⟩
  have g2 : w.grownBy w2 (some p) := grownBy_trans (grown_any b0 _) hg2
  have s2 := hg2.size
  have R2 := R0.grown hg2 (fun e => by injection e with e; omega)
  have Q2 := Q0.grown hg2 (fun e => by injection e with e; omega)
  have K2 := Blk.at_ w2 26 [.string nm, .int .i64 (st : Int), .slice A2 m c2] (b := w2.heap.size) rfl
  have a2 : Below w2.heap.size w2 (w2.alloc (.cells #[.string nm, .int .i64 (st : Int), .slice A2 m c2] 26)) := by (repeat' (first | (with_reducible exact Below.refl _ _) | (with_reducible assumption) | (with_reducible refine below_drewN ?_ _) | (with_reducible refine Below.drew ?_) | (with_reducible refine below_alloc ?_ _) | (with_reducible refine Below.alloc ?_ ?_ _) | (with_reducible refine Below.setCell ?_ ?_ _) | (with_reducible refine below_go ?_ (by with_reducible assumption)) | (with_reducible refine below_then (by with_reducible assumption) ?_ ?_) | go_size))
  have HO := Lib.hid (ho2.up a2)
  have HC := Lib.hid (hc2.up a2)
  have HG := Lib.hid (grownBy_trans g2 (grown_any a2 _))
  have R3 := R2.up a2; have Q3 := Q2.up a2
  have HGM := Lib.hid hgm
  clear R0 Q0 R2 Q2 hc ho2 hc2 hg2 g2 hgm
  go_upto_region 2 with fail
  obtain ⟨w3, hw3⟩ : ∃ u, u = w2.alloc (.cells #[.string nm, .int .i64 (st : Int), .slice A2 m c2] 26) := ⟨_, rfl⟩
  rw [← hw3] at K2 a2 HO HC HG R3 Q3 ⊢
  have s3 : w3.heap.size = w2.heap.size + 1 := by rw [hw3]; simp
  clear hw3
  have carry : Hid (∀ u : World, w3.grownBy u (some p) → u.cell? ⟨w2.heap.size, 0, none⟩ = some (.string nm) ∧ u.cell? ⟨w2.heap.size, 1, none⟩ = some (.int .i64 (st : Int)) ∧ u.cell? ⟨w2.heap.size, 2, none⟩ = some (.slice A2 m c2)) := Lib.hid (fun u hu => by
    have J := K2.grown hu (fun e => by injection e with e; omega)
    exact ⟨by simpa using J.cell 0, by simpa using J.cell 1, by simpa using J.cell 2⟩)
  have carB : Hid (∀ u : World, w3.grownBy u (some p) → (u.cell? ⟨w.heap.size, 0, none⟩ = some (.string ⟨#[]⟩) ∧ u.cell? ⟨w.heap.size, 1, none⟩ = some (.int .i64 0) ∧ u.cell? ⟨w.heap.size, 2, none⟩ = some (.slice none 0 0)) ∧ (u.frozen? ⟨w.heap.size, 0, none⟩ = false ∧ u.frozen? ⟨w.heap.size, 1, none⟩ = false ∧ u.frozen? ⟨w.heap.size, 2, none⟩ = false) ∧ (u.cell? ⟨w.heap.size + 1, 0, none⟩ = some (.string ⟨#[]⟩) ∧ u.cell? ⟨w.heap.size + 1, 1, none⟩ = some (.string ⟨#[]⟩)) ∧ u.frozen? ⟨w.heap.size + 1, 0, none⟩ = false ∧ u.frozen? ⟨w.heap.size + 1, 1, none⟩ = false) := Lib.hid (fun u hu => by
    have J := R3.grown hu (fun e => by injection e with e; omega)
    have J2 := Q3.grown hu (fun e => by injection e with e; omega)
    exact ⟨⟨by simpa using J.cell 0, by simpa using J.cell 1, by simpa using J.cell 2⟩, ⟨J.frozen 0, J.frozen 1, J.frozen 2⟩, ⟨by simpa using J2.cell 0, by simpa using J2.cell 1⟩, J2.frozen 0, J2.frozen 1⟩)
  have far3 : Hid (∀ (u : World) (x y z : Value), (u.cell? ⟨w2.heap.size, 0, none⟩ = some (.string nm) ∧ u.cell? ⟨w2.heap.size, 1, none⟩ = some (.int .i64 (st : Int)) ∧ u.cell? ⟨w2.heap.size, 2, none⟩ = some (.slice A2 m c2)) → w2.heap.size < u.heap.size → ((((u.setCell ⟨w.heap.size, 0, none⟩ x).setCell ⟨w.heap.size, 1, none⟩ y).setCell ⟨w.heap.size, 2, none⟩ z).cell? ⟨w2.heap.size, 0, none⟩ = some (.string nm) ∧ (((u.setCell ⟨w.heap.size, 0, none⟩ x).setCell ⟨w.heap.size, 1, none⟩ y).setCell ⟨w.heap.size, 2, none⟩ z).cell? ⟨w2.heap.size, 1, none⟩ = some (.int .i64 (st : Int)) ∧ (((u.setCell ⟨w.heap.size, 0, none⟩ x).setCell ⟨w.heap.size, 1, none⟩ y).setCell ⟨w.heap.size, 2, none⟩ z).cell? ⟨w2.heap.size, 2, none⟩ = some (.slice A2 m c2))) := Lib.hid (fun u x y z h hu => by
    have q : ∀ o : Nat, (((u.setCell ⟨w.heap.size, 0, none⟩ x).setCell ⟨w.heap.size, 1, none⟩ y).setCell ⟨w.heap.size, 2, none⟩ z).cell? ⟨w2.heap.size, o, none⟩ = u.cell? ⟨w2.heap.size, o, none⟩ := fun o => (sets3_grown u w.heap.size x y z).cell_far ⟨w2.heap.size, o, none⟩ hu (fun e => by injection e with e; dsimp only at e; omega)
    rw [q, q, q]; exact h)
  have far2 : Hid (∀ (u : World) (x y : Value), (u.cell? ⟨w2.heap.size, 0, none⟩ = some (.string nm) ∧ u.cell? ⟨w2.heap.size, 1, none⟩ = some (.int .i64 (st : Int)) ∧ u.cell? ⟨w2.heap.size, 2, none⟩ = some (.slice A2 m c2)) → w2.heap.size < u.heap.size → (((u.setCell ⟨w.heap.size + 1, 0, none⟩ x).setCell ⟨w.heap.size + 1, 1, none⟩ y).cell? ⟨w2.heap.size, 0, none⟩ = some (.string nm) ∧ ((u.setCell ⟨w.heap.size + 1, 0, none⟩ x).setCell ⟨w.heap.size + 1, 1, none⟩ y).cell? ⟨w2.heap.size, 1, none⟩ = some (.int .i64 (st : Int)) ∧ ((u.setCell ⟨w.heap.size + 1, 0, none⟩ x).setCell ⟨w.heap.size + 1, 1, none⟩ y).cell? ⟨w2.heap.size, 2, none⟩ = some (.slice A2 m c2))) := Lib.hid (fun u x y h hu => by
    have q : ∀ o : Nat, ((u.setCell ⟨w.heap.size + 1, 0, none⟩ x).setCell ⟨w.heap.size + 1, 1, none⟩ y).cell? ⟨w2.heap.size, o, none⟩ = u.cell? ⟨w2.heap.size, o, none⟩ := fun o => (sets2_grown u (w.heap.size + 1) x y).cell_far ⟨w2.heap.size, o, none⟩ hu (fun e => by injection e with e; dsimp only at e; omega)
    rw [q, q, q]; exact h)
  have BR : Hid (∀ u : World, w3.grownBy u (some p) → Blk u w.heap.size 26 [.string ⟨#[]⟩, .int .i64 0, .slice none 0 0] ∧ Blk u (w.heap.size + 1) 28 [.string ⟨#[]⟩, .string ⟨#[]⟩]) := Lib.hid (fun u hu => ⟨R3.grown hu (fun e => by injection e with e; omega), Q3.grown hu (fun e => by injection e with e; omega)⟩)
  have fin : Hid (∀ (u v : World) (kb ks : ByteArray) (a' : Nat), w3.grownBy u (some p) → Cur u p A n c a' → a' ≤ a + 102 → kb.size ≤ 8 → ks.size ≤ 8 → (∃ m : World, (u.grownBy m (some w.heap.size) ∧ m.grownBy v (some (w.heap.size + 1))) ∨ (u.grownBy m (some (w.heap.size + 1)) ∧ m.grownBy v (some w.heap.size))) → ∃ (nm' : ByteArray) (st' : Nat) (A' : Option Addr) (m' c' : Nat) (L' : List ByteArray) (kb' ks' : ByteArray), Ending.returned (Value.tuple #[.agg #[.string nm, .int .i64 (st : Int), .slice A2 m c2], .agg #[.string kb, .string ks]]) = .returned (.tuple #[.agg #[.string nm', .int .i64 (st' : Int), .slice A' m' c'], .agg #[.string kb', .string ks']]) ∧ goodM nm' st' L' = true ∧ 3 ≤ st' ∧ st' ≤ 6 ∧ kb'.size ≤ 8 ∧ ks'.size ≤ 8 ∧ m' ≤ 12 ∧ Owned strE 1 9 v w.heap.size A' m' c' L' ∧ Cur v p A n c (a + 102) ∧ w.grownBy v (some p)) := Lib.hid (fun u v kb ks a' h1 h2 h3' h4 h5 ⟨mm, h6'⟩ => by
    have ho := HO.out.past h1 (by omega)
    have hg := grownBy_trans HG.out h1
    rcases h6' with ⟨q1, q2⟩ | ⟨q1, q2⟩
    · exact ⟨nm, st, A2, m, c2, L, kb, ks, rfl, HGM.out, h3, h6, h4, h5, hm, ((ho.past q1 (by omega)).past q2 (by omega)).base_le (by omega), ((h2.grown q1 (fun e => by injection e with e; omega)).grown q2 (fun e => by injection e with e; omega)).mono h3', grow_own (grow_own hg q1 (fun k e => by injection e with e; omega)) q2 (fun k e => by injection e with e; omega)⟩
    · exact ⟨nm, st, A2, m, c2, L, kb, ks, rfl, HGM.out, h3, h6, h4, h5, hm, ((ho.past q1 (by omega)).past q2 (by omega)).base_le (by omega), ((h2.grown q1 (fun e => by injection e with e; omega)).grown q2 (fun e => by injection e with e; omega)).mono h3', grow_own (grow_own hg q1 (fun k e => by injection e with e; omega)) q2 (fun k e => by injection e with e; omega)⟩)
  have C0 : w3.grownBy w3.drew (some p) := grown_any (below_drewN (Below.refl _ _) 1) _
  clear K2 R3 Q3 a2
  go_region_held3 (fun u => u.cell? ⟨w2.heap.size, 0, none⟩ = some (.string nm) ∧ u.cell? ⟨w2.heap.size, 1, none⟩ = some (.int .i64 (st : Int)) ∧ u.cell? ⟨w2.heap.size, 2, none⟩ = some (.slice A2 m c2)) (first | with_reducible exact carry.out _ C2 | with_reducible exact carry.out _ C1 | with_reducible exact carry.out _ C0 | with_reducible exact far3.out _ _ _ _ (by assumption) (by first | omega | (simp; omega)) | with_reducible exact far2.out _ _ _ (by assumption) (by first | omega | (simp; omega))) (first | (go_at_call 190; (with_reducible refine (cur_change HS.out (G.out _ (grownBy_trans HG.out C1)) hp hc4 (by omega) (by omega) h3).mono ?_); rintro e w5 ⟨ks, rfl, gks, zks, hc5, hg5⟩; have C2 := grownBy_trans C1 hg5; have X2 := hg5.size; obtain ⟨⟨u0, u1, u2⟩, ⟨v0, v1, v2⟩, ⟨x0, x1⟩, y0, y1⟩ := carB.out _ C2) | (go_at_call 190; (with_reducible refine (cur_change HS.out (G.out _ (grownBy_trans HG.out C0)) hp (HC.out.up (below_drewN (Below.refl _ _) 1)) (by omega) (by omega) h3).mono ?_); rintro e w4 ⟨kb, rfl, gkb, zkb, hc4, hg4⟩; have C1 := grownBy_trans C0 hg4; have X1 := hg4.size; simp at X1))
  · obtain ⟨R5, Q5⟩ := BR.out _ C2
    have R6 := (((R5.set_ 0 (.string nm)).set_ 1 (.int .i64 (st : Int))).set_ 2 (.slice A2 m c2)).grown (sets2_grown _ (w.heap.size + 1) (.string kb) (.string ks)) (fun e => by injection e with e; omega)
    have Q6 := ((Q5.grown (sets3_grown w5 w.heap.size (.string nm) (.int .i64 (st : Int)) (.slice A2 m c2)) (fun e => by injection e with e; omega)).set_ 0 (.string kb)).set_ 1 (.string ks)
    have k0 := R6.cell 0; have k1 := R6.cell 1; have k2 := R6.cell 2; have l0 := Q6.cell 0; have l1 := Q6.cell 1
    simp only [List.set_cons_zero, List.set_cons_succ, List.getElem?_cons_zero, List.getElem?_cons_succ] at k0 k1 k2 l0 l1
    have FF := Lib.hid (fin.out _ _ kb ks _ C2 hc5 (by omega) zkb zks ⟨_, .inl ⟨sets3_grown w5 w.heap.size (.string nm) (.int .i64 (st : Int)) (.slice A2 m c2), sets2_grown _ (w.heap.size + 1) (.string kb) (.string ks)⟩⟩)
    clear R5 Q5 R6 Q6 hc5 hc4 C0 C1 C2 fin carry carB far2 far3 u0 u1 u2 v0 v1 v2 x0 x1 y0 y1
    go_wp2_with fail
    refine bodyPost_ret (v := .tuple #[.agg #[.string nm, .int .i64 (st : Int), .slice A2 m c2], .agg #[.string kb, .string ks]]) (by simp [results, Try.results154, go_sem, k0, k1, k2, l0, l1]) rfl ?_
    exact FF.out
set_option maxHeartbeats 1000000 in
set_option maxRecDepth 100000 in
theorem cur_staged {A : Option Addr} {n c a p : Nat} {w0 w : World} (hS : Src w0 A n) (hb : Below w0.heap.size w0 w) (hp : w0.heap.size ≤ p) (hc : Cur w p A n c a) (ha : a ≤ 100000) :
    Calls Try.prog 162 #[.pointer (some ⟨p, 0, none⟩)] w fun e w' => ∃ (st : Nat) (x : ByteArray), e = .returned (.tuple #[.int .i64 st, .string x]) ∧ st ≤ 14 ∧ x.size ≤ 8 ∧ Cur w' p A n c (a + 10) ∧ w.grownBy w' (some p) := by
  have hpw := hc.lt
  have G : Hid (∀ u : World, w.grownBy u (some p) → Below w0.heap.size w0 u) := Lib.hid (fun u hg => grown_below hb hp hg)
  go_in
  go_wp2_with fail
  refine (cur_stage hS hb hp hc (by omega)).mono ?_; rintro e w1 ⟨X, rfl, x3, x8, hc1, hg1⟩
  go_wp2_with fail
  refine (cur_one hS (G.out _ hg1) hp hc1 (by omega) (by decide) (by decide)).mono ?_; rintro e w2 ⟨b, rfl, hc2, hg2⟩
  have g2 := grownBy_trans hg1 hg2
  rcases b
  · go_wp2_with fail
    refine (cur_change hS (G.out _ g2) hp hc2 (by omega) (by omega) (by omega)).mono ?_; rintro e w3 ⟨x, rfl, _, zx, hc3, hg3⟩
    go_wp2
    go_ret2
    exact ⟨X, x, rfl, by omega, zx, hc3.mono (by omega), grownBy_trans g2 hg3⟩
  · go_wp2_with fail
    refine (cur_pick hS (G.out _ g2) hp hc2 (by omega) (by decide) (by decide)).mono ?_; rintro e w3 ⟨y, rfl, ⟨y0, y1⟩, hc3, hg3⟩
    have g3 := grownBy_trans g2 hg3
    obtain ⟨Y, rfl⟩ := Int.eq_ofNat_of_zero_le y0
    have hY : Y ≤ 1 := by omega
    clear y0 y1
    go_wp2_with fail
    have hl := lit_strs2 w3 9 [⟨#[45]⟩, ⟨#[]⟩, ⟨#[49]⟩, ⟨#[49, 50]⟩, ⟨#[49, 51]⟩, ⟨#[49, 52]⟩, ⟨#[49, 54]⟩, ⟨#[49, 50, 51, 52, 53, 54]⟩, ⟨#[51, 54]⟩, ⟨#[48]⟩, ⟨#[50, 49]⟩]
    have hpw3 := hc3.lt
    refine (cur_of hS ((G.out _ g3).alloc (G.out _ g3).size _) hp (hc3.up ((Below.refl _ _).alloc (Nat.le_refl _) _)) (by omega) rfl hl (by decide) (by decide) (fun b o e => by injection e with e; injection e with e; omega)).mono ?_; rintro e w4 ⟨x, hx, rfl, hc4, hg4⟩
    have hxs : x.size ≤ 8 := by
      simp only [List.mem_cons, List.not_mem_nil, or_false] at hx
      rcases hx with rfl | rfl | rfl | rfl | rfl | rfl | rfl | rfl | rfl | rfl | rfl <;> decide
    clear hx hl
    go_wp2
    refine bodyPost_ret (v := .tuple #[.int .i64 ((X + Y * 6 : Nat) : Int), .string x]) (by simp [results, Try.results162, go_sem] <;> (try constructor) <;> (try exact (Ending.returned.inj (by assumption)).symm) <;> omega) rfl ?_
    exact ⟨X + Y * 6, x, rfl, by omega, hxs, hc4.mono (by omega), grownBy_trans g3 (grownBy_trans (World.grownBy_alloc _ _ _) hg4)⟩
set_option maxRecDepth 100000 in
theorem draw_GoodChange {A : Option Addr} {n c : Nat} {w : World} (hS : Src w A n) :
    Calls Try.prog 79 #[.slice A n c] w fun e w' => ∃ (st : Nat) (x : ByteArray), e = .returned (.tuple #[.int .i64 st, .string x]) ∧ st ≤ 14 ∧ x.size ≤ 8 ∧ Below w.heap.size w w' := by
  have b0 : Below w.heap.size w (w.alloc (.cells #[.slice A n c, .int .i64 0, .int .u64 0] 104)) := by (repeat' (first | (with_reducible exact Below.refl _ _) | (with_reducible assumption) | (with_reducible refine below_drewN ?_ _) | (with_reducible refine Below.drew ?_) | (with_reducible refine below_alloc ?_ _) | (with_reducible refine Below.alloc ?_ ?_ _) | (with_reducible refine Below.setCell ?_ ?_ _) | (with_reducible refine below_go ?_ (by with_reducible assumption)) | (with_reducible refine below_then (by with_reducible assumption) ?_ ?_) | go_size))
  have c0 := cur_fresh w A n c
  go_in
  go_wp2_with fail
  refine (cur_staged hS b0 (Nat.le_refl _) c0 (by omega)).mono ?_; rintro e w2 ⟨st, x, rfl, h1, h2, hc2, hg2⟩
  go_wp2
  go_ret2
  exact ⟨st, x, rfl, h1, h2, grown_below b0 (Nat.le_refl _) hg2⟩
set_option maxRecDepth 100000 in
theorem draw_ChangeSign {A : Option Addr} {n c : Nat} {w : World} (hS : Src w A n) :
    Calls Try.prog 17 #[.slice A n c] w fun e w' => ∃ (st : Nat) (x : ByteArray), e = .returned (.tuple #[.int .i64 st, .string x]) ∧ st ≤ 14 ∧ x.size ≤ 8 ∧ Below w.heap.size w w' := by
  go_in
  go_wp2_with fail
  refine (draw_GoodChange hS).mono ?_; rintro e w2 ⟨st, x, rfl, h1, h2, h3⟩
  go_wp2
  go_ret2
  exact ⟨st, x, rfl, h1, h2, h3⟩
end Go.Proofs.Ytpccbmndgdiloaa
/- The walks through good methods and good calls, both sides. -/
namespace Go.Proofs.Ytpccbmndgdiloaa
set_option linter.unusedVariables false
set_option linter.unusedSimpArgs false
open Go.ChangeShapes Go.WideShapes Go.ChangeAt Go.RowKit Go.Deep
theorem lowB_eq (s : ByteArray) (k : Nat) : lowB s k = (!decide (PlainAid.bt s k < 97) && !decide (122 < PlainAid.bt s k)) := by
  rw [lowB, inB, Bool.eq_iff_iff]
  simp
set_option maxRecDepth 100000 in
theorem impl_isWord {s : ByteArray} {w : World} (hz : s.size ≤ 16777216) :
    Calls Try.prog 209 #[.string s] w fun e w' => e = .returned (.bool (nameOk s)) ∧ w = w' := by
  have gb := PlainAid.get_bt s
  have HN : Hid (nameOk s = ((List.range s.size).all (lowB s) && inB s.size 1 10)) := Lib.hid rfl
  go_in
  go_wp2
  go_loopw [6] (fun i wr => ∃ k : Nat, k ≤ s.size ∧ i = .int .i64 k ∧ Hid (∀ j, j < k → lowB s j = true) ∧ w = wr) (fun i _ => s.size - (intOf i).toNat)
  case atStart => exact ⟨0, Nat.zero_le _, rfl, Lib.hid (fun j hj => absurd hj (by omega)), rfl⟩
  case round =>
    obtain ⟨k, hk, rfl, HK, rfl⟩ := hrel
    by_cases hlt : k < s.size
    · by_cases h1 : PlainAid.bt s k < 97
      · have e1 := Lib.hid (show nameOk s = false by rw [HN.out]; exact all_bad hlt (by rw [lowB_eq, decide_eq_true h1]; rfl) _)
        go_wp2
        go_ret
        rw [e1.out]
        exact ⟨rfl, rfl⟩
      · by_cases h2 : 122 < PlainAid.bt s k
        · have e1 := Lib.hid (show nameOk s = false by rw [HN.out]; exact all_bad hlt (by rw [lowB_eq, decide_eq_true h2, decide_eq_false h1]; rfl) _)
          go_wp2
          go_ret
          rw [e1.out]
          exact ⟨rfl, rfl⟩
        · have e1 := Lib.hid (show lowB s k = true by rw [lowB_eq, decide_eq_false h2, decide_eq_false h1]; rfl)
          go_wp2
          go_roundw
          case rel => exact ⟨k + 1, by omega, by go_num, Lib.hid (upto_succ HK.out e1.out), trivial⟩
          case measure => simp [intOf]; omega
    · obtain rfl : k = s.size := by omega
      have e1 := Lib.hid (show nameOk s = inB s.size 1 10 by rw [HN.out]; exact all_good (fun j hj => HK.out j hj) _)
      by_cases h1 : 1 ≤ s.size
      · go_wp2
        go_ret
        refine ⟨ret_bool ?_, rfl⟩
        rw [e1.out, inB]
        exact decide_eq_decide.2 (by omega)
      · have hI : ¬ (1 : Int) ≤ (s.size : Int) := by omega
        go_wp2
        go_ret
        refine ⟨ret_bool ?_, rfl⟩
        rw [e1.out, inB, decide_eq_false (by omega)]
set_option maxRecDepth 100000 in
theorem spec_l4Name {s : ByteArray} {w : World} (hz : s.size ≤ 16777216) :
    Calls Try.prog 240 #[.string s] w fun e w' => e = .returned (.bool (nameOk s)) ∧ w = w' := by
  have gb := PlainAid.get_bt s
  have HN : Hid (nameOk s = ((List.range s.size).all (lowB s) && inB s.size 1 10)) := Lib.hid rfl
  go_in
  go_wp2
  go_loopw [3] (fun i wr => ∃ k : Nat, k ≤ s.size ∧ i = .int .i64 k ∧ Hid (∀ j, j < k → lowB s j = true) ∧ w = wr) (fun i _ => s.size - (intOf i).toNat)
  case atStart => exact ⟨0, Nat.zero_le _, rfl, Lib.hid (fun j hj => absurd hj (by omega)), rfl⟩
  case round =>
    obtain ⟨k, hk, rfl, HK, rfl⟩ := hrel
    by_cases hlt : k < s.size
    · by_cases h1 : PlainAid.bt s k < 97
      · have e1 := Lib.hid (show nameOk s = false by rw [HN.out]; exact all_bad hlt (by rw [lowB_eq, decide_eq_true h1]; rfl) _)
        go_wp2
        go_ret
        rw [e1.out]
        exact ⟨rfl, rfl⟩
      · by_cases h2 : 122 < PlainAid.bt s k
        · have e1 := Lib.hid (show nameOk s = false by rw [HN.out]; exact all_bad hlt (by rw [lowB_eq, decide_eq_true h2, decide_eq_false h1]; rfl) _)
          go_wp2
          go_ret
          rw [e1.out]
          exact ⟨rfl, rfl⟩
        · have e1 := Lib.hid (show lowB s k = true by rw [lowB_eq, decide_eq_false h2, decide_eq_false h1]; rfl)
          go_wp2
          go_roundw
          case rel => exact ⟨k + 1, by omega, by go_num, Lib.hid (upto_succ HK.out e1.out), trivial⟩
          case measure => simp [intOf]; omega
    · obtain rfl : k = s.size := by omega
      have e1 := Lib.hid (show nameOk s = inB s.size 1 10 by rw [HN.out]; exact all_good (fun j hj => HK.out j hj) _)
      go_wp2_with fail
      refine (spec_l1In _ _ _ _).mono ?_; rintro e w' ⟨rfl, rfl⟩
      go_wp2
      go_ret
      exact ⟨ret_bool e1.out.symm, rfl⟩
set_option maxRecDepth 100000 in
theorem impl_areChanges {A : Option Addr} {N c : Nat} {st : Int} {l : List ByteArray} {w : World} (hN : l.length = N) (h : Strs w A l) (hz : N ≤ 1048576) (hs : ∀ s ∈ l, s.size ≤ 16777216) (hst : I64 st) :
    Calls Try.prog 210 #[.int .i64 st, .slice A N c] w fun e w' => e = .returned (.bool (inB l.length 1 40 && allCh st l)) ∧ Below w.heap.size w w' := by
  subst hN
  have HS := Lib.hid hs
  have HQ : Hid (allCh st l = (List.range l.length).all (okCh st l)) := Lib.hid rfl
  clear hs
  rcases hl : inB l.length 1 40
  · by_cases h1 : l.length < 1
    · have hI : (l.length : Int) < 1 := by omega
      go_in
      go_wp2
      go_ret
      exact ⟨rfl, Below.refl _ _⟩
    · have hI : ¬ (l.length : Int) < 1 := by omega
      have hJ : (40 : Int) < (l.length : Int) := by
        rw [inB, decide_eq_false_iff_not] at hl; omega
      go_in
      go_wp2
      go_ret
      exact ⟨rfl, Below.refl _ _⟩
  · have hb := inB_t hl
    have hI : ¬ (l.length : Int) < 1 := by omega
    have hJ : ¬ (40 : Int) < (l.length : Int) := by omega
    go_in
    go_wp2
    go_loopw [17] (fun i wr => ∃ k : Nat, k ≤ l.length ∧ i = .int .i64 k ∧ Hid (∀ j, j < k → okCh st l j = true) ∧ Below w.heap.size w wr) (fun i _ => l.length - (intOf i).toNat)
    case atStart => exact ⟨0, Nat.zero_le _, rfl, Lib.hid (fun j hj => absurd hj (by omega)), Below.refl _ _⟩
    case round =>
      obtain ⟨k, hk, rfl, HK, hb⟩ := hrel
      by_cases hlt : k < l.length
      · obtain ⟨b1, o1, y, rfl, _, hy, hcy⟩ := (h.below hb (Nat.le_refl _)).at_str hlt
        have hys := HS.out y (List.mem_of_getElem? hy)
        have E := Lib.hid (okCh_at (n := st) hy)
        clear hy h
        go_wp2_with fail
        refine (impl_GoodChange hys).mono ?_; rintro e w1 ⟨rfl, hb1⟩
        have hbt := below_go hb hb1
        rcases hg : goodChange st y
        · have e1 := Lib.hid (show allCh st l = false by rw [HQ.out]; exact all_no hlt (by rw [E.out, hg]))
          go_wp2
          go_ret
          rw [e1.out]
          exact ⟨rfl, hbt⟩
        · have e1 := Lib.hid (show okCh st l k = true by rw [E.out, hg])
          go_wp2
          go_roundw
          case rel => exact ⟨k + 1, by omega, by go_num, Lib.hid (upto_succ HK.out e1.out), hbt⟩
          case measure => simp [intOf]; omega
      · obtain rfl : k = l.length := by omega
        have e1 := Lib.hid (show allCh st l = true by rw [HQ.out]; exact all_yes (fun j hj => HK.out j hj))
        go_wp2
        go_ret
        rw [e1.out]
        exact ⟨rfl, hb⟩
theorem impl_GoodMethod {A : Option Addr} {n c : Nat} {nm : ByteArray} {st : Int} {l : List ByteArray} {w : World} (hn : l.length = n) (h : Strs w A l) (hz : n ≤ 1048576) (hs : ∀ s ∈ l, s.size ≤ 16777216) (hnm : nm.size ≤ 16777216) (hst : I64 st) :
    Calls Try.prog 160 #[.agg #[.string nm, .int .i64 st, .slice A n c]] w fun e w' => e = .returned (.bool (goodM nm st l)) ∧ Below w.heap.size w w' := by
  subst hn
  have HQ : Hid (goodM nm st l = (nameOk nm && (inB st 3 8 && (inB l.length 1 40 && allCh st l)))) := Lib.hid rfl
  have b0 : Below w.heap.size w (w.alloc (.cells ⟨[.string nm, .int .i64 st, .slice A l.length c]⟩ 26)) := by (repeat' (first | (with_reducible exact Below.refl _ _) | (with_reducible assumption) | (with_reducible refine below_drewN ?_ _) | (with_reducible refine Below.drew ?_) | (with_reducible refine below_alloc ?_ _) | (with_reducible refine Below.alloc ?_ ?_ _) | (with_reducible refine Below.setCell ?_ ?_ _) | (with_reducible refine below_go ?_ (by with_reducible assumption)) | (with_reducible refine below_then (by with_reducible assumption) ?_ ?_) | go_size))
  rcases hN : nameOk nm
  · have e1 := Lib.hid (show goodM nm st l = false by rw [HQ.out, hN]; rfl)
    go_in
    go_wp2_with fail
    refine (impl_isWord hnm).mono ?_; rw [hN]; rintro e w' ⟨rfl, rfl⟩
    go_wp2
    go_ret
    rw [e1.out]
    exact ⟨rfl, b0⟩
  · have e1 := Lib.hid (show goodM nm st l = (inB l.length 1 40 && allCh st l) by
      rw [HQ.out, hN]
      rcases hI : inB st 3 8
      · rcases hl : inB l.length 1 40
        · rfl
        · have := inB_t hl
          have : allCh st l = false := all_no (k := 0) (by omega) (by
            obtain ⟨x, hx⟩ := some_of_lt (l := l) (k := 0) (by omega)
            rw [okCh_at hx]; exact goodChange_stage hI)
          rw [this]; rfl
      · rfl)
    go_in
    go_wp2_with fail
    refine (impl_isWord hnm).mono ?_; rw [hN]; rintro e w' ⟨rfl, rfl⟩
    go_wp2_with fail
    refine (impl_areChanges rfl (h.up b0) hz hs hst).mono ?_; rintro e w1 ⟨rfl, hb1⟩
    go_wp2
    go_ret
    rw [e1.out]
    exact ⟨rfl, below_go b0 hb1⟩
theorem goodM_tail {nm : ByteArray} {st : Int} {l : List ByteArray} (ha : allCh st l = true) : goodM nm st l = (nameOk nm && (inB st 3 8 && inB l.length 1 40)) := by
  rw [goodM, ha, Bool.and_true]
theorem goodM_bad {nm : ByteArray} {st : Int} {l : List ByteArray} (ha : allCh st l = false) : goodM nm st l = false := by
  rw [goodM, ha, Bool.and_false, Bool.and_false, Bool.and_false]
set_option maxHeartbeats 1000000 in
set_option maxRecDepth 100000 in
theorem spec_l4Good {A : Option Addr} {n c : Nat} {nm : ByteArray} {st : Int} {l : List ByteArray} {w : World} (hn : l.length = n) (h : Strs w A l) (hz : n ≤ 1048576) (hs : ∀ s ∈ l, s.size ≤ 16777216) (hnm : nm.size ≤ 16777216) (hst : I64 st) :
    Calls Try.prog 231 #[.agg #[.string nm, .int .i64 st, .slice A n c]] w fun e w' => e = .returned (.bool (goodM nm st l)) ∧ Below w.heap.size w w' := by
  subst hn
  have HS := Lib.hid hs
  have HQ : Hid (allCh st l = (List.range l.length).all (okCh st l)) := Lib.hid rfl
  have b0 : Below w.heap.size w (w.alloc (.cells ⟨[.string nm, .int .i64 st, .slice A l.length c]⟩ 26)) := by (repeat' (first | (with_reducible exact Below.refl _ _) | (with_reducible assumption) | (with_reducible refine below_drewN ?_ _) | (with_reducible refine Below.drew ?_) | (with_reducible refine below_alloc ?_ _) | (with_reducible refine Below.alloc ?_ ?_ _) | (with_reducible refine Below.setCell ?_ ?_ _) | (with_reducible refine below_go ?_ (by with_reducible assumption)) | (with_reducible refine below_then (by with_reducible assumption) ?_ ?_) | go_size))
  have K0 := Blk.at_ w 26 [.string nm, .int .i64 st, .slice A l.length c] (b := w.heap.size) rfl
  have h := h.up b0
  clear hs
  go_in
  go_wp2
  obtain ⟨w0, hw0⟩ : ∃ u, u = (w.alloc (.cells #[.string nm, .int .i64 st, .slice A l.length c] 26)) := ⟨_, rfl⟩
  rw [← hw0] at b0 K0 h ⊢
  clear hw0
  have k0 := K0.cell 0; have k1 := K0.cell 1; have k2 := K0.cell 2
  simp only [List.getElem?_cons_zero, List.getElem?_cons_succ] at k0 k1 k2
  go_loopw [8] (fun i wr => ∃ k : Nat, k ≤ l.length ∧ i = .int .i64 k ∧ Hid (∀ j, j < k → okCh st l j = true) ∧ w0 = wr) (fun i _ => l.length - (intOf i).toNat)
  case atStart => exact ⟨0, Nat.zero_le _, rfl, Lib.hid (fun j hj => absurd hj (by omega)), rfl⟩
  case round =>
    obtain ⟨k, hk, rfl, HK, rfl⟩ := hrel
    by_cases hlt : k < l.length
    · obtain ⟨b1, o1, y, rfl, _, hy, hcy⟩ := h.at_str hlt
      have hys := HS.out y (List.mem_of_getElem? hy)
      have E := Lib.hid (okCh_at (n := st) hy)
      clear hy h
      go_wp2_with fail
      refine (spec_l2Change hys hst).mono ?_; rintro e w' ⟨rfl, rfl⟩
      rcases hg : goodChange st y
      · have e1 := Lib.hid (show goodM nm st l = false from goodM_bad (by rw [HQ.out]; exact all_no hlt (by rw [E.out, hg])))
        go_wp2
        go_ret
        rw [e1.out]
        exact ⟨rfl, b0⟩
      · have e1 := Lib.hid (show okCh st l k = true by rw [E.out, hg])
        go_wp2
        go_roundw
        case rel => exact ⟨k + 1, by omega, by go_num, Lib.hid (upto_succ HK.out e1.out), trivial⟩
        case measure => simp [intOf]; omega
    · obtain rfl : k = l.length := by omega
      have e1 := Lib.hid (show goodM nm st l = (nameOk nm && (inB st 3 8 && inB l.length 1 40)) from goodM_tail (by rw [HQ.out]; exact all_yes (fun j hj => HK.out j hj)))
      go_wp2_with fail
      refine (spec_l4Name hnm).mono ?_; rintro e w' ⟨rfl, rfl⟩
      rcases h1 : nameOk nm
      · have e2 := Lib.hid (show goodM nm st l = false by rw [e1.out, h1]; rfl)
        go_wp2
        go_ret
        rw [e2.out]
        exact ⟨rfl, b0⟩
      · go_wp2_with fail
        refine (spec_l1In _ _ _ _).mono ?_; rintro e w' ⟨rfl, rfl⟩
        rcases h2 : inB st 3 8
        · have e2 := Lib.hid (show goodM nm st l = false by rw [e1.out, h1, h2]; rfl)
          go_wp2
          go_ret
          rw [e2.out]
          exact ⟨rfl, b0⟩
        · have e2 := Lib.hid (show goodM nm st l = inB l.length 1 40 by rw [e1.out, h1, h2]; rfl)
          go_wp2_with fail
          refine (spec_l1In _ _ _ _).mono ?_; rintro e w' ⟨rfl, rfl⟩
          go_wp2
          go_ret
          rw [e2.out]
          exact ⟨rfl, b0⟩
set_option maxHeartbeats 1000000 in
theorem impl_GoodCalls {A : Option Addr} {n c : Nat} {nm : ByteArray} {st : Int} {l : List ByteArray} {kb ks : ByteArray} {w : World} (hn : l.length = n) (h : Strs w A l) (hz : n ≤ 1048576) (hs : ∀ s ∈ l, s.size ≤ 16777216) (hnm : nm.size ≤ 16777216) (hst : I64 st) (hkb : kb.size ≤ 16777216) (hks : ks.size ≤ 16777216) :
    Calls Try.prog 76 #[.agg #[.string nm, .int .i64 st, .slice A n c], .agg #[.string kb, .string ks]] w fun e w' => e = .returned (.bool (goodK nm st l kb ks)) ∧ Below w.heap.size w w' := by
  have HQ : Hid (goodK nm st l kb ks = (goodM nm st l && (goodChange st kb && goodChange st ks))) := Lib.hid rfl
  have b0 : Below w.heap.size w ((w.alloc (.cells ⟨[.string nm, .int .i64 st, .slice A n c]⟩ 26)).alloc (.cells ⟨[.string kb, .string ks]⟩ 28)) := by (repeat' (first | (with_reducible exact Below.refl _ _) | (with_reducible assumption) | (with_reducible refine below_drewN ?_ _) | (with_reducible refine Below.drew ?_) | (with_reducible refine below_alloc ?_ _) | (with_reducible refine Below.alloc ?_ ?_ _) | (with_reducible refine Below.setCell ?_ ?_ _) | (with_reducible refine below_go ?_ (by with_reducible assumption)) | (with_reducible refine below_then (by with_reducible assumption) ?_ ?_) | go_size))
  have K0 := (Blk.at_ w 26 [.string nm, .int .i64 st, .slice A n c] (b := w.heap.size) rfl).alloc (.cells ⟨[.string kb, .string ks]⟩ 28)
  have K1 := Blk.at_ (w.alloc (.cells ⟨[.string nm, .int .i64 st, .slice A n c]⟩ 26)) 28 [.string kb, .string ks] (b := w.heap.size + 1) (by simp)
  go_in
  go_wp2_with fail
  obtain ⟨w0, hw0⟩ : ∃ u, u = ((w.alloc (.cells #[.string nm, .int .i64 st, .slice A n c] 26)).alloc (.cells #[.string kb, .string ks] 28)) := ⟨_, rfl⟩
  rw [← hw0] at b0 K0 K1 ⊢
  clear hw0
  refine (impl_GoodMethod hn (h.up b0) hz hs hnm hst).mono ?_; rintro e w1 ⟨rfl, hb1⟩
  have hB1 := below_go b0 hb1
  rcases h1 : goodM nm st l
  · have e1 := Lib.hid (show goodK nm st l kb ks = false by rw [HQ.out, h1]; rfl)
    go_wp2
    go_ret
    rw [e1.out]
    exact ⟨rfl, hB1⟩
  have K0 := K0.up hb1; have K1 := K1.up hb1
  have k1 := K0.cell 1; have q0 := K1.cell 0
  simp only [List.getElem?_cons_zero, List.getElem?_cons_succ] at k1 q0
  go_wp2_with fail
  refine (impl_GoodChange hkb).mono ?_; rintro e w2 ⟨rfl, hb2⟩
  have hB2 := below_go hB1 hb2
  rcases h2 : goodChange st kb
  · have e1 := Lib.hid (show goodK nm st l kb ks = false by rw [HQ.out, h1, h2]; rfl)
    go_wp2
    go_ret
    rw [e1.out]
    exact ⟨rfl, hB2⟩
  have K0 := K0.up hb2; have K1 := K1.up hb2
  have k2 := K0.cell 1; have q1 := K1.cell 1
  simp only [List.getElem?_cons_zero, List.getElem?_cons_succ] at k2 q1
  clear k1 q0
  go_wp2_with fail
  refine (impl_GoodChange hks).mono ?_; rintro e w3 ⟨rfl, hb3⟩
  have e1 := Lib.hid (show goodK nm st l kb ks = goodChange st ks by rw [HQ.out, h1, h2]; rfl)
  go_wp2
  go_ret
  rw [e1.out]
  exact ⟨rfl, below_go hB2 hb3⟩
set_option maxHeartbeats 1000000 in
theorem spec_l8Good {A : Option Addr} {n c : Nat} {nm : ByteArray} {st : Int} {l : List ByteArray} {kb ks : ByteArray} {w : World} (hn : l.length = n) (h : Strs w A l) (hz : n ≤ 1048576) (hs : ∀ s ∈ l, s.size ≤ 16777216) (hnm : nm.size ≤ 16777216) (hst : I64 st) (hkb : kb.size ≤ 16777216) (hks : ks.size ≤ 16777216) :
    Calls Try.prog 205 #[.agg #[.string nm, .int .i64 st, .slice A n c], .agg #[.string kb, .string ks]] w fun e w' => e = .returned (.bool (goodK nm st l kb ks)) ∧ Below w.heap.size w w' := by
  have HQ : Hid (goodK nm st l kb ks = (goodM nm st l && (goodChange st kb && goodChange st ks))) := Lib.hid rfl
  have b0 : Below w.heap.size w ((w.alloc (.cells ⟨[.string nm, .int .i64 st, .slice A n c]⟩ 26)).alloc (.cells ⟨[.string kb, .string ks]⟩ 28)) := by (repeat' (first | (with_reducible exact Below.refl _ _) | (with_reducible assumption) | (with_reducible refine below_drewN ?_ _) | (with_reducible refine Below.drew ?_) | (with_reducible refine below_alloc ?_ _) | (with_reducible refine Below.alloc ?_ ?_ _) | (with_reducible refine Below.setCell ?_ ?_ _) | (with_reducible refine below_go ?_ (by with_reducible assumption)) | (with_reducible refine below_then (by with_reducible assumption) ?_ ?_) | go_size))
  have K0 := (Blk.at_ w 26 [.string nm, .int .i64 st, .slice A n c] (b := w.heap.size) rfl).alloc (.cells ⟨[.string kb, .string ks]⟩ 28)
  have K1 := Blk.at_ (w.alloc (.cells ⟨[.string nm, .int .i64 st, .slice A n c]⟩ 26)) 28 [.string kb, .string ks] (b := w.heap.size + 1) (by simp)
  go_in
  go_wp2_with fail
  obtain ⟨w0, hw0⟩ : ∃ u, u = ((w.alloc (.cells #[.string nm, .int .i64 st, .slice A n c] 26)).alloc (.cells #[.string kb, .string ks] 28)) := ⟨_, rfl⟩
  rw [← hw0] at b0 K0 K1 ⊢
  clear hw0
  refine (spec_l4Good hn (h.up b0) hz hs hnm hst).mono ?_; rintro e w1 ⟨rfl, hb1⟩
  have hB1 := below_go b0 hb1
  rcases h1 : goodM nm st l
  · have e1 := Lib.hid (show goodK nm st l kb ks = false by rw [HQ.out, h1]; rfl)
    go_wp2
    go_ret
    rw [e1.out]
    exact ⟨rfl, hB1⟩
  have K0 := K0.up hb1; have K1 := K1.up hb1
  have k1 := K0.cell 1; have q0 := K1.cell 0; have q1 := K1.cell 1
  simp only [List.getElem?_cons_zero, List.getElem?_cons_succ] at k1 q0 q1
  go_wp2_with fail
  refine (spec_l2Change hkb hst).mono ?_; rintro e w' ⟨rfl, rfl⟩
  rcases h2 : goodChange st kb
  · have e1 := Lib.hid (show goodK nm st l kb ks = false by rw [HQ.out, h1, h2]; rfl)
    go_wp2
    go_ret
    rw [e1.out]
    exact ⟨rfl, hB1⟩
  go_wp2_with fail
  refine (spec_l2Change hks hst).mono ?_; rintro e w' ⟨rfl, rfl⟩
  have e1 := Lib.hid (show goodK nm st l kb ks = goodChange st ks by rw [HQ.out, h1, h2]; rfl)
  go_wp2
  go_ret
  rw [e1.out]
  exact ⟨rfl, hB1⟩
theorem impl_isCall {s : ByteArray} {w : World} :
    Calls Try.prog 230 #[.string s] w fun e w' => e = .returned (.bool (isCl s)) ∧ w = w' := by
  have HQ : Hid (isCl s = (isP s || (isB s || isS s))) := Lib.hid rfl
  rcases h1 : isP s <;> rcases h2 : isB s <;> rcases h3 : isS s
  all_goals
    have e1 := HQ.out
    rw [h1, h2, h3] at e1
    have E1 := Lib.hid e1
    have a1 := Lib.hid h1; have a2 := Lib.hid h2; have a3 := Lib.hid h3
    clear e1 h1 h2 h3
    have g1 : (s.toList == [112]) = _ := a1.out
    have g2 : (s.toList == [98]) = _ := a2.out
    have g3 : (s.toList == [115]) = _ := a3.out
    go_in
    go_wp2
    go_ret
    rw [E1.out]
    exact ⟨rfl, rfl⟩
theorem spec_l8Call {s : ByteArray} {w : World} :
    Calls Try.prog 207 #[.string s] w fun e w' => e = .returned (.bool (isCl s)) ∧ w = w' := by
  have HQ : Hid (isCl s = (isP s || (isB s || isS s))) := Lib.hid rfl
  rcases h1 : isP s <;> rcases h2 : isB s <;> rcases h3 : isS s
  all_goals
    have e1 := HQ.out
    rw [h1, h2, h3] at e1
    have E1 := Lib.hid e1
    have a1 := Lib.hid h1; have a2 := Lib.hid h2; have a3 := Lib.hid h3
    clear e1 h1 h2 h3
    have g1 : (s.toList == [112]) = _ := a1.out
    have g2 : (s.toList == [98]) = _ := a2.out
    have g3 : (s.toList == [115]) = _ := a3.out
    go_in
    go_wp2
    go_ret
    rw [E1.out]
    exact ⟨rfl, rfl⟩
end Go.Proofs.Ytpccbmndgdiloaa
/- The walks through called leads and their heads, both sides. -/
namespace Go.Proofs.Ytpccbmndgdiloaa
set_option linter.unusedVariables false
set_option linter.unusedSimpArgs false
open Go.ChangeShapes Go.WideShapes Go.ChangeAt Go.RowKit Go.Deep
theorem lit_app_drew {w w' : World} {o : Obj} {n c : Nat} (hg : (w.alloc o).drew.grownBy w' (Value.slice (some ⟨w.heap.size, 0, none⟩) n c).ownBlock) : Below w.heap.size w w' :=
  (((Below.refl _ _).alloc (Nat.le_refl _) _).drew).trans (grown_base hg (by simp) (fun k hk => by injection hk with hk; dsimp only at hk; omega))
theorem lit_app_drew2 {w w' : World} {o o' : Obj} {n c : Nat} (hg : ((w.alloc o).alloc o').drew.grownBy w' (Value.slice (some ⟨w.heap.size, 0, none⟩) n c).ownBlock) : Below w.heap.size w w' :=
  ((((Below.refl _ _).alloc (Nat.le_refl _) _).alloc (by simp) _).drew).trans (grown_base hg (by simp; omega) (fun k hk => by injection hk with hk; dsimp only at hk; omega))
theorem lit_app_drew3 {w w' : World} {o o' : Obj} {n c : Nat} (hg : ((w.alloc o).alloc o').drew.grownBy w' (Value.slice (some ⟨w.heap.size + 1, 0, none⟩) n c).ownBlock) : Below w.heap.size w w' :=
  ((((Below.refl _ _).alloc (Nat.le_refl _) _).alloc (by simp) _).drew).trans (grown_base hg (by simp; omega) (fun k hk => by injection hk with hk; dsimp only at hk; omega))
theorem impl_withChanges {A : Option Addr} {n c : Nat} {nm : ByteArray} {st : Int} {w : World} {B : Option Addr} {m d : Nat} :
    Calls Try.prog 233 #[.agg #[.string nm, .int .i64 st, .slice A n c], .slice B m d] w fun e w' => e = .returned (.agg #[.string nm, .int .i64 st, .slice B m d]) ∧ Below w.heap.size w w' := by
  go_in
  go_wp2
  refine bodyPost_ret (v := .agg #[.string nm, .int .i64 st, .slice B m d]) (by simp [results, Try.results233, go_sem]) rfl ?_
  exact ⟨rfl, by (repeat' (first | (with_reducible exact Below.refl _ _) | (with_reducible assumption) | (with_reducible refine below_drewN ?_ _) | (with_reducible refine Below.drew ?_) | (with_reducible refine below_alloc ?_ _) | (with_reducible refine Below.alloc ?_ ?_ _) | (with_reducible refine Below.setCell ?_ ?_ _) | (with_reducible refine below_go ?_ (by with_reducible assumption)) | (with_reducible refine below_then (by with_reducible assumption) ?_ ?_) | go_size))⟩
theorem Owned.ne_blk {α : Type} {e : α → List Value} {s : Nat} {E : TypeId} {w : World} {base : Nat} {A : Option Addr} {n c : Nat} {l : List α} {p : Nat} {t : TypeId} {cs : List Value} (h : Owned e s E w base A n c l) (k : Blk w p t cs) (hE : E ≠ t) : ∀ q, (Value.slice A n c).ownBlock = some q → q ≠ p := by
  intro q hq e2
  rcases h.2.2.2 with ⟨hv, _⟩ | ⟨g, cap, cur, hv, _, hh, _⟩
  · rw [hv] at hq; cases hq
  · rw [hv] at hq
    injection hq with hq
    dsimp only at hq
    subst hq; subst e2
    unfold Blk at k
    rw [hh] at k
    injection k with k
    injection k with _ e3 _
    exact hE e3
theorem lead_fin {w0 w3 : World} {p base : Nat} {A2 : Option Addr} {n c2 : Nat} {l : List ByteArray} {nm : ByteArray} {st : Int} (KZ : Blk w3 p 26 [.string { data := #[] }, .int .i64 0, .slice none 0 0]) (ho : Owned strE 1 9 w3 base A2 n c2 l) (C3 : Below w0.heap.size w0 w3) (hp : w0.heap.size ≤ p) :
    Blk (((w3.setCell ⟨p, 0, none⟩ (.string nm)).setCell ⟨p, 1, none⟩ (.int .i64 st)).setCell ⟨p, 2, none⟩ (.slice A2 n c2)) p 26 [.string nm, .int .i64 st, .slice A2 n c2] ∧
      Owned strE 1 9 (((w3.setCell ⟨p, 0, none⟩ (.string nm)).setCell ⟨p, 1, none⟩ (.int .i64 st)).setCell ⟨p, 2, none⟩ (.slice A2 n c2)) base A2 n c2 l ∧
      Below w0.heap.size w0 (((w3.setCell ⟨p, 0, none⟩ (.string nm)).setCell ⟨p, 1, none⟩ (.int .i64 st)).setCell ⟨p, 2, none⟩ (.slice A2 n c2)) := by
  have hne := ho.ne_blk KZ (by decide)
  have g : w3.grownBy (((w3.setCell ⟨p, 0, none⟩ (.string nm)).setCell ⟨p, 1, none⟩ (.int .i64 st)).setCell ⟨p, 2, none⟩ (.slice A2 n c2)) (some p) :=
    grownBy_trans (grownBy_trans (only_set w3 (p := ⟨p, 0, none⟩) _) (only_set _ (p := ⟨p, 1, none⟩) _)) (only_set _ (p := ⟨p, 2, none⟩) _)
  exact ⟨((KZ.set_ 0 _).set_ 1 _).set_ 2 _, ho.kept g (fun k hk e => hne k hk (by injection e with e; exact e.symm)), ((C3.setCell (p := ⟨p, 0, none⟩) hp _).setCell (p := ⟨p, 1, none⟩) hp _).setCell (p := ⟨p, 2, none⟩) hp _⟩
set_option maxHeartbeats 1000000 in
set_option maxRecDepth 100000 in
theorem impl_calledLead {A : Option Addr} {n c : Nat} {nm : ByteArray} {st : Int} {l : List ByteArray} {kb ks : ByteArray} {s : ByteArray} {w : World} (hn : l.length = n) (h : Strs w A l) (hz : n ≤ 1048576) (hs : ∀ s ∈ l, s.size ≤ 16777216) (hnm : nm.size ≤ 16777216) (hst : I64 st) (h0 : 0 < n) :
    Calls Try.prog 212 #[.agg #[.string nm, .int .i64 st, .slice A n c], .agg #[.string kb, .string ks], .string s] w fun e w' => ∃ A' c', e = .returned (.agg #[.string nm, .int .i64 st, .slice A' n c']) ∧ Owned strE 1 9 w' w.heap.size A' n c' (l.set (n - 1) (chOf l kb ks s)) ∧ Below w.heap.size w w' := by
  obtain ⟨m, rfl⟩ : ∃ m, n = m + 1 := ⟨n - 1, by omega⟩
  have HN := Lib.hid hn
  clear hn
  have b0 : Below w.heap.size w (((w.alloc (.cells ⟨[.string nm, .int .i64 st, .slice A (m + 1) c]⟩ 26)).alloc (.cells ⟨[.string kb, .string ks]⟩ 28)).alloc (.cells ⟨[.string { data := #[] }, .int .i64 0, .slice none 0 0]⟩ 26)) := by (repeat' (first | (with_reducible exact Below.refl _ _) | (with_reducible assumption) | (with_reducible refine below_drewN ?_ _) | (with_reducible refine Below.drew ?_) | (with_reducible refine below_alloc ?_ _) | (with_reducible refine Below.alloc ?_ ?_ _) | (with_reducible refine Below.setCell ?_ ?_ _) | (with_reducible refine below_go ?_ (by with_reducible assumption)) | (with_reducible refine below_then (by with_reducible assumption) ?_ ?_) | go_size))
  have K0 := ((Blk.at_ w 26 [.string nm, .int .i64 st, .slice A (m + 1) c] (b := w.heap.size) rfl).alloc (.cells ⟨[.string kb, .string ks]⟩ 28)).alloc (.cells ⟨[.string { data := #[] }, .int .i64 0, .slice none 0 0]⟩ 26)
  have K1 := (Blk.at_ (w.alloc (.cells ⟨[.string nm, .int .i64 st, .slice A (m + 1) c]⟩ 26)) 28 [.string kb, .string ks] (b := w.heap.size + 1) (by simp)).alloc (.cells ⟨[.string { data := #[] }, .int .i64 0, .slice none 0 0]⟩ 26)
  have K2 := Blk.at_ ((w.alloc (.cells ⟨[.string nm, .int .i64 st, .slice A (m + 1) c]⟩ 26)).alloc (.cells ⟨[.string kb, .string ks]⟩ 28)) 26 [.string { data := #[] }, .int .i64 0, .slice none 0 0] (b := w.heap.size + 1 + 1) (by simp)
  go_in
  go_upto_region 1 with fail
  obtain ⟨w0, hw0⟩ : ∃ u, u = (((w.alloc (.cells #[.string nm, .int .i64 st, .slice A (m + 1) c] 26)).alloc (.cells #[.string kb, .string ks] 28)).alloc (.cells #[.string { data := #[] }, .int .i64 0, .slice none 0 0] 26)) := ⟨_, rfl⟩
  have sz0 : w0.heap.size = w.heap.size + 1 + 1 + 1 := by rw [hw0]; simp
  have sz0' : w0.heap.size ≤ w.heap.size + 3 := by omega
  have sz0'' : w.heap.size + 3 ≤ w0.heap.size := by omega
  rw [← hw0] at b0 K0 K1 K2 ⊢
  clear hw0 sz0
  have carry : Hid (∀ u : World, Below w0.heap.size w0 u → u.cell? ⟨w.heap.size, 0, none⟩ = some (.string nm) ∧ u.cell? ⟨w.heap.size, 1, none⟩ = some (.int .i64 st) ∧ u.cell? ⟨w.heap.size, 2, none⟩ = some (.slice A (m + 1) c)) := Lib.hid (fun u hu => by
    have L0 := K0.up hu
    exact ⟨by simpa using L0.cell 0, by simpa using L0.cell 1, by simpa using L0.cell 2⟩)
  have hr := Lib.hid (h.up b0)
  have HOV : Hid (Owned strE 1 9 ((w0.alloc (.cells #[.string { data := #[] }, .int .i64 0, .slice none 0 0] 26)).alloc (.cells #[] 9)) w0.heap.size (some ⟨w0.heap.size + 1, 0, none⟩) 0 0 ([] : List ByteArray)) := Lib.hid (by have q := Owned.empty (E := 9) strE_len (w0.alloc (.cells #[.string { data := #[] }, .int .i64 0, .slice none 0 0] 26)) (base := w0.heap.size) (by simp); simpa using q)
  go_cut [7] (fun s7 wx => ∃ (p : Nat) (A2 : Option Addr) (c2 : Nat), s7 = .pointer (some ⟨p, 0, none⟩) ∧ w0.heap.size ≤ p ∧ Blk wx p 26 [.string nm, .int .i64 st, .slice A2 (m + 1) c2] ∧ Owned strE 1 9 wx w0.heap.size A2 (m + 1) c2 l ∧ Below w0.heap.size w0 wx)
  case first =>
    go_region_held3 (fun u => u.cell? ⟨w.heap.size, 0, none⟩ = some (.string nm) ∧ u.cell? ⟨w.heap.size, 1, none⟩ = some (.int .i64 st) ∧ u.cell? ⟨w.heap.size, 2, none⟩ = some (.slice A (m + 1) c)) (first | exact carry.out _ C3 | exact carry.out _ (C3.alloc C3.size _) | exact carry.out _ (((C3.setCell (p := ⟨w2.heap.size, 0, none⟩) C2.size _).setCell (p := ⟨w2.heap.size, 1, none⟩) C2.size _).setCell (p := ⟨w2.heap.size, 2, none⟩) C2.size _) | exact carry.out _ (((C3.setCell (p := ⟨w0.heap.size + 1, 0, none⟩) (Nat.le_succ _) _).setCell (p := ⟨w0.heap.size + 1, 1, none⟩) (Nat.le_succ _) _).setCell (p := ⟨w0.heap.size + 1, 2, none⟩) (Nat.le_succ _) _) | exact carry.out _ (((C3.setCell (p := ⟨w0.heap.size, 0, none⟩) (Nat.le_refl _) _).setCell (p := ⟨w0.heap.size, 1, none⟩) (Nat.le_refl _) _).setCell (p := ⟨w0.heap.size, 2, none⟩) (Nat.le_refl _) _) | exact carry.out _ ((((Below.refl _ _).alloc (Nat.le_refl _) _).alloc (by simp) _).drew) | exact carry.out _ C2 | exact carry.out _ (C2.alloc C2.size _) | exact carry.out _ (((Below.refl _ _).alloc (Nat.le_refl _) _).drew) | exact carry.out _ (Below.refl _ _).drew) (first | (go_at_call 233; refine impl_withChanges.mono ?_; rintro e w3 ⟨rfl, hb3⟩; have KZ := KZ2.up hb3; have C3 := C2.trans (hb3.mono C2.size); have z0 := KZ.cell 0; have z1 := KZ.cell 1; have z2 := KZ.cell 2; simp only [List.getElem?_cons_zero, List.getElem?_cons_succ] at z0 z1 z2; have f0 := KZ.frozen 0; have f1 := KZ.frozen 1; have f2 := KZ.frozen 2) | (go_at_call 233; refine impl_withChanges.mono ?_; rintro e w3 ⟨rfl, hb3⟩; have C3 := C2.trans (hb3.mono C2.size)) | (go_at_call 233; refine impl_withChanges.mono ?_; rintro e w3 ⟨rfl, hb3⟩; have C3 := (C2.alloc C2.size _).trans (hb3.mono (by simp; have := C2.size; omega)); have KZ := (Blk.at_ w2 26 [.string { data := #[] }, .int .i64 0, .slice none 0 0] (b := w2.heap.size) rfl).up hb3; have z0 := KZ.cell 0; have z1 := KZ.cell 1; have z2 := KZ.cell 2; simp only [List.getElem?_cons_zero, List.getElem?_cons_succ] at z0 z1 z2; have f0 := KZ.frozen 0; have f1 := KZ.frozen 1; have f2 := KZ.frozen 2) | (refine step_append_recs Try.elStr strE_one rfl (.tmp 10) (.tmp 12) rfl (by rfl) (Owned.empty (E := 9) strE_len w0 (Nat.le_refl _)).drew (by rfl) ((hr.out.alloc _).drew) HN.out ?_ (by decide) ?_ ?_; (focus (first | omega | (simp only [World.size_alloc]; done) | (simp only [World.size_alloc]; omega) | (simp; done) | (simp; omega))); (focus (first | omega | (simp only [World.size_alloc]; done) | (simp only [World.size_alloc]; omega) | (simp; done) | (simp; omega))); intro A2 c2 w2 ho2 hg2 hl2; have ho2' : Owned strE 1 9 w2 w0.heap.size A2 (m + 1) c2 l := (by simpa using ho2); have C2 := lit_app_drew hg2) | (refine step_append_recs Try.elStr strE_one rfl (.tmp 10) (.tmp 12) rfl (by rfl) ((Owned.empty (E := 9) strE_len w0 (Nat.le_refl _)).alloc (.cells #[.string { data := #[] }, .int .i64 0, .slice none 0 0] 26)).drew (by rfl) (((hr.out.alloc _).alloc _).drew) HN.out ?_ (by decide) ?_ ?_; (focus (first | omega | (simp only [World.size_alloc]; done) | (simp only [World.size_alloc]; omega) | (simp; done) | (simp; omega))); (focus (first | omega | (simp only [World.size_alloc]; done) | (simp only [World.size_alloc]; omega) | (simp; done) | (simp; omega))); intro A2 c2 w2 ho2 hg2 hl2; have ho2' : Owned strE 1 9 w2 w0.heap.size A2 (m + 1) c2 l := (by simpa using ho2); have C2 := lit_app_drew2 hg2; have KZ2 := ((Blk.at_ (w0.alloc (.cells #[] 9)) 26 [.string { data := #[] }, .int .i64 0, .slice none 0 0] (b := w0.heap.size + 1) (by simp)).drewN 1).grown hg2 (fun e => by injection e with e; dsimp only at e; omega)) | (refine step_append_recs Try.elStr strE_one rfl (.tmp 10) (.tmp 12) rfl (by rfl) (HOV.out).drew (by rfl) (((hr.out.alloc _).alloc _).drew) HN.out ?_ (by decide) ?_ ?_; (focus (first | omega | (simp only [World.size_alloc]; done) | (simp only [World.size_alloc]; omega) | (simp; done) | (simp; omega))); (focus (first | omega | (simp only [World.size_alloc]; done) | (simp only [World.size_alloc]; omega) | (simp; done) | (simp; omega))); intro A2 c2 w2 ho2 hg2 hl2; have ho2' : Owned strE 1 9 w2 w0.heap.size A2 (m + 1) c2 l := (by simpa using ho2); have C2 := lit_app_drew3 hg2; have KZ2 := (((Blk.at_ w0 26 [.string { data := #[] }, .int .i64 0, .slice none 0 0] (b := w0.heap.size) rfl).alloc (.cells #[] 9)).drewN 1).grown hg2 (fun e => by injection e with e; dsimp only at e; omega)))
    all_goals
      go_wp2_with fail
      go_meet
      refine ⟨_, A2, c2, rfl, ?_⟩
      first
        | with_reducible exact ⟨C2.size, lead_fin KZ ((ho2'.alloc _).up hb3) C3 C2.size⟩
        | with_reducible exact ⟨Nat.le_refl _, lead_fin KZ (ho2'.up hb3) C3 (Nat.le_refl _)⟩
        | with_reducible exact ⟨Nat.le_succ _, lead_fin KZ (ho2'.up hb3) C3 (Nat.le_succ _)⟩
        | with_reducible exact ⟨C3.size, Blk.at_ w3 26 [.string nm, .int .i64 st, .slice A2 (m + 1) c2] rfl, (ho2'.up hb3).alloc _, C3.alloc C3.size _⟩
  case rest =>
    obtain ⟨p, A2, c2, rfl, hp, K4, ho4, B4⟩ := hcut
    rename World => w4
    have L1 := K1.up B4; have L2 := K2.up B4
    have k0 := K4.cell 0; have k1 := K4.cell 1; have k2 := K4.cell 2
    have q0 := L1.cell 0; have q1 := L1.cell 1
    have r0 := L2.cell 0; have r1 := L2.cell 1; have r2 := L2.cell 2
    have t0 := L2.frozen 0; have t1 := L2.frozen 1; have t2 := L2.frozen 2
    simp only [List.getElem?_cons_zero, List.getElem?_cons_succ] at k0 k1 k2 q0 q1 r0 r1 r2
    obtain ⟨g, rfl, g0, g1, gc, gf⟩ := ho4.at_ h0
    obtain ⟨y, hy⟩ := some_of_lt (l := l) (k := m) (by rw [HN.out]; omega)
    have cy := gc m y 0 _ hy rfl
    have fy := gf m
    simp only [Nat.mul_one, Nat.add_zero] at cy
    have HY := Lib.hid hy
    clear gc gf hy
    have FO : Hid (∀ (u : World) (l' : List ByteArray) (a b d : Value), w4.heap.size ≤ u.heap.size → Owned strE 1 9 u w0.heap.size (some ⟨g, 0, none⟩) (m + 1) c2 l' → Below w.heap.size w u → Owned strE 1 9 (((u.setCell ⟨w.heap.size + 1 + 1, 0, none⟩ a).setCell ⟨w.heap.size + 1 + 1, 1, none⟩ b).setCell ⟨w.heap.size + 1 + 1, 2, none⟩ d) w.heap.size (some ⟨g, 0, none⟩) (m + 1) c2 l' ∧ Below w.heap.size w (((u.setCell ⟨w.heap.size + 1 + 1, 0, none⟩ a).setCell ⟨w.heap.size + 1 + 1, 1, none⟩ b).setCell ⟨w.heap.size + 1 + 1, 2, none⟩ d)) := Lib.hid (by
      intro u l' a b d hu ho hb
      have gg : u.grownBy (((u.setCell ⟨w.heap.size + 1 + 1, 0, none⟩ a).setCell ⟨w.heap.size + 1 + 1, 1, none⟩ b).setCell ⟨w.heap.size + 1 + 1, 2, none⟩ d) (some (w.heap.size + 1 + 1)) :=
        grownBy_trans (grownBy_trans (only_set u (p := ⟨w.heap.size + 1 + 1, 0, none⟩) _) (only_set _ (p := ⟨w.heap.size + 1 + 1, 1, none⟩) _)) (only_set _ (p := ⟨w.heap.size + 1 + 1, 2, none⟩) _)
      exact ⟨(ho.past gg (by omega)).base_le (by omega), hb.grown gg hb.size (fun k hk => by injection hk with hk; omega)⟩)
    have hBB := b0.trans (B4.mono b0.size)
    have hpg : ¬ p = g := fun e => ho4.ne_blk K4 (by decide) g rfl e.symm
    have hgp : ¬ g = p := fun e => hpg e.symm
    have PT := Lib.hid (fun (x : ByteArray) => ho4.put (j := 0) (x := x) (u := .string x) HY.out (by decide) rfl)
    rcases hB : isB s
    · rcases hS : isS s
      · have g2 : (s.toList == [98]) = false := hB
        have g3 : (s.toList == [115]) = false := hS
        have e1 := Lib.hid (show l.set m (chOf l kb ks s) = l by
          rw [chOf, hB, hS, if_neg (by simp), if_neg (by simp)]
          have h1 : lastC l = y := by rw [lastC, HN.out, Nat.add_sub_cancel, List.getD, HY.out]; rfl
          apply List.ext_getElem?
          intro q
          by_cases hq : q = m
          · subst hq; rw [List.getElem?_set_self (by rw [HN.out]; omega), h1, HY.out]
          · rw [List.getElem?_set_ne (fun e => hq e.symm)])
        clear hB hS
        go_wp2
        refine bodyPost_ret (v := .agg #[.string nm, .int .i64 st, .slice (some ⟨g, 0, none⟩) (m + 1) c2]) (by simp [results, Try.results212, go_sem, World.cell?_setCell_same, r0, r1, r2]) rfl ?_
        rw [Nat.add_sub_cancel, e1.out]
        exact ⟨_, _, rfl, FO.out _ _ _ _ _ (Nat.le_refl _) ho4 hBB⟩
      · have g2 : (s.toList == [98]) = false := hB
        have g3 : (s.toList == [115]) = true := hS
        have e1 := Lib.hid (show l.set m (chOf l kb ks s) = l.set m ks by rw [chOf, hB, hS, if_neg (by simp), if_pos rfl])
        have pt := PT.out ks
        simp only [Nat.mul_one, Nat.add_zero] at pt
        have PO := Lib.hid pt.1
        have PG := Lib.hid pt.2
        clear hB hS pt
        go_wp2
        refine bodyPost_ret (v := .agg #[.string nm, .int .i64 st, .slice (some ⟨g, 0, none⟩) (m + 1) c2]) (by simp [results, Try.results212, go_sem, World.cell?_setCell_same, r0, r1, r2]) rfl ?_
        rw [Nat.add_sub_cancel, e1.out]
        exact ⟨_, _, rfl, FO.out _ _ _ _ _ PG.out.size PO.out (hBB.grown PG.out hBB.size (fun k hk => by injection hk with hk; omega))⟩
    · have g2 : (s.toList == [98]) = true := hB
      have e1 := Lib.hid (show l.set m (chOf l kb ks s) = l.set m kb by rw [chOf, hB, if_pos rfl])
      have pt := PT.out kb
      simp only [Nat.mul_one, Nat.add_zero] at pt
      have PO := Lib.hid pt.1
      have PG := Lib.hid pt.2
      clear hB pt
      go_wp2
      refine bodyPost_ret (v := .agg #[.string nm, .int .i64 st, .slice (some ⟨g, 0, none⟩) (m + 1) c2]) (by simp [results, Try.results212, go_sem, World.cell?_setCell_same, r0, r1, r2]) rfl ?_
      rw [Nat.add_sub_cancel, e1.out]
      exact ⟨_, _, rfl, FO.out _ _ _ _ _ PG.out.size PO.out (hBB.grown PG.out hBB.size (fun k hk => by injection hk with hk; omega))⟩
end Go.Proofs.Ytpccbmndgdiloaa
/- The walks through the draws of touches and calls. -/
namespace Go.Proofs.Ytpccbmndgdiloaa
set_option linter.unusedVariables false
set_option linter.unusedSimpArgs false
open Go.ChangeShapes Go.WideShapes Go.ChangeAt Go.RowKit Go.Deep
theorem own_cap {α : Type} {e : α → List Value} {s : Nat} {E : TypeId} {w : World} {base n c : Nat} {a : Option Addr} {l : List α} (h : Owned e s E w base a n c l) (_h0 : 0 < n) : n ≤ c := by
  rcases h.2.2.2 with ⟨_, h0⟩ | ⟨g, cap, cur, hv, _, _, hnc, _⟩
  · omega
  · injection hv with _ _ hc
    subst hc
    exact hnc
set_option maxHeartbeats 4000000 in
set_option maxRecDepth 100000 in
theorem draw_NewBand {A : Option Addr} {n c : Nat} {w : World} (hS : Src w A n) :
    Calls Try.prog 75 #[.slice A n c] w fun e w' => ∃ (nm : ByteArray) (st : Nat) (A1 : Option Addr) (n1 c1 : Nat) (L : List ByteArray) (kb ks : ByteArray), e = .returned (.tuple #[.agg #[.string nm, .int .i64 st, .slice A1 n1 c1], .agg #[.string kb, .string ks]]) ∧ goodM nm st L = true ∧ L.length = n1 ∧ n1 ≤ c1 ∧ n1 ≤ 12 ∧ (3 ≤ st ∧ st ≤ 6) ∧ kb.size ≤ 8 ∧ ks.size ≤ 8 ∧ Owned strE 1 9 w' w.heap.size A1 n1 c1 L ∧ Below w.heap.size w w' := by
  have R0 := (Blk.at_ w 26 [.string ⟨#[]⟩, .int .i64 0, .slice none 0 0] (b := w.heap.size) rfl).alloc (.cells #[.string ⟨#[]⟩, .string ⟨#[]⟩] 28)
  have Q0 := Blk.at_ (w.alloc (.cells #[.string ⟨#[]⟩, .int .i64 0, .slice none 0 0] 26)) 28 [.string ⟨#[]⟩, .string ⟨#[]⟩] (b := w.heap.size + 1) (by simp)
  have b0 : Below w.heap.size w ((w.alloc (.cells #[.string ⟨#[]⟩, .int .i64 0, .slice none 0 0] 26)).alloc (.cells #[.string ⟨#[]⟩, .string ⟨#[]⟩] 28)) := by (repeat' (first | (with_reducible exact Below.refl _ _) | (with_reducible assumption) | (with_reducible refine below_drewN ?_ _) | (with_reducible refine Below.drew ?_) | (with_reducible refine below_alloc ?_ _) | (with_reducible refine Below.alloc ?_ ?_ _) | (with_reducible refine Below.setCell ?_ ?_ _) | (with_reducible refine below_go ?_ (by with_reducible assumption)) | (with_reducible refine below_then (by with_reducible assumption) ?_ ?_) | go_size))
  go_in
  go_wp2_with fail
  obtain ⟨v0, hv0⟩ : ∃ u, u = (w.alloc (.cells #[.string ⟨#[]⟩, .int .i64 0, .slice none 0 0] 26)).alloc (.cells #[.string ⟨#[]⟩, .string ⟨#[]⟩] 28) := ⟨_, rfl⟩
  have z1 : v0.heap.size = w.heap.size + 2 := by rw [hv0]; simp
  rw [← hv0] at b0 R0 Q0 ⊢
  clear hv0
  have c0 := cur_fresh v0 A n c
  have b1 : Below v0.heap.size v0 (v0.alloc (.cells #[.slice A n c, .int .i64 0, .int .u64 0] 104)) := by (repeat' (first | (with_reducible exact Below.refl _ _) | (with_reducible assumption) | (with_reducible refine below_drewN ?_ _) | (with_reducible refine Below.drew ?_) | (with_reducible refine below_alloc ?_ _) | (with_reducible refine Below.alloc ?_ ?_ _) | (with_reducible refine Below.setCell ?_ ?_ _) | (with_reducible refine below_go ?_ (by with_reducible assumption)) | (with_reducible refine below_then (by with_reducible assumption) ?_ ?_) | go_size))
  have R1 := R0.up b1; have Q1 := Q0.up b1
  rw [z1] at c0
  obtain ⟨w1, hw1⟩ : ∃ u, u = v0.alloc (.cells #[.slice A n c, .int .i64 0, .int .u64 0] 104) := ⟨_, rfl⟩
  rw [← hw1] at b1 c0 R1 Q1 ⊢
  have z2 : w1.heap.size = w.heap.size + 3 := by rw [hw1]; simp; omega
  have B1 := below_go b0 b1
  clear hw1 R0 Q0 b0 b1
  have hp0 : w.heap.size ≤ w.heap.size + 2 := by omega
  refine (cur_called hS B1 hp0 c0 (by omega)).mono ?_; rintro e w2 ⟨nm, st, A2, m, c2, L, kb, ks, rfl, hgm, h3, h6, zkb, zks, hm, ho2, hc2, hg2⟩
  have G1 : Hid (∀ u : World, w1.grownBy u (some (w.heap.size + 2)) → Below w.heap.size w u) := Lib.hid (fun u hg => grown_below B1 hp0 hg)
  have s2 := hg2.size
  have R2 := R1.grown hg2 (fun e => by injection e with e; omega)
  have Q2 := Q1.grown hg2 (fun e => by injection e with e; omega)
  have K2 := (Blk.at_ w2 26 [.string nm, .int .i64 (st : Int), .slice A2 m c2] (b := w2.heap.size) rfl).alloc (.cells #[.string kb, .string ks] 28)
  have J2 := Blk.at_ (w2.alloc (.cells #[.string nm, .int .i64 (st : Int), .slice A2 m c2] 26)) 28 [.string kb, .string ks] (b := w2.heap.size + 1) (by simp)
  have a2 : Below w2.heap.size w2 ((w2.alloc (.cells #[.string nm, .int .i64 (st : Int), .slice A2 m c2] 26)).alloc (.cells #[.string kb, .string ks] 28)) := by (repeat' (first | (with_reducible exact Below.refl _ _) | (with_reducible assumption) | (with_reducible refine below_drewN ?_ _) | (with_reducible refine Below.drew ?_) | (with_reducible refine below_alloc ?_ _) | (with_reducible refine Below.alloc ?_ ?_ _) | (with_reducible refine Below.setCell ?_ ?_ _) | (with_reducible refine below_go ?_ (by with_reducible assumption)) | (with_reducible refine below_then (by with_reducible assumption) ?_ ?_) | go_size))
  have HO := Lib.hid (ho2.up a2)
  have HC := Lib.hid (hc2.up a2)
  have HG := Lib.hid (grownBy_trans hg2 (grown_any a2 (some (w.heap.size + 2))))
  have R3 := R2.up a2; have Q3 := Q2.up a2
  have HGM := Lib.hid hgm
  have HS := Lib.hid hS
  clear R1 Q1 R2 Q2 c0 ho2 hc2 hg2 hgm hS
  go_wp2_with fail
  obtain ⟨w3, hw3⟩ : ∃ u, u = (w2.alloc (.cells #[.string nm, .int .i64 (st : Int), .slice A2 m c2] 26)).alloc (.cells #[.string kb, .string ks] 28) := ⟨_, rfl⟩
  rw [← hw3] at K2 J2 a2 HO HC HG R3 Q3 ⊢
  have s3 : w3.heap.size = w2.heap.size + 2 := by rw [hw3]; simp
  clear hw3
  have G3 : Hid (∀ u : World, w3.grownBy u (some (w.heap.size + 2)) → Below w.heap.size w u) := Lib.hid (fun u hg => G1.out u (grownBy_trans HG.out hg))
  have carry : Hid (∀ u : World, w3.grownBy u (some (w.heap.size + 2)) → (u.cell? ⟨w2.heap.size, 0, none⟩ = some (.string nm) ∧ u.cell? ⟨w2.heap.size, 1, none⟩ = some (.int .i64 (st : Int)) ∧ u.cell? ⟨w2.heap.size, 2, none⟩ = some (.slice A2 m c2)) ∧ u.cell? ⟨w2.heap.size + 1, 0, none⟩ = some (.string kb) ∧ u.cell? ⟨w2.heap.size + 1, 1, none⟩ = some (.string ks)) := Lib.hid (fun u hu => by
    have J := K2.grown hu (fun e => by injection e with e; omega)
    have J' := J2.grown hu (fun e => by injection e with e; omega)
    exact ⟨⟨by simpa using J.cell 0, by simpa using J.cell 1, by simpa using J.cell 2⟩, by simpa using J'.cell 0, by simpa using J'.cell 1⟩)
  have carB : Hid (∀ u : World, w3.grownBy u (some (w.heap.size + 2)) → (u.cell? ⟨w.heap.size, 0, none⟩ = some (.string ⟨#[]⟩) ∧ u.cell? ⟨w.heap.size, 1, none⟩ = some (.int .i64 0) ∧ u.cell? ⟨w.heap.size, 2, none⟩ = some (.slice none 0 0)) ∧ (u.frozen? ⟨w.heap.size, 0, none⟩ = false ∧ u.frozen? ⟨w.heap.size, 1, none⟩ = false ∧ u.frozen? ⟨w.heap.size, 2, none⟩ = false) ∧ (u.cell? ⟨w.heap.size + 1, 0, none⟩ = some (.string ⟨#[]⟩) ∧ u.cell? ⟨w.heap.size + 1, 1, none⟩ = some (.string ⟨#[]⟩)) ∧ u.frozen? ⟨w.heap.size + 1, 0, none⟩ = false ∧ u.frozen? ⟨w.heap.size + 1, 1, none⟩ = false) := Lib.hid (fun u hu => by
    have J := R3.grown hu (fun e => by injection e with e; omega)
    have J2 := Q3.grown hu (fun e => by injection e with e; omega)
    exact ⟨⟨by simpa using J.cell 0, by simpa using J.cell 1, by simpa using J.cell 2⟩, ⟨J.frozen 0, J.frozen 1, J.frozen 2⟩, ⟨by simpa using J2.cell 0, by simpa using J2.cell 1⟩, J2.frozen 0, J2.frozen 1⟩)
  have BR : Hid (∀ u : World, w3.grownBy u (some (w.heap.size + 2)) → Blk u w.heap.size 26 [.string ⟨#[]⟩, .int .i64 0, .slice none 0 0] ∧ Blk u (w.heap.size + 1) 28 [.string ⟨#[]⟩, .string ⟨#[]⟩]) := Lib.hid (fun u hu => ⟨R3.grown hu (fun e => by injection e with e; omega), Q3.grown hu (fun e => by injection e with e; omega)⟩)
  have sub8 : Hid (∀ x ∈ [(⟨#[]⟩ : ByteArray), ⟨#[120]⟩, ⟨#[50]⟩], x.size ≤ 8) := Lib.hid (by
    intro x hx
    simp only [List.mem_cons, List.not_mem_nil, or_false] at hx
    rcases hx with rfl | rfl | rfl <;> decide)
  refine (cur_one HS.out (G3.out _ (grown_any (Below.refl _ _) _)) hp0 HC.out (by omega) (by decide) (by decide)).mono ?_; rintro e w6 ⟨b, rfl, hc6, hg6⟩
  have C6 := hg6
  rcases b
  · obtain ⟨⟨u0, u1, u2⟩, ⟨v0', v1, v2⟩, ⟨x0, x1⟩, y0, y1⟩ := carB.out _ C6
    obtain ⟨⟨c0, c1, c2'⟩, d0, d1⟩ := carry.out _ C6
    have hX := C6.size
    have ne1 : ¬ w.heap.size = w2.heap.size := by omega
    have ne2 : ¬ w.heap.size = w2.heap.size + 1 := by omega
    have ne3 : ¬ w.heap.size + 1 = w2.heap.size := by omega
    have ne4 : ¬ w.heap.size + 1 = w2.heap.size + 1 := by omega
    have ne1' : ¬ w2.heap.size = w.heap.size := by omega
    have ne2' : ¬ w2.heap.size + 1 = w.heap.size := by omega
    have ne3' : ¬ w2.heap.size = w.heap.size + 1 := by omega
    go_upto_region 5 with fail
    go_region
    obtain ⟨R5, Q5⟩ := BR.out _ C6
    have q1 := sets3_grown w6 w.heap.size (.string nm) (.int .i64 (st : Int)) (.slice A2 m c2)
    have R6 := (((R5.set_ 0 (.string nm)).set_ 1 (.int .i64 (st : Int))).set_ 2 (.slice A2 m c2)).grown (sets2_grown _ (w.heap.size + 1) (.string kb) (.string ks)) (fun e => by injection e with e; omega)
    have Q6 := ((Q5.grown q1 (fun e => by injection e with e; omega)).set_ 0 (.string kb)).set_ 1 (.string ks)
    have k0 := R6.cell 0; have k1 := R6.cell 1; have k2 := R6.cell 2; have l0 := Q6.cell 0; have l1 := Q6.cell 1
    simp only [List.set_cons_zero, List.set_cons_succ, List.getElem?_cons_zero, List.getElem?_cons_succ] at k0 k1 k2 l0 l1
    have q2 := sets2_grown (((w6.setCell ⟨w.heap.size, 0, none⟩ (.string nm)).setCell ⟨w.heap.size, 1, none⟩ (.int .i64 (st : Int))).setCell ⟨w.heap.size, 2, none⟩ (.slice A2 m c2)) (w.heap.size + 1) (.string kb) (.string ks)
    have HOF := Lib.hid ((((HO.out.past C6 (by omega)).past q1 (by omega)).past q2 (by omega)))
    have HBF := Lib.hid (((G3.out _ C6).grown q1 (by omega) (fun k e => by injection e with e; omega)).grown q2 (by have := q1.size; omega) (fun k e => by injection e with e; omega))
    have hLl := HO.out.len
    have hL1 := (goodM_t HGM.out).2.2.1
    clear R5 Q5 R6 Q6 q1 q2 u0 u1 u2 v0' v1 v2 x0 x1 y0 y1 carry carB BR
    go_wp2_with fail
    refine bodyPost_ret (v := .tuple #[.agg #[.string nm, .int .i64 (st : Int), .slice A2 m c2], .agg #[.string kb, .string ks]]) (by simp [results, Try.results75, go_sem, k0, k1, k2, l0, l1]) rfl ?_
    exact ⟨nm, st, A2, m, c2, L, kb, ks,  rfl, HGM.out, hLl, own_cap HOF.out (by omega), hm, ⟨h3, h6⟩, zkb, zks,  (HOF.out.drewN 1).base_le (by omega), below_drewN HBF.out 1⟩
  · have hl := lit_strs2 w6 9 [⟨#[]⟩, ⟨#[120]⟩, ⟨#[50]⟩]
    have hpw := hc6.lt
    go_wp2_with fail
    refine (cur_of HS.out ((G3.out _ C6).alloc (G3.out _ C6).size _) hp0 (hc6.up ((Below.refl _ _).alloc (Nat.le_refl _) _)) (by omega) rfl hl (by decide) (by decide) (fun b o e => by injection e with e; injection e with e; omega)).mono ?_; rintro e w7 ⟨t2, ht2, rfl, hc7, hg7⟩
    have C7 := grownBy_trans C6 (grownBy_trans (World.grownBy_alloc _ _ _) hg7)
    have hts : t2.size ≤ 8 := sub8.out t2 ht2
    clear hl ht2
    obtain ⟨⟨u0, u1, u2⟩, ⟨v0', v1, v2⟩, ⟨x0, x1⟩, y0, y1⟩ := carB.out _ C7
    obtain ⟨⟨c0, c1, c2'⟩, d0, d1⟩ := carry.out _ C7
    have J7 := J2.grown C7 (fun e => by injection e with e; omega)
    have f0 := J7.frozen 0
    have hX := C7.size
    have ne1 : ¬ w.heap.size = w2.heap.size := by omega
    have ne2 : ¬ w.heap.size = w2.heap.size + 1 := by omega
    have ne3 : ¬ w.heap.size + 1 = w2.heap.size := by omega
    have ne4 : ¬ w.heap.size + 1 = w2.heap.size + 1 := by omega
    have ne1' : ¬ w2.heap.size = w.heap.size := by omega
    have ne2' : ¬ w2.heap.size + 1 = w.heap.size := by omega
    have ne3' : ¬ w2.heap.size = w.heap.size + 1 := by omega
    go_upto_region 5 with fail
    go_region
    obtain ⟨R5, Q5⟩ := BR.out _ C7
    have q0 := only_set w7 (p := ⟨w2.heap.size + 1, 0, none⟩) (.string t2)
    have R5 := R5.grown q0 (fun e => by injection e with e; dsimp only at e; omega)
    have Q5 := Q5.grown q0 (fun e => by injection e with e; dsimp only at e; omega)
    have q1 := sets3_grown (w7.setCell ⟨w2.heap.size + 1, 0, none⟩ (.string t2)) w.heap.size (.string nm) (.int .i64 (st : Int)) (.slice A2 m c2)
    have R6 := (((R5.set_ 0 (.string nm)).set_ 1 (.int .i64 (st : Int))).set_ 2 (.slice A2 m c2)).grown (sets2_grown _ (w.heap.size + 1) (.string t2) (.string ks)) (fun e => by injection e with e; omega)
    have Q6 := ((Q5.grown q1 (fun e => by injection e with e; omega)).set_ 0 (.string t2)).set_ 1 (.string ks)
    have k0 := R6.cell 0; have k1 := R6.cell 1; have k2 := R6.cell 2; have l0 := Q6.cell 0; have l1 := Q6.cell 1
    simp only [List.set_cons_zero, List.set_cons_succ, List.getElem?_cons_zero, List.getElem?_cons_succ] at k0 k1 k2 l0 l1
    have q2 := sets2_grown ((((w7.setCell ⟨w2.heap.size + 1, 0, none⟩ (.string t2)).setCell ⟨w.heap.size, 0, none⟩ (.string nm)).setCell ⟨w.heap.size, 1, none⟩ (.int .i64 (st : Int))).setCell ⟨w.heap.size, 2, none⟩ (.slice A2 m c2)) (w.heap.size + 1) (.string t2) (.string ks)
    have z8 : (w7.setCell ⟨w2.heap.size + 1, 0, none⟩ (.string t2)).heap.size = w7.heap.size := by simp
    have O7 := HO.out.past C7 (by omega)
    have O8 := O7.kept q0 (fun k hk e => by have hne := O7.ne_blk J7 (by decide) k hk; injection e with e; dsimp only at e; omega)
    have HOF := Lib.hid (((O8.past q1 (by omega)).past q2 (by omega)))
    have HBF := Lib.hid ((((G3.out _ C7).grown q0 (by omega) (fun k e => by injection e with e; dsimp only at e; omega)).grown q1 (by omega) (fun k e => by injection e with e; omega)).grown q2 (by have := q1.size; omega) (fun k e => by injection e with e; omega))
    have hLl := HO.out.len
    have hL1 := (goodM_t HGM.out).2.2.1
    clear R5 Q5 R6 Q6 q1 q2 u0 u1 u2 v0' v1 v2 x0 x1 y0 y1 carry carB BR
    go_wp2_with fail
    refine bodyPost_ret (v := .tuple #[.agg #[.string nm, .int .i64 (st : Int), .slice A2 m c2], .agg #[.string t2, .string ks]]) (by simp [results, Try.results75, go_sem, k0, k1, k2, l0, l1]) rfl ?_
    exact ⟨nm, st, A2, m, c2, L, t2, ks,  rfl, HGM.out, hLl, own_cap HOF.out (by omega), hm, ⟨h3, h6⟩, hts, zks,  (HOF.out.drewN 1).base_le (by omega), below_drewN HBF.out 1⟩
end Go.Proofs.Ytpccbmndgdiloaa
/- The walk through the draw of touches. -/
namespace Go.Proofs.Ytpccbmndgdiloaa
set_option linter.unusedVariables false
set_option linter.unusedSimpArgs false
open Go.ChangeShapes Go.WideShapes Go.ChangeAt Go.RowKit Go.Deep
theorem own_capT {α : Type} {e : α → List Value} {s : Nat} {E : TypeId} {w : World} {base n c : Nat} {a : Option Addr} {l : List α} (h : Owned e s E w base a n c l) (_h0 : 0 < n) : n ≤ c := by
  rcases h.2.2.2 with ⟨_, h0⟩ | ⟨g, cap, cur, hv, _, _, hnc, _⟩
  · omega
  · injection hv with _ _ hc
    subst hc
    exact hnc
set_option maxHeartbeats 4000000 in
set_option maxRecDepth 100000 in
theorem draw_RingTouch {A : Option Addr} {n c : Nat} {w : World} (hS : Src w A n) :
    Calls Try.prog 67 #[.slice A n c] w fun e w' => ∃ (nm : ByteArray) (st : Nat) (A1 : Option Addr) (n1 c1 : Nat) (L : List ByteArray) (kb ks t : ByteArray), e = .returned (.tuple #[.agg #[.string nm, .int .i64 st, .slice A1 n1 c1], .agg #[.string kb, .string ks], .string t]) ∧ goodM nm st L = true ∧ L.length = n1 ∧ n1 ≤ c1 ∧ n1 ≤ 12 ∧ (3 ≤ st ∧ st ≤ 6) ∧ kb.size ≤ 8 ∧ ks.size ≤ 8 ∧ t.size ≤ 8 ∧ Owned strE 1 9 w' w.heap.size A1 n1 c1 L ∧ Below w.heap.size w w' := by
  have R0 := (Blk.at_ w 26 [.string ⟨#[]⟩, .int .i64 0, .slice none 0 0] (b := w.heap.size) rfl).alloc (.cells #[.string ⟨#[]⟩, .string ⟨#[]⟩] 28)
  have Q0 := Blk.at_ (w.alloc (.cells #[.string ⟨#[]⟩, .int .i64 0, .slice none 0 0] 26)) 28 [.string ⟨#[]⟩, .string ⟨#[]⟩] (b := w.heap.size + 1) (by simp)
  have b0 : Below w.heap.size w ((w.alloc (.cells #[.string ⟨#[]⟩, .int .i64 0, .slice none 0 0] 26)).alloc (.cells #[.string ⟨#[]⟩, .string ⟨#[]⟩] 28)) := by (repeat' (first | (with_reducible exact Below.refl _ _) | (with_reducible assumption) | (with_reducible refine below_drewN ?_ _) | (with_reducible refine Below.drew ?_) | (with_reducible refine below_alloc ?_ _) | (with_reducible refine Below.alloc ?_ ?_ _) | (with_reducible refine Below.setCell ?_ ?_ _) | (with_reducible refine below_go ?_ (by with_reducible assumption)) | (with_reducible refine below_then (by with_reducible assumption) ?_ ?_) | go_size))
  go_in
  go_wp2_with fail
  obtain ⟨v0, hv0⟩ : ∃ u, u = (w.alloc (.cells #[.string ⟨#[]⟩, .int .i64 0, .slice none 0 0] 26)).alloc (.cells #[.string ⟨#[]⟩, .string ⟨#[]⟩] 28) := ⟨_, rfl⟩
  have z1 : v0.heap.size = w.heap.size + 2 := by rw [hv0]; simp
  rw [← hv0] at b0 R0 Q0 ⊢
  clear hv0
  have c0 := cur_fresh v0 A n c
  have b1 : Below v0.heap.size v0 (v0.alloc (.cells #[.slice A n c, .int .i64 0, .int .u64 0] 104)) := by (repeat' (first | (with_reducible exact Below.refl _ _) | (with_reducible assumption) | (with_reducible refine below_drewN ?_ _) | (with_reducible refine Below.drew ?_) | (with_reducible refine below_alloc ?_ _) | (with_reducible refine Below.alloc ?_ ?_ _) | (with_reducible refine Below.setCell ?_ ?_ _) | (with_reducible refine below_go ?_ (by with_reducible assumption)) | (with_reducible refine below_then (by with_reducible assumption) ?_ ?_) | go_size))
  have R1 := R0.up b1; have Q1 := Q0.up b1
  rw [z1] at c0
  obtain ⟨w1, hw1⟩ : ∃ u, u = v0.alloc (.cells #[.slice A n c, .int .i64 0, .int .u64 0] 104) := ⟨_, rfl⟩
  rw [← hw1] at b1 c0 R1 Q1 ⊢
  have z2 : w1.heap.size = w.heap.size + 3 := by rw [hw1]; simp; omega
  have B1 := below_go b0 b1
  clear hw1 R0 Q0 b0 b1
  have hp0 : w.heap.size ≤ w.heap.size + 2 := by omega
  refine (cur_called hS B1 hp0 c0 (by omega)).mono ?_; rintro e w2 ⟨nm, st, A2, m, c2, L, kb, ks, rfl, hgm, h3, h6, zkb, zks, hm, ho2, hc2, hg2⟩
  have G1 : Hid (∀ u : World, w1.grownBy u (some (w.heap.size + 2)) → Below w.heap.size w u) := Lib.hid (fun u hg => grown_below B1 hp0 hg)
  have s2 := hg2.size
  have R2 := R1.grown hg2 (fun e => by injection e with e; omega)
  have Q2 := Q1.grown hg2 (fun e => by injection e with e; omega)
  have K2 := (Blk.at_ w2 26 [.string nm, .int .i64 (st : Int), .slice A2 m c2] (b := w2.heap.size) rfl).alloc (.cells #[.string kb, .string ks] 28)
  have J2 := Blk.at_ (w2.alloc (.cells #[.string nm, .int .i64 (st : Int), .slice A2 m c2] 26)) 28 [.string kb, .string ks] (b := w2.heap.size + 1) (by simp)
  have a2 : Below w2.heap.size w2 ((w2.alloc (.cells #[.string nm, .int .i64 (st : Int), .slice A2 m c2] 26)).alloc (.cells #[.string kb, .string ks] 28)) := by (repeat' (first | (with_reducible exact Below.refl _ _) | (with_reducible assumption) | (with_reducible refine below_drewN ?_ _) | (with_reducible refine Below.drew ?_) | (with_reducible refine below_alloc ?_ _) | (with_reducible refine Below.alloc ?_ ?_ _) | (with_reducible refine Below.setCell ?_ ?_ _) | (with_reducible refine below_go ?_ (by with_reducible assumption)) | (with_reducible refine below_then (by with_reducible assumption) ?_ ?_) | go_size))
  have HO := Lib.hid (ho2.up a2)
  have HC := Lib.hid (hc2.up a2)
  have HG := Lib.hid (grownBy_trans hg2 (grown_any a2 (some (w.heap.size + 2))))
  have R3 := R2.up a2; have Q3 := Q2.up a2
  have HGM := Lib.hid hgm
  have HS := Lib.hid hS
  clear R1 Q1 R2 Q2 c0 ho2 hc2 hg2 hgm hS
  go_wp2_with fail
  obtain ⟨w3, hw3⟩ : ∃ u, u = (w2.alloc (.cells #[.string nm, .int .i64 (st : Int), .slice A2 m c2] 26)).alloc (.cells #[.string kb, .string ks] 28) := ⟨_, rfl⟩
  rw [← hw3] at K2 J2 a2 HO HC HG R3 Q3 ⊢
  have s3 : w3.heap.size = w2.heap.size + 2 := by rw [hw3]; simp
  clear hw3
  have G3 : Hid (∀ u : World, w3.grownBy u (some (w.heap.size + 2)) → Below w.heap.size w u) := Lib.hid (fun u hg => G1.out u (grownBy_trans HG.out hg))
  have carry : Hid (∀ u : World, w3.grownBy u (some (w.heap.size + 2)) → (u.cell? ⟨w2.heap.size, 0, none⟩ = some (.string nm) ∧ u.cell? ⟨w2.heap.size, 1, none⟩ = some (.int .i64 (st : Int)) ∧ u.cell? ⟨w2.heap.size, 2, none⟩ = some (.slice A2 m c2)) ∧ u.cell? ⟨w2.heap.size + 1, 0, none⟩ = some (.string kb) ∧ u.cell? ⟨w2.heap.size + 1, 1, none⟩ = some (.string ks)) := Lib.hid (fun u hu => by
    have J := K2.grown hu (fun e => by injection e with e; omega)
    have J' := J2.grown hu (fun e => by injection e with e; omega)
    exact ⟨⟨by simpa using J.cell 0, by simpa using J.cell 1, by simpa using J.cell 2⟩, by simpa using J'.cell 0, by simpa using J'.cell 1⟩)
  have carB : Hid (∀ u : World, w3.grownBy u (some (w.heap.size + 2)) → (u.cell? ⟨w.heap.size, 0, none⟩ = some (.string ⟨#[]⟩) ∧ u.cell? ⟨w.heap.size, 1, none⟩ = some (.int .i64 0) ∧ u.cell? ⟨w.heap.size, 2, none⟩ = some (.slice none 0 0)) ∧ (u.frozen? ⟨w.heap.size, 0, none⟩ = false ∧ u.frozen? ⟨w.heap.size, 1, none⟩ = false ∧ u.frozen? ⟨w.heap.size, 2, none⟩ = false) ∧ (u.cell? ⟨w.heap.size + 1, 0, none⟩ = some (.string ⟨#[]⟩) ∧ u.cell? ⟨w.heap.size + 1, 1, none⟩ = some (.string ⟨#[]⟩)) ∧ u.frozen? ⟨w.heap.size + 1, 0, none⟩ = false ∧ u.frozen? ⟨w.heap.size + 1, 1, none⟩ = false) := Lib.hid (fun u hu => by
    have J := R3.grown hu (fun e => by injection e with e; omega)
    have J2 := Q3.grown hu (fun e => by injection e with e; omega)
    exact ⟨⟨by simpa using J.cell 0, by simpa using J.cell 1, by simpa using J.cell 2⟩, ⟨J.frozen 0, J.frozen 1, J.frozen 2⟩, ⟨by simpa using J2.cell 0, by simpa using J2.cell 1⟩, J2.frozen 0, J2.frozen 1⟩)
  have BR : Hid (∀ u : World, w3.grownBy u (some (w.heap.size + 2)) → Blk u w.heap.size 26 [.string ⟨#[]⟩, .int .i64 0, .slice none 0 0] ∧ Blk u (w.heap.size + 1) 28 [.string ⟨#[]⟩, .string ⟨#[]⟩]) := Lib.hid (fun u hu => ⟨R3.grown hu (fun e => by injection e with e; omega), Q3.grown hu (fun e => by injection e with e; omega)⟩)
  refine (cur_pick HS.out (G3.out _ (grown_any (Below.refl _ _) _)) hp0 HC.out (by omega) (by decide) (by decide)).mono ?_; rintro e w4 ⟨x, rfl, ⟨x0, x1⟩, hc4, hg4⟩
  obtain ⟨X, rfl⟩ := Int.eq_ofNat_of_zero_le x0
  have hX6 : X ≤ 5 := by omega
  have HC4 := Lib.hid hc4
  have HG4 := Lib.hid hg4
  clear x0 x1 hc4 hg4
  go_wp2
  go_loopw [8, 9] (fun v i wr => ∃ (k : Nat) (t : ByteArray), k + t.size ≤ 6 ∧ i = .int .i64 k ∧ v = .string t ∧ Hid (w3.grownBy wr (some (w.heap.size + 2))) ∧ Hid (Cur wr (w.heap.size + 2) A n c (1000 - k))) (fun _ i _ => (intOf i).toNat)
  case atStart => exact ⟨X + 1, ⟨#[]⟩, by (show X + 1 + 0 ≤ 6; omega), by go_num, rfl, HG4, Lib.hid (HC4.out.mono (by omega))⟩
  case round =>
    obtain ⟨k, t, hkt, rfl, rfl, HGr, HCr⟩ := hrel
    rename World => wr
    by_cases h0 : 0 < k
    · have hI : (0 : Int) < (k : Int) := by omega
      have hl := lit_strs2 wr 9 [⟨#[112]⟩, ⟨#[112]⟩, ⟨#[98]⟩, ⟨#[115]⟩]
      have hpw := HCr.out.lt
      go_wp2_with fail
      refine (cur_of HS.out ((G3.out _ HGr.out).alloc (G3.out _ HGr.out).size _) hp0 (HCr.out.up ((Below.refl _ _).alloc (Nat.le_refl _) _)) (by omega) rfl hl (by decide) (by decide) (fun b o e => by injection e with e; injection e with e; omega)).mono ?_; rintro e w5 ⟨x, hx, rfl, hc5, hg5⟩
      have hx1 : x.size = 1 := by
        simp only [List.mem_cons, List.not_mem_nil, or_false] at hx
        rcases hx with rfl | rfl | rfl | rfl <;> rfl
      have hts : (t ++ x).size = t.size + 1 := by rw [ByteArray.size_append, hx1]
      have HG5 := Lib.hid (grownBy_trans HGr.out (grownBy_trans (World.grownBy_alloc _ _ _) hg5))
      have HC5 := Lib.hid hc5
      clear hx hl hc5 hg5
      go_wp2
      go_roundw
      case rel => exact ⟨k - 1, t ++ x, by omega, by go_num, rfl, HG5, Lib.hid (HC5.out.mono (by omega))⟩
      case measure => simp [intOf]; omega
    · obtain rfl : k = 0 := by omega
      go_wp2_with fail
      refine (cur_one HS.out (G3.out _ HGr.out) hp0 HCr.out (by omega) (by decide) (by decide)).mono ?_; rintro e w6 ⟨b, rfl, hc6, hg6⟩
      have C6 := grownBy_trans HGr.out hg6
      rcases b
      · obtain ⟨⟨u0, u1, u2⟩, ⟨v0', v1, v2⟩, ⟨x0, x1⟩, y0, y1⟩ := carB.out _ C6
        have hX := C6.size
        have ne1 : ¬ w.heap.size = w2.heap.size := by omega
        have ne2 : ¬ w.heap.size = w2.heap.size + 1 := by omega
        have ne3 : ¬ w.heap.size + 1 = w2.heap.size := by omega
        have ne4 : ¬ w.heap.size + 1 = w2.heap.size + 1 := by omega
        have ne1' : ¬ w2.heap.size = w.heap.size := by omega
        have ne2' : ¬ w2.heap.size + 1 = w.heap.size := by omega
        have ne3' : ¬ w2.heap.size = w.heap.size + 1 := by omega
        obtain ⟨⟨c0, c1, c2'⟩, d0, d1⟩ := carry.out _ C6
        go_upto_region 10 with fail
        go_region
        obtain ⟨R5, Q5⟩ := BR.out _ C6
        have q1 := sets3_grown w6 w.heap.size (.string nm) (.int .i64 (st : Int)) (.slice A2 m c2)
        have R6 := (((R5.set_ 0 (.string nm)).set_ 1 (.int .i64 (st : Int))).set_ 2 (.slice A2 m c2)).grown (sets2_grown _ (w.heap.size + 1) (.string kb) (.string ks)) (fun e => by injection e with e; omega)
        have Q6 := ((Q5.grown q1 (fun e => by injection e with e; omega)).set_ 0 (.string kb)).set_ 1 (.string ks)
        have k0 := R6.cell 0; have k1 := R6.cell 1; have k2 := R6.cell 2; have l0 := Q6.cell 0; have l1 := Q6.cell 1
        simp only [List.set_cons_zero, List.set_cons_succ, List.getElem?_cons_zero, List.getElem?_cons_succ] at k0 k1 k2 l0 l1
        have q2 := sets2_grown (((w6.setCell ⟨w.heap.size, 0, none⟩ (.string nm)).setCell ⟨w.heap.size, 1, none⟩ (.int .i64 (st : Int))).setCell ⟨w.heap.size, 2, none⟩ (.slice A2 m c2)) (w.heap.size + 1) (.string kb) (.string ks)
        have HOF := Lib.hid ((((HO.out.past C6 (by omega)).past q1 (by omega)).past q2 (by omega)))
        have HBF := Lib.hid (((G3.out _ C6).grown q1 (by omega) (fun k e => by injection e with e; omega)).grown q2 (by have := q1.size; omega) (fun k e => by injection e with e; omega))
        have hLl := HO.out.len
        have hL1 := (goodM_t HGM.out).2.2.1
        clear R5 Q5 R6 Q6 q1 q2 u0 u1 u2 v0' v1 v2 x0 x1 y0 y1 carry carB BR
        go_wp2_with fail
        refine bodyPost_ret (v := .tuple #[.agg #[.string nm, .int .i64 (st : Int), .slice A2 m c2], .agg #[.string kb, .string ks], .string t]) (by simp [results, Try.results67, go_sem, k0, k1, k2, l0, l1]) rfl ?_
        exact ⟨nm, st, A2, m, c2, L, kb, ks, t, rfl, HGM.out, hLl, own_capT HOF.out (by omega), hm, ⟨h3, h6⟩, zkb, zks, (by omega), (HOF.out.drewN 1).base_le (by omega), below_drewN HBF.out 1⟩
      · have hl := lit_strs2 w6 9 [⟨#[]⟩, ⟨#[120]⟩, ⟨#[112, 98, 120]⟩]
        have hpw := hc6.lt
        go_wp2_with fail
        refine (cur_of HS.out ((G3.out _ C6).alloc (G3.out _ C6).size _) hp0 (hc6.up ((Below.refl _ _).alloc (Nat.le_refl _) _)) (by omega) rfl hl (by decide) (by decide) (fun b o e => by injection e with e; injection e with e; omega)).mono ?_; rintro e w7 ⟨t2, ht2, rfl, hc7, hg7⟩
        have C7 := grownBy_trans C6 (grownBy_trans (World.grownBy_alloc _ _ _) hg7)
        have hts : t2.size ≤ 8 := by
          simp only [List.mem_cons, List.not_mem_nil, or_false] at ht2
          rcases ht2 with rfl | rfl | rfl <;> decide
        clear hl ht2
        obtain ⟨⟨u0, u1, u2⟩, ⟨v0', v1, v2⟩, ⟨x0, x1⟩, y0, y1⟩ := carB.out _ C7
        have hX := C7.size
        have ne1 : ¬ w.heap.size = w2.heap.size := by omega
        have ne2 : ¬ w.heap.size = w2.heap.size + 1 := by omega
        have ne3 : ¬ w.heap.size + 1 = w2.heap.size := by omega
        have ne4 : ¬ w.heap.size + 1 = w2.heap.size + 1 := by omega
        have ne1' : ¬ w2.heap.size = w.heap.size := by omega
        have ne2' : ¬ w2.heap.size + 1 = w.heap.size := by omega
        have ne3' : ¬ w2.heap.size = w.heap.size + 1 := by omega
        obtain ⟨⟨c0, c1, c2'⟩, d0, d1⟩ := carry.out _ C7
        go_upto_region 10 with fail
        go_region
        obtain ⟨R5, Q5⟩ := BR.out _ C7
        have q1 := sets3_grown w7 w.heap.size (.string nm) (.int .i64 (st : Int)) (.slice A2 m c2)
        have R6 := (((R5.set_ 0 (.string nm)).set_ 1 (.int .i64 (st : Int))).set_ 2 (.slice A2 m c2)).grown (sets2_grown _ (w.heap.size + 1) (.string kb) (.string ks)) (fun e => by injection e with e; omega)
        have Q6 := ((Q5.grown q1 (fun e => by injection e with e; omega)).set_ 0 (.string kb)).set_ 1 (.string ks)
        have k0 := R6.cell 0; have k1 := R6.cell 1; have k2 := R6.cell 2; have l0 := Q6.cell 0; have l1 := Q6.cell 1
        simp only [List.set_cons_zero, List.set_cons_succ, List.getElem?_cons_zero, List.getElem?_cons_succ] at k0 k1 k2 l0 l1
        have q2 := sets2_grown (((w7.setCell ⟨w.heap.size, 0, none⟩ (.string nm)).setCell ⟨w.heap.size, 1, none⟩ (.int .i64 (st : Int))).setCell ⟨w.heap.size, 2, none⟩ (.slice A2 m c2)) (w.heap.size + 1) (.string kb) (.string ks)
        have HOF := Lib.hid ((((HO.out.past C7 (by omega)).past q1 (by omega)).past q2 (by omega)))
        have HBF := Lib.hid (((G3.out _ C7).grown q1 (by omega) (fun k e => by injection e with e; omega)).grown q2 (by have := q1.size; omega) (fun k e => by injection e with e; omega))
        have hLl := HO.out.len
        have hL1 := (goodM_t HGM.out).2.2.1
        clear R5 Q5 R6 Q6 q1 q2 u0 u1 u2 v0' v1 v2 x0 x1 y0 y1 carry carB BR
        go_wp2_with fail
        refine bodyPost_ret (v := .tuple #[.agg #[.string nm, .int .i64 (st : Int), .slice A2 m c2], .agg #[.string kb, .string ks], .string t2]) (by simp [results, Try.results67, go_sem, k0, k1, k2, l0, l1]) rfl ?_
        exact ⟨nm, st, A2, m, c2, L, kb, ks, t2, rfl, HGM.out, hLl, own_capT HOF.out (by omega), hm, ⟨h3, h6⟩, zkb, zks, hts, (HOF.out.drewN 1).base_le (by omega), below_drewN HBF.out 1⟩
end Go.Proofs.Ytpccbmndgdiloaa
/- The draws of FnTouchSigns that hand another draw on. -/
namespace Go.Proofs.Ytpccbmndgdiloaa
set_option linter.unusedVariables false
set_option linter.unusedSimpArgs false
open Go.ChangeShapes Go.WideShapes Go.ChangeAt Go.RowKit Go.Deep
set_option maxHeartbeats 1000000 in
set_option maxRecDepth 100000 in
theorem draw_TouchSign {A : Option Addr} {n c : Nat} {w : World} (hS : Src w A n) :
    Calls Try.prog 9 #[.slice A n c] w fun e w' => ∃ (nm : ByteArray) (st : Nat) (A1 : Option Addr) (n1 c1 : Nat) (L : List ByteArray) (kb ks t : ByteArray), e = .returned (.tuple #[.agg #[.string nm, .int .i64 st, .slice A1 n1 c1], .agg #[.string kb, .string ks], .string t]) ∧ goodM nm st L = true ∧ L.length = n1 ∧ n1 ≤ c1 ∧ n1 ≤ 12 ∧ (3 ≤ st ∧ st ≤ 6) ∧ kb.size ≤ 8 ∧ ks.size ≤ 8 ∧ t.size ≤ 8 ∧ Owned strE 1 9 w' w.heap.size A1 n1 c1 L ∧ Below w.heap.size w w' := by
  have R0 := (Blk.at_ w 26 [.string ⟨#[]⟩, .int .i64 0, .slice none 0 0] (b := w.heap.size) rfl).alloc (.cells #[.string ⟨#[]⟩, .string ⟨#[]⟩] 28)
  have Q0 := Blk.at_ (w.alloc (.cells #[.string ⟨#[]⟩, .int .i64 0, .slice none 0 0] 26)) 28 [.string ⟨#[]⟩, .string ⟨#[]⟩] (b := w.heap.size + 1) (by simp)
  have b0 : Below w.heap.size w ((w.alloc (.cells #[.string ⟨#[]⟩, .int .i64 0, .slice none 0 0] 26)).alloc (.cells #[.string ⟨#[]⟩, .string ⟨#[]⟩] 28)) := by (repeat' (first | (with_reducible exact Below.refl _ _) | (with_reducible assumption) | (with_reducible refine below_drewN ?_ _) | (with_reducible refine Below.drew ?_) | (with_reducible refine below_alloc ?_ _) | (with_reducible refine Below.alloc ?_ ?_ _) | (with_reducible refine Below.setCell ?_ ?_ _) | (with_reducible refine below_go ?_ (by with_reducible assumption)) | (with_reducible refine below_then (by with_reducible assumption) ?_ ?_) | go_size))
  go_in
  go_wp2_with fail
  obtain ⟨v0, hv0⟩ : ∃ u, u = (w.alloc (.cells #[.string ⟨#[]⟩, .int .i64 0, .slice none 0 0] 26)).alloc (.cells #[.string ⟨#[]⟩, .string ⟨#[]⟩] 28) := ⟨_, rfl⟩
  have z1 : v0.heap.size = w.heap.size + 2 := by rw [hv0]; simp
  rw [← hv0] at b0 R0 Q0 ⊢
  clear hv0
  refine (draw_RingTouch (hS.over b0)).mono ?_; rintro e w1 ⟨nm, st, A1, n1, c1, L, kb, ks, t, rfl, g1, g2, g3, g4, g5, y1, y2, y3, R1, hb1⟩
  have R5 := R0.up hb1
  have Q5 := Q0.up hb1
  have B1 := below_go b0 hb1
  have s1 := hb1.size
  have u0 := R5.cell 0; have u1 := R5.cell 1; have u2 := R5.cell 2; have f0 := R5.frozen 0; have f1 := R5.frozen 1; have f2 := R5.frozen 2
  have x0 := Q5.cell 0; have x1 := Q5.cell 1; have h0 := Q5.frozen 0; have h1 := Q5.frozen 1
  simp only [List.getElem?_cons_zero, List.getElem?_cons_succ] at u0 u1 u2 x0 x1
  have q1 := sets3_grown w1 w.heap.size (.string nm) (.int .i64 (st : Int)) (.slice A1 n1 c1)
  have R6 := (((R5.set_ 0 (.string nm)).set_ 1 (.int .i64 (st : Int))).set_ 2 (.slice A1 n1 c1)).grown (sets2_grown _ (w.heap.size + 1) (.string kb) (.string ks)) (fun e => by injection e with e; omega)
  have Q6 := ((Q5.grown q1 (fun e => by injection e with e; omega)).set_ 0 (.string kb)).set_ 1 (.string ks)
  have k0 := R6.cell 0; have k1 := R6.cell 1; have k2 := R6.cell 2; have l0 := Q6.cell 0; have l1 := Q6.cell 1
  simp only [List.set_cons_zero, List.set_cons_succ, List.getElem?_cons_zero, List.getElem?_cons_succ] at k0 k1 k2 l0 l1
  have q2 := sets2_grown (((w1.setCell ⟨w.heap.size, 0, none⟩ (.string nm)).setCell ⟨w.heap.size, 1, none⟩ (.int .i64 (st : Int))).setCell ⟨w.heap.size, 2, none⟩ (.slice A1 n1 c1)) (w.heap.size + 1) (.string kb) (.string ks)
  have HBF := Lib.hid ((B1.grown q1 (by omega) (fun k e => by injection e with e; omega)).grown q2 (by have := q1.size; omega) (fun k e => by injection e with e; omega))
  have HOF := Lib.hid ((R1.past q1 (by omega)).past q2 (by omega))
  clear R5 Q5 R6 Q6 q1 q2
  go_wp2_with fail
  refine bodyPost_ret (v := .tuple #[.agg #[.string nm, .int .i64 (st : Int), .slice A1 n1 c1], .agg #[.string kb, .string ks], .string t]) (by simp [results, Try.results9, go_sem, k0, k1, k2, l0, l1]) rfl ?_
  exact ⟨nm, st, A1, n1, c1, L, kb, ks, t, rfl, g1, g2, g3, g4, g5, y1, y2, y3, HOF.out.base_le (by omega), HBF.out⟩
set_option maxHeartbeats 1000000 in
set_option maxRecDepth 100000 in
theorem draw_LeadSigns {A : Option Addr} {n c : Nat} {w : World} (hS : Src w A n) :
    Calls Try.prog 14 #[.slice A n c] w fun e w' => ∃ (nm : ByteArray) (st : Nat) (A1 : Option Addr) (n1 c1 : Nat) (L : List ByteArray) (kb ks : ByteArray), e = .returned (.tuple #[.agg #[.string nm, .int .i64 st, .slice A1 n1 c1], .agg #[.string kb, .string ks]]) ∧ goodM nm st L = true ∧ L.length = n1 ∧ n1 ≤ c1 ∧ n1 ≤ 12 ∧ (3 ≤ st ∧ st ≤ 6) ∧ kb.size ≤ 8 ∧ ks.size ≤ 8 ∧ Owned strE 1 9 w' w.heap.size A1 n1 c1 L ∧ Below w.heap.size w w' := by
  have R0 := (Blk.at_ w 26 [.string ⟨#[]⟩, .int .i64 0, .slice none 0 0] (b := w.heap.size) rfl).alloc (.cells #[.string ⟨#[]⟩, .string ⟨#[]⟩] 28)
  have Q0 := Blk.at_ (w.alloc (.cells #[.string ⟨#[]⟩, .int .i64 0, .slice none 0 0] 26)) 28 [.string ⟨#[]⟩, .string ⟨#[]⟩] (b := w.heap.size + 1) (by simp)
  have b0 : Below w.heap.size w ((w.alloc (.cells #[.string ⟨#[]⟩, .int .i64 0, .slice none 0 0] 26)).alloc (.cells #[.string ⟨#[]⟩, .string ⟨#[]⟩] 28)) := by (repeat' (first | (with_reducible exact Below.refl _ _) | (with_reducible assumption) | (with_reducible refine below_drewN ?_ _) | (with_reducible refine Below.drew ?_) | (with_reducible refine below_alloc ?_ _) | (with_reducible refine Below.alloc ?_ ?_ _) | (with_reducible refine Below.setCell ?_ ?_ _) | (with_reducible refine below_go ?_ (by with_reducible assumption)) | (with_reducible refine below_then (by with_reducible assumption) ?_ ?_) | go_size))
  go_in
  go_wp2_with fail
  obtain ⟨v0, hv0⟩ : ∃ u, u = (w.alloc (.cells #[.string ⟨#[]⟩, .int .i64 0, .slice none 0 0] 26)).alloc (.cells #[.string ⟨#[]⟩, .string ⟨#[]⟩] 28) := ⟨_, rfl⟩
  have z1 : v0.heap.size = w.heap.size + 2 := by rw [hv0]; simp
  rw [← hv0] at b0 R0 Q0 ⊢
  clear hv0
  refine (draw_NewBand (hS.over b0)).mono ?_; rintro e w1 ⟨nm, st, A1, n1, c1, L, kb, ks, rfl, g1, g2, g3, g4, g5, y1, y2, R1, hb1⟩
  have R5 := R0.up hb1
  have Q5 := Q0.up hb1
  have B1 := below_go b0 hb1
  have s1 := hb1.size
  have u0 := R5.cell 0; have u1 := R5.cell 1; have u2 := R5.cell 2; have f0 := R5.frozen 0; have f1 := R5.frozen 1; have f2 := R5.frozen 2
  have x0 := Q5.cell 0; have x1 := Q5.cell 1; have h0 := Q5.frozen 0; have h1 := Q5.frozen 1
  simp only [List.getElem?_cons_zero, List.getElem?_cons_succ] at u0 u1 u2 x0 x1
  have q1 := sets3_grown w1 w.heap.size (.string nm) (.int .i64 (st : Int)) (.slice A1 n1 c1)
  have R6 := (((R5.set_ 0 (.string nm)).set_ 1 (.int .i64 (st : Int))).set_ 2 (.slice A1 n1 c1)).grown (sets2_grown _ (w.heap.size + 1) (.string kb) (.string ks)) (fun e => by injection e with e; omega)
  have Q6 := ((Q5.grown q1 (fun e => by injection e with e; omega)).set_ 0 (.string kb)).set_ 1 (.string ks)
  have k0 := R6.cell 0; have k1 := R6.cell 1; have k2 := R6.cell 2; have l0 := Q6.cell 0; have l1 := Q6.cell 1
  simp only [List.set_cons_zero, List.set_cons_succ, List.getElem?_cons_zero, List.getElem?_cons_succ] at k0 k1 k2 l0 l1
  have q2 := sets2_grown (((w1.setCell ⟨w.heap.size, 0, none⟩ (.string nm)).setCell ⟨w.heap.size, 1, none⟩ (.int .i64 (st : Int))).setCell ⟨w.heap.size, 2, none⟩ (.slice A1 n1 c1)) (w.heap.size + 1) (.string kb) (.string ks)
  have HBF := Lib.hid ((B1.grown q1 (by omega) (fun k e => by injection e with e; omega)).grown q2 (by have := q1.size; omega) (fun k e => by injection e with e; omega))
  have HOF := Lib.hid ((R1.past q1 (by omega)).past q2 (by omega))
  clear R5 Q5 R6 Q6 q1 q2
  go_wp2_with fail
  refine bodyPost_ret (v := .tuple #[.agg #[.string nm, .int .i64 (st : Int), .slice A1 n1 c1], .agg #[.string kb, .string ks]]) (by simp [results, Try.results14, go_sem, k0, k1, k2, l0, l1]) rfl ?_
  exact ⟨nm, st, A1, n1, c1, L, kb, ks, rfl, g1, g2, g3, g4, g5, y1, y2, HOF.out.base_le (by omega), HBF.out⟩
end Go.Proofs.Ytpccbmndgdiloaa
/- The walks through lead heads of calls, both sides. -/
namespace Go.Proofs.Ytpccbmndgdiloaa
set_option linter.unusedVariables false
set_option linter.unusedSimpArgs false
open Go.ChangeShapes Go.WideShapes Go.ChangeAt Go.RowKit Go.Deep
theorem turnC {P : Program} {f : FuncId} {args : Array Value} {w : World} {v : Value} (h : Calls P f args w fun e w' => e = .returned v ∧ w = w') : Calls P f args w fun e w' => e = .returned v ∧ w' = w :=
  h.mono fun _ _ ⟨he, hw⟩ => ⟨he, hw.symm⟩
set_option maxRecDepth 100000 in
set_option maxHeartbeats 1000000 in
theorem impl_leadHead {A : Option Addr} {n c st : Nat} {nm : ByteArray} {l : List ByteArray} {w : World} (hn : l.length = n) (h : Strs w A l) (hz : n ≤ 1048576) (hs : ∀ s ∈ l, s.size ≤ 16777216) (h8 : st ≤ 8) (hg : ∀ s ∈ l, isDash s = true ∨ validD s = true) :
    Calls Try.prog 211 #[.agg #[.string nm, .int .i64 st, .slice A n c]] w fun e w' => e = .returned (.string (rAt (roundsS st) l n)) ∧ Below w.heap.size w w' := by
  have b0 : Below w.heap.size w (w.alloc (.cells ⟨[.string nm, .int .i64 st, .slice A n c]⟩ 26)) := by (repeat' (first | (with_reducible exact Below.refl _ _) | (with_reducible assumption) | (with_reducible refine below_drewN ?_ _) | (with_reducible refine Below.drew ?_) | (with_reducible refine below_alloc ?_ _) | (with_reducible refine Below.alloc ?_ ?_ _) | (with_reducible refine Below.setCell ?_ ?_ _) | (with_reducible refine below_go ?_ (by with_reducible assumption)) | (with_reducible refine below_then (by with_reducible assumption) ?_ ?_) | go_size))
  have hr8 : (roundsS st).size ≤ 8 := by rw [rounds_size st (by omega)]; exact h8
  have HG := Lib.hid hg
  have HS := Lib.hid hs
  clear hg hs
  have K0 := Blk.at_ w 26 [.string nm, .int .i64 st, .slice A n c] (b := w.heap.size) rfl
  go_in
  go_wp2
  obtain ⟨w0, hw0⟩ : ∃ u, u = (w.alloc (.cells #[.string nm, .int .i64 st, .slice A n c] 26)) := ⟨_, rfl⟩
  rw [← hw0] at b0 K0 ⊢
  clear hw0
  have k1 := K0.cell 1; have k2 := K0.cell 2
  simp only [List.getElem?_cons_zero, List.getElem?_cons_succ] at k1 k2
  refine wp_region_still_tail 5 (by kernel_rfl) (by kernel_rfl) ?_
  simp only [List.take_succ_cons, List.take_zero, List.drop_succ_cons, List.drop_zero]
  repeat still_step
  still_call (turnC (impl_rounds h8))
  repeat still_step
  refine wpStill_nil ?_
  change wpList _ _ _ _ _ w0.drew
  go_wp2_with fail
  refine (impl_rowsUnder hr8 hn (h.up b0).drew (by omega) HS.out HG.out).mono ?_; rintro e w1 ⟨A1, c1, rfl, ho, hbd⟩
  have hb1 := below_of_drew hbd
  obtain ⟨g, rfl, _, _, gc, _⟩ := ho.at_ (by omega)
  have hrow : (rowsL (roundsS st) l (n + 1))[n]? = some (rAt (roundsS st) l n) := by rw [rowsL, List.getElem?_map, List.getElem?_range (by omega)]; rfl
  have cg := gc n _ 0 _ hrow rfl
  simp only [Nat.mul_one, Nat.add_zero] at cg
  clear gc hrow
  go_wp2
  go_ret
  exact ⟨rfl, below_go b0 hb1⟩
theorem goodK_all {nm : ByteArray} {st : Nat} {l : List ByteArray} {kb ks : ByteArray} (h : goodK nm (st : Int) l kb ks = true) :
    (3 ≤ st ∧ st ≤ 8) ∧ (1 ≤ l.length ∧ l.length ≤ 40) ∧ (∀ c ∈ l, goodChange st c = true) ∧ goodChange st kb = true ∧ goodChange st ks = true := by
  obtain ⟨h1, h2, h3⟩ := goodK_t h
  obtain ⟨_, h5, h6, h7⟩ := goodM_t h1
  exact ⟨by omega, h6, allCh_mem h7, h2, h3⟩
theorem chOf_good {nm : ByteArray} {st : Nat} {l : List ByteArray} {kb ks : ByteArray} (h : goodK nm (st : Int) l kb ks = true) (s : ByteArray) : goodChange st (chOf l kb ks s) = true := by
  obtain ⟨_, h2, h3, h4, h5⟩ := goodK_all h
  rw [chOf]
  split
  · exact h4
  · split
    · exact h5
    · exact h3 _ (List.mem_of_getElem? (lastC_at (by omega)))
theorem set_good {nm : ByteArray} {st : Nat} {l : List ByteArray} {kb ks : ByteArray} (h : goodK nm (st : Int) l kb ks = true) (s : ByteArray) (k : Nat) : ∀ c ∈ l.set k (chOf l kb ks s), goodChange st c = true := by
  intro c hc
  rcases List.mem_or_eq_of_mem_set hc with hc | rfl
  · exact (goodK_all h).2.2.1 c hc
  · exact chOf_good h s
set_option maxHeartbeats 1000000 in
theorem impl_callHead {A : Option Addr} {n c st : Nat} {nm : ByteArray} {l : List ByteArray} {kb ks : ByteArray} {s : ByteArray} {w : World} (hn : l.length = n) (h : Strs w A l) (hk : goodK nm (st : Int) l kb ks = true) :
    Calls Try.prog 161 #[.agg #[.string nm, .int .i64 st, .slice A n c], .agg #[.string kb, .string ks], .string s] w fun e w' => e = .returned (.string (callHd st l kb ks s)) ∧ Below w.heap.size w w' := by
  obtain ⟨h8, h40, hgl, hgb, hgs⟩ := goodK_all hk
  have b0 : Below w.heap.size w ((w.alloc (.cells ⟨[.string nm, .int .i64 st, .slice A n c]⟩ 26)).alloc (.cells ⟨[.string kb, .string ks]⟩ 28)) := by (repeat' (first | (with_reducible exact Below.refl _ _) | (with_reducible assumption) | (with_reducible refine below_drewN ?_ _) | (with_reducible refine Below.drew ?_) | (with_reducible refine below_alloc ?_ _) | (with_reducible refine Below.alloc ?_ ?_ _) | (with_reducible refine Below.setCell ?_ ?_ _) | (with_reducible refine below_go ?_ (by with_reducible assumption)) | (with_reducible refine below_then (by with_reducible assumption) ?_ ?_) | go_size))
  have e1 := Lib.hid (show rAt (roundsS st) (l.set (n - 1) (chOf l kb ks s)) n = callHd st l kb ks s by
    subst hn
    exact headX_set (by omega))
  have SG := Lib.hid (set_good hk s (n - 1))
  have HS := Lib.hid (fun (s' : ByteArray) (hs' : s' ∈ l) => show s'.size ≤ 16777216 from by have := goodChange_small (hgl s' hs'); omega)
  have sk1 := goodChange_small hgb
  have sk2 := goodChange_small hgs
  have hn40 : n ≤ 40 := by omega
  have hn1 : 0 < n := by omega
  have hI : I64 (st : Int) := by unfold I64; omega
  have hnm : nm.size ≤ 16777216 := by
    have h1 := (goodM_t (goodK_t hk).1).1
    rw [nameOk, Bool.and_eq_true] at h1
    have := inB_t h1.2
    omega
  clear hgl hgb hgs h40
  go_in
  go_wp2_with fail
  refine (impl_calledLead hn (h.up b0) (by omega) HS.out hnm hI hn1).mono ?_; rintro e w1 ⟨A1, c1, rfl, ho, hb1⟩
  go_wp2_with fail
  refine (impl_leadHead ho.len ho.recs (by omega) (fun x hx => by have := goodChange_small (SG.out x hx); omega) h8.2 (fun x hx => good_valid (SG.out x hx))).mono ?_; rw [e1.out]; rintro e w2 ⟨rfl, hb2⟩
  go_wp2
  go_ret
  exact ⟨rfl, below_go (below_go b0 hb1) hb2⟩
theorem own_lit3 (w : World) (E : TypeId) (x y z : ByteArray) {base : Nat} (hb : base ≤ w.heap.size) : Owned strE 1 E (w.alloc (.cells #[.string x, .string y, .string z] E)) base (some ⟨w.heap.size, 0, none⟩) 3 3 [x, y, z] :=
  ⟨strE_len, rfl, by simpa [strE] using World.ownsRow_lit (e := E) (base := base) (size := 1) w #[.string x, .string y, .string z] 3 hb (by unfold maxLen; omega) (by simp)⟩
/-- The three heads. -/
def hds3 (st : Nat) (l : List ByteArray) (kb ks : ByteArray) : List ByteArray := [callHd st l kb ks ⟨#[112]⟩, callHd st l kb ks ⟨#[98]⟩, callHd st l kb ks ⟨#[115]⟩]
theorem callHd_good {nm : ByteArray} {st : Nat} {l : List ByteArray} {kb ks : ByteArray} (h : goodK nm (st : Int) l kb ks = true) (s : ByteArray) : goodRow (callHd st l kb ks s) = true ∧ (callHd st l kb ks s).size = st := by
  obtain ⟨h8, _⟩ := goodK_all h
  exact ⟨headX_good h8.1 h8.2 _ _, headX_size (by omega) _ _⟩
theorem hds3_good {nm : ByteArray} {st : Nat} {l : List ByteArray} {kb ks : ByteArray} (h : goodK nm (st : Int) l kb ks = true) : goodRows (hds3 st l kb ks) = true := by
  have a := callHd_good h ⟨#[112]⟩; have b := callHd_good h ⟨#[98]⟩; have c := callHd_good h ⟨#[115]⟩
  rw [goodRows, Bool.and_eq_true, List.all_eq_true]
  refine ⟨fun k hk => ?_, by simp [hds3]⟩
  have hk := List.mem_range.1 hk
  have h0 : (hds3 st l kb ks)[0]? = some (callHd st l kb ks ⟨#[112]⟩) := rfl
  match k, hk with
  | 0, _ => rw [okRow_at h0 h0, a.1]; simp
  | 1, _ => rw [okRow_at h0 (show (hds3 st l kb ks)[1]? = some (callHd st l kb ks ⟨#[98]⟩) from rfl), b.1, a.2, b.2]; simp
  | 2, _ => rw [okRow_at h0 (show (hds3 st l kb ks)[2]? = some (callHd st l kb ks ⟨#[115]⟩) from rfl), c.1, a.2, c.2]; simp
  | k + 3, hk => simp [hds3] at hk; omega
/-- The signs of the lead heads. -/
def lsOk (nm : ByteArray) (st : Int) (l : List ByteArray) (kb ks : ByteArray) : Bool := goodK nm st l kb ks
def lsR (nm : ByteArray) (st : Int) (l : List ByteArray) (kb ks : ByteArray) : List Bool := if goodK nm st l kb ks = true then (hds3 st.toNat l kb ks).map evenRow else []
theorem lsR_f {nm : ByteArray} {st : Int} {l : List ByteArray} {kb ks : ByteArray} (h : goodK nm st l kb ks = false) : lsR nm st l kb ks = [] := by rw [lsR, if_neg (by rw [h]; simp)]
theorem lsR_t {nm : ByteArray} {st : Nat} {l : List ByteArray} {kb ks : ByteArray} (h : goodK nm (st : Int) l kb ks = true) : lsR nm st l kb ks = (hds3 st l kb ks).map evenRow := by rw [lsR, if_pos h]; rfl
theorem lsR_len (nm : ByteArray) (st : Int) (l : List ByteArray) (kb ks : ByteArray) : (lsR nm st l kb ks).length ≤ 3 := by
  rw [lsR]; split <;> simp [hds3]
set_option maxHeartbeats 2000000 in
set_option maxRecDepth 100000 in
theorem impl_callHeads {A : Option Addr} {n c st : Nat} {nm : ByteArray} {l : List ByteArray} {kb ks : ByteArray} {w : World} (hn : l.length = n) (h : Strs w A l) (hk : goodK nm (st : Int) l kb ks = true) :
    Calls Try.prog 78 #[.agg #[.string nm, .int .i64 st, .slice A n c], .agg #[.string kb, .string ks]] w fun e w' => ∃ A' c', e = .returned (.slice A' 3 c') ∧ Owned strE 1 9 w' w.heap.size A' 3 c' (hds3 st l kb ks) ∧ Below w.heap.size w w' := by
  have b0 : Below w.heap.size w ((w.alloc (.cells ⟨[.string nm, .int .i64 st, .slice A n c]⟩ 26)).alloc (.cells ⟨[.string kb, .string ks]⟩ 28)) := by (repeat' (first | (with_reducible exact Below.refl _ _) | (with_reducible assumption) | (with_reducible refine below_drewN ?_ _) | (with_reducible refine Below.drew ?_) | (with_reducible refine below_alloc ?_ _) | (with_reducible refine Below.alloc ?_ ?_ _) | (with_reducible refine Below.setCell ?_ ?_ _) | (with_reducible refine below_go ?_ (by with_reducible assumption)) | (with_reducible refine below_then (by with_reducible assumption) ?_ ?_) | go_size))
  have K0 := (Blk.at_ w 26 [.string nm, .int .i64 st, .slice A n c] (b := w.heap.size) rfl).alloc (.cells ⟨[.string kb, .string ks]⟩ 28)
  have K1 := Blk.at_ (w.alloc (.cells ⟨[.string nm, .int .i64 st, .slice A n c]⟩ 26)) 28 [.string kb, .string ks] (b := w.heap.size + 1) (by simp)
  go_in
  go_wp2
  obtain ⟨w0, hw0⟩ : ∃ u, u = ((w.alloc (.cells #[.string nm, .int .i64 st, .slice A n c] 26)).alloc (.cells #[.string kb, .string ks] 28)) := ⟨_, rfl⟩
  rw [← hw0] at b0 K0 K1 ⊢
  clear hw0
  have H0 := Lib.hid (h.up b0)
  have carry : Hid (∀ u : World, Below w0.heap.size w0 u → (u.cell? ⟨w.heap.size, 0, none⟩ = some (.string nm) ∧ u.cell? ⟨w.heap.size, 1, none⟩ = some (.int .i64 st) ∧ u.cell? ⟨w.heap.size, 2, none⟩ = some (.slice A n c)) ∧ u.cell? ⟨w.heap.size + 1, 0, none⟩ = some (.string kb) ∧ u.cell? ⟨w.heap.size + 1, 1, none⟩ = some (.string ks)) := Lib.hid (fun u hu => by
    have L0 := K0.up hu; have L1 := K1.up hu
    exact ⟨⟨by simpa using L0.cell 0, by simpa using L0.cell 1, by simpa using L0.cell 2⟩, by simpa using L1.cell 0, by simpa using L1.cell 1⟩)
  clear h K0 K1
  have cf := Lib.hid (fun (u : World) (s : ByteArray) (hb : Below w0.heap.size w0 u) => impl_callHead (c := c) (s := s) hn (H0.out.up hb) hk)
  go_region_held3 (fun u => (u.cell? ⟨w.heap.size, 0, none⟩ = some (.string nm) ∧ u.cell? ⟨w.heap.size, 1, none⟩ = some (.int .i64 st) ∧ u.cell? ⟨w.heap.size, 2, none⟩ = some (.slice A n c)) ∧ u.cell? ⟨w.heap.size + 1, 0, none⟩ = some (.string kb) ∧ u.cell? ⟨w.heap.size + 1, 1, none⟩ = some (.string ks)) (first | exact carry.out _ C3 | exact carry.out _ (C3.alloc C3.size _) | exact carry.out _ C2 | exact carry.out _ C1 | exact carry.out _ (Below.refl _ _).drew) (first | (go_at_call 161; ((with_reducible refine (cf.out _ ⟨#[115]⟩ C2).mono ?_); rintro e w3 ⟨rfl, hb3⟩; have C3 := C2.trans (hb3.mono C2.size))) | (go_at_call 161; ((with_reducible refine (cf.out _ ⟨#[98]⟩ C1).mono ?_); rintro e w2 ⟨rfl, hb2⟩; have C2 := C1.trans (hb2.mono C1.size))) | (go_at_call 161; ((with_reducible refine (cf.out _ ⟨#[112]⟩ (Below.refl _ _).drew).mono ?_); rintro e w1 ⟨rfl, hbd1⟩; have hb1 := below_of_drew hbd1; have C1 := hb1)))
  go_wp2
  go_ret
  have C4 := C3.alloc C3.size (.cells #[.string (callHd st l kb ks ⟨#[112]⟩), .string (callHd st l kb ks ⟨#[98]⟩), .string (callHd st l kb ks ⟨#[115]⟩)] 9)
  have hB := b0.trans (C4.mono b0.size)
  exact ⟨_, _, rfl, own_lit3 w3 9 _ _ _ (by have := b0.size; have := C3.size; omega), hB⟩
set_option maxHeartbeats 1000000 in
theorem impl_LeadSigns {A : Option Addr} {n c : Nat} {nm : ByteArray} {st : Int} {l : List ByteArray} {kb ks : ByteArray} {w : World} (hn : l.length = n) (h : Strs w A l) (hz : n ≤ 1048576) (hs : ∀ s ∈ l, s.size ≤ 16777216) (hnm : nm.size ≤ 16777216) (hst : I64 st) (hkb : kb.size ≤ 16777216) (hks : ks.size ≤ 16777216) :
    Calls Try.prog 15 #[.agg #[.string nm, .int .i64 st, .slice A n c], .agg #[.string kb, .string ks]] w fun e w' => ∃ A' c', e = .returned (.tuple #[.slice A' (lsR nm st l kb ks).length c', .bool (goodK nm st l kb ks)]) ∧
      Owned boolE 1 4 w' w.heap.size A' (lsR nm st l kb ks).length c' (lsR nm st l kb ks) ∧ (lsR nm st l kb ks).length ≤ 16777216 ∧ Below w.heap.size w w' := by
  have b0 : Below w.heap.size w ((w.alloc (.cells ⟨[.string nm, .int .i64 st, .slice A n c]⟩ 26)).alloc (.cells ⟨[.string kb, .string ks]⟩ 28)) := by (repeat' (first | (with_reducible exact Below.refl _ _) | (with_reducible assumption) | (with_reducible refine below_drewN ?_ _) | (with_reducible refine Below.drew ?_) | (with_reducible refine below_alloc ?_ _) | (with_reducible refine Below.alloc ?_ ?_ _) | (with_reducible refine Below.setCell ?_ ?_ _) | (with_reducible refine below_go ?_ (by with_reducible assumption)) | (with_reducible refine below_then (by with_reducible assumption) ?_ ?_) | go_size))
  have K0 := (Blk.at_ w 26 [.string nm, .int .i64 st, .slice A n c] (b := w.heap.size) rfl).alloc (.cells ⟨[.string kb, .string ks]⟩ 28)
  have K1 := Blk.at_ (w.alloc (.cells ⟨[.string nm, .int .i64 st, .slice A n c]⟩ 26)) 28 [.string kb, .string ks] (b := w.heap.size + 1) (by simp)
  go_in
  go_wp2_with fail
  obtain ⟨w0, hw0⟩ : ∃ u, u = ((w.alloc (.cells #[.string nm, .int .i64 st, .slice A n c] 26)).alloc (.cells #[.string kb, .string ks] 28)) := ⟨_, rfl⟩
  rw [← hw0] at b0 K0 K1 ⊢
  clear hw0
  refine (impl_GoodCalls hn (h.up b0) hz hs hnm hst hkb hks).mono ?_; rintro e w1 ⟨rfl, hb1⟩
  have hB1 := below_go b0 hb1
  rcases hk : goodK nm st l kb ks
  · have e1 := Lib.hid (lsR_f hk)
    have e2 := Lib.hid hk
    go_wp2
    go_ret2
    rw [e1.out, e2.out]
    exact ⟨none, 0, rfl, Owned.nil boolE_len _ _ _, by decide, hB1⟩
  · obtain ⟨m, rfl⟩ : ∃ m : Nat, st = (m : Int) := ⟨st.toNat, by
      have := (goodM_t (goodK_t hk).1).2.1
      omega⟩
    have L0 := K0.up hb1; have L1 := K1.up hb1
    have k0 := L0.cell 0; have k1 := L0.cell 1; have k2 := L0.cell 2; have q0 := L1.cell 0; have q1 := L1.cell 1
    simp only [List.getElem?_cons_zero, List.getElem?_cons_succ] at k0 k1 k2 q0 q1
    have hgr := hds3_good hk
    have e1 := Lib.hid (lsR_t hk)
    have hlen : (hds3 m l kb ks).length = 3 := rfl
    have HK := Lib.hid hk
    have hsz : ∀ s ∈ hds3 m l kb ks, s.size ≤ 16777216 := fun s hs' => by
      have := goodRow_n (goodRows_mem hgr s hs'); omega
    have hsz2 := Lib.hid hsz
    clear hsz hgr
    go_wp2_with fail
    refine (impl_callHeads hn (h.up hB1) hk).mono ?_; rintro e w2 ⟨A2, c2, rfl, ho2, hb2⟩
    have hB2 := below_go hB1 hb2
    go_wp2_with fail
    refine (impl_signs hlen ho2.recs (by omega) hsz2.out).mono ?_; rintro e w3 ⟨A3, c3, rfl, ho3, hb3⟩
    go_wp2
    go_ret2
    rw [e1.out, HK.out]
    have e2 : ((hds3 m l kb ks).map evenRow).length = 3 := rfl
    exact ⟨_, _, rfl, ho3.base_le hB2.size, by rw [e2]; decide, below_go hB2 hb3⟩
end Go.Proofs.Ytpccbmndgdiloaa
/- The walks through lead heads of calls and their signs, the reference's side. -/
namespace Go.Proofs.Ytpccbmndgdiloaa
set_option linter.unusedVariables false
set_option linter.unusedSimpArgs false
open Go.ChangeShapes Go.WideShapes Go.ChangeAt Go.RowKit Go.Deep
set_option maxHeartbeats 1000000 in
theorem spec_l8Change {A : Option Addr} {n c : Nat} {st : Int} {nm : ByteArray} {l : List ByteArray} {kb ks s : ByteArray} {w : World} (hn : l.length = n) (h : Strs w A l) (h0 : 0 < n) (hz : n ≤ 1048576) :
    Calls Try.prog 232 #[.agg #[.string nm, .int .i64 st, .slice A n c], .agg #[.string kb, .string ks], .string s] w fun e w' => e = .returned (.string (chOf l kb ks s)) ∧ Below w.heap.size w w' := by
  obtain ⟨m, rfl⟩ : ∃ m, n = m + 1 := ⟨n - 1, by omega⟩
  have HN := Lib.hid hn
  clear hn
  have b0 : Below w.heap.size w ((w.alloc (.cells ⟨[.string nm, .int .i64 st, .slice A (m + 1) c]⟩ 26)).alloc (.cells ⟨[.string kb, .string ks]⟩ 28)) := by (repeat' (first | (with_reducible exact Below.refl _ _) | (with_reducible assumption) | (with_reducible refine below_drewN ?_ _) | (with_reducible refine Below.drew ?_) | (with_reducible refine below_alloc ?_ _) | (with_reducible refine Below.alloc ?_ ?_ _) | (with_reducible refine Below.setCell ?_ ?_ _) | (with_reducible refine below_go ?_ (by with_reducible assumption)) | (with_reducible refine below_then (by with_reducible assumption) ?_ ?_) | go_size))
  obtain ⟨b, o, y, rfl, hbb, hy, hc⟩ := h.at_str (k := m) (by rw [HN.out]; omega)
  have hc1 := (b0.cell (p := ⟨b, o + m, none⟩) hbb).trans hc
  have hne : ¬ b = w.heap.size := by omega
  have hne2 : ¬ b = w.heap.size + 1 := by omega
  have EY := Lib.hid (show lastC l = y by rw [lastC, HN.out, Nat.add_sub_cancel, List.getD, hy]; rfl)
  clear hy
  rcases hB : isB s
  · rcases hS : isS s
    · have g2 : (s.toList == [98]) = false := hB
      have g3 : (s.toList == [115]) = false := hS
      have e1 := Lib.hid (show chOf l kb ks s = y by rw [chOf, hB, hS, if_neg (by simp), if_neg (by simp), EY.out])
      clear hB hS hc1
      go_in
      go_wp2
      go_ret
      rw [e1.out]
      exact ⟨rfl, b0⟩
    · have g2 : (s.toList == [98]) = false := hB
      have g3 : (s.toList == [115]) = true := hS
      have e1 := Lib.hid (show chOf l kb ks s = ks by rw [chOf, hB, hS, if_neg (by simp), if_pos rfl])
      clear hB hS hc1
      go_in
      go_wp2
      go_ret
      rw [e1.out]
      exact ⟨rfl, b0⟩
  · have g2 : (s.toList == [98]) = true := hB
    have e1 := Lib.hid (show chOf l kb ks s = kb by rw [chOf, hB, if_pos rfl])
    clear hB hc1
    go_in
    go_wp2
    go_ret
    rw [e1.out]
    exact ⟨rfl, b0⟩
set_option maxRecDepth 100000 in
set_option maxHeartbeats 1000000 in
theorem spec_l8Head {A : Option Addr} {n c st : Nat} {nm : ByteArray} {l : List ByteArray} {kb ks : ByteArray} {s : ByteArray} {w : World} (hn : l.length = n) (h : Strs w A l) (hk : goodK nm (st : Int) l kb ks = true) (hcap : n ≤ c) :
    Calls Try.prog 206 #[.agg #[.string nm, .int .i64 st, .slice A n c], .agg #[.string kb, .string ks], .string s] w fun e w' => e = .returned (.string (callHd st l kb ks s)) ∧ Below w.heap.size w w' := by
  obtain ⟨h8, h40, hgl, hgb, hgs⟩ := goodK_all hk
  obtain ⟨m, rfl⟩ : ∃ m, n = m + 1 := ⟨n - 1, by omega⟩
  have HN := Lib.hid hn
  have b0 : Below w.heap.size w ((w.alloc (.cells ⟨[.string nm, .int .i64 st, .slice A (m + 1) c]⟩ 26)).alloc (.cells ⟨[.string kb, .string ks]⟩ 28)) := by (repeat' (first | (with_reducible exact Below.refl _ _) | (with_reducible assumption) | (with_reducible refine below_drewN ?_ _) | (with_reducible refine Below.drew ?_) | (with_reducible refine below_alloc ?_ _) | (with_reducible refine Below.alloc ?_ ?_ _) | (with_reducible refine Below.setCell ?_ ?_ _) | (with_reducible refine below_go ?_ (by with_reducible assumption)) | (with_reducible refine below_then (by with_reducible assumption) ?_ ?_) | go_size))
  have K0 := (Blk.at_ w 26 [.string nm, .int .i64 st, .slice A (m + 1) c] (b := w.heap.size) rfl).alloc (.cells ⟨[.string kb, .string ks]⟩ 28)
  have K1 := Blk.at_ (w.alloc (.cells ⟨[.string nm, .int .i64 st, .slice A (m + 1) c]⟩ 26)) 28 [.string kb, .string ks] (b := w.heap.size + 1) (by simp)
  have HS := Lib.hid (fun (s' : ByteArray) (hs' : s' ∈ l.take m) => show s'.size ≤ 16777216 from by have := goodChange_small (hgl s' (List.mem_of_mem_take hs')); omega)
  have e1 := Lib.hid (show applyR (rAt (roundsS st) (l.take m) m) (chOf l kb ks s) = callHd st l kb ks s by
    have := headX_take (st := st) (l := l) (x := chOf l kb ks s)
    rw [HN.out, Nat.add_sub_cancel] at this
    exact this)
  have hm40 : m ≤ 40 := by have := HN.out; omega
  have hr8 : (roundsS st).size ≤ 8 := by rw [rounds_size st (by omega)]; exact h8.2
  have hx8 : (rAt (roundsS st) (l.take m) m).size ≤ 8 := by rw [rAt_size]; exact hr8
  have hch := goodChange_small (chOf_good hk s)
  have HT := Lib.hid (show (l.take m).length = m by rw [List.length_take, HN.out]; omega)
  obtain ⟨b, o, y, rfl, hbb, _, _⟩ := h.at_str (k := m) (by rw [HN.out]; omega)
  have hst8 := h8.2
  clear hgl hgb hgs h40 hn h8
  go_in
  go_upto_region 2 with fail
  obtain ⟨w0, hw0⟩ : ∃ u, u = ((w.alloc (.cells #[.string nm, .int .i64 st, .slice (some ⟨b, o, none⟩) (m + 1) c] 26)).alloc (.cells #[.string kb, .string ks] 28)) := ⟨_, rfl⟩
  rw [← hw0] at b0 K0 K1 ⊢
  clear hw0
  have H0 := h.up b0
  have R0 : Hid (Strs w0 (some ⟨b, o, none⟩) (l.take m)) := Lib.hid (by
    have := H0.part 0 m (Nat.zero_le _) (by rw [HN.out]; omega)
    simpa using this)
  have k0 := K0.cell 0; have k1 := K0.cell 1; have k2 := K0.cell 2; have q0 := K1.cell 0; have q1 := K1.cell 1
  simp only [List.getElem?_cons_zero, List.getElem?_cons_succ] at k0 k1 k2 q0 q1
  have hle : (m : Int) ≤ (c : Int) := by omega
  have hle2 : (0 : Int) ≤ (m : Int) := by omega
  have hnc : ¬ c = 0 := by omega
  have hB0 := Lib.hid b0
  go_region_held3 (fun u => u.cell? ⟨w.heap.size, 1, none⟩ = some (.int .i64 st) ∧ u.cell? ⟨w.heap.size, 2, none⟩ = some (.slice (some ⟨b, o, none⟩) (m + 1) c)) (first | exact ⟨k1d, k2d⟩ | exact ⟨k1, k2⟩) (first | (go_at_call 108; refine (spec_l1Rounds hst8).mono ?_; rintro e w' ⟨rfl, rfl⟩) | (go_at_call 126; refine (spec_l4Lead hr8 HT.out R0.out.drew (by omega) HS.out).mono ?_; rintro e w1 ⟨A1, c1, rfl, ho, hbd⟩; have hb1 := below_of_drew hbd; have L0 := K0.up hb1; have L1 := K1.up hb1; have k1d := L0.cell 1; have k2d := L0.cell 2; simp only [List.getElem?_cons_zero, List.getElem?_cons_succ] at k1d k2d))
  have k0d := L0.cell 0; have q0d := L1.cell 0; have q1d := L1.cell 1
  simp only [List.getElem?_cons_zero, List.getElem?_cons_succ] at k0d q0d q1d
  have hB1 := below_go b0 hb1
  clear k0 k1 k2 q0 q1
  go_wp2_with fail
  refine (spec_l8Change HN.out (h.up hB1) (by omega) (by omega)).mono ?_; rintro e w2 ⟨rfl, hb2⟩
  go_wp2_with fail
  refine (spec_l2Apply hx8 (by omega)).mono ?_; rw [e1.out]; rintro e w3 ⟨rfl, hb3⟩
  go_wp2
  go_ret
  exact ⟨rfl, below_go (below_go hB1 hb2) hb3⟩
set_option maxHeartbeats 2000000 in
set_option maxRecDepth 100000 in
theorem spec_CallHeads {A : Option Addr} {n c : Nat} {nm : ByteArray} {st : Int} {l : List ByteArray} {kb ks : ByteArray} {w : World} (hn : l.length = n) (h : Strs w A l) (hz : n ≤ 1048576) (hs : ∀ s ∈ l, s.size ≤ 16777216) (hnm : nm.size ≤ 16777216) (hst : I64 st) (hkb : kb.size ≤ 16777216) (hks : ks.size ≤ 16777216) (hcap : n ≤ c) :
    Calls Try.prog 157 #[.agg #[.string nm, .int .i64 st, .slice A n c], .agg #[.string kb, .string ks]] w fun e w' => ∃ A' m' c', e = .returned (.tuple #[.slice A' m' c', .bool (goodK nm st l kb ks)]) ∧ (goodK nm st l kb ks = true → m' = 3 ∧ Owned strE 1 9 w' w.heap.size A' m' c' (hds3 st.toNat l kb ks)) ∧ Below w.heap.size w w' := by
  have b0 : Below w.heap.size w ((w.alloc (.cells ⟨[.string nm, .int .i64 st, .slice A n c]⟩ 26)).alloc (.cells ⟨[.string kb, .string ks]⟩ 28)) := by (repeat' (first | (with_reducible exact Below.refl _ _) | (with_reducible assumption) | (with_reducible refine below_drewN ?_ _) | (with_reducible refine Below.drew ?_) | (with_reducible refine below_alloc ?_ _) | (with_reducible refine Below.alloc ?_ ?_ _) | (with_reducible refine Below.setCell ?_ ?_ _) | (with_reducible refine below_go ?_ (by with_reducible assumption)) | (with_reducible refine below_then (by with_reducible assumption) ?_ ?_) | go_size))
  have K0 := (Blk.at_ w 26 [.string nm, .int .i64 st, .slice A n c] (b := w.heap.size) rfl).alloc (.cells ⟨[.string kb, .string ks]⟩ 28)
  have K1 := Blk.at_ (w.alloc (.cells ⟨[.string nm, .int .i64 st, .slice A n c]⟩ 26)) 28 [.string kb, .string ks] (b := w.heap.size + 1) (by simp)
  go_in
  go_wp2_with fail
  obtain ⟨w0, hw0⟩ : ∃ u, u = ((w.alloc (.cells #[.string nm, .int .i64 st, .slice A n c] 26)).alloc (.cells #[.string kb, .string ks] 28)) := ⟨_, rfl⟩
  rw [← hw0] at b0 K0 K1 ⊢
  clear hw0
  refine (spec_l8Good hn (h.up b0) hz hs hnm hst hkb hks).mono ?_; rintro e w1 ⟨rfl, hb1⟩
  have hB1 := below_go b0 hb1
  rcases hk : goodK nm st l kb ks
  · have HK := Lib.hid hk
    go_wp2
    go_ret2
    rw [HK.out]
    exact ⟨none, 0, 0, rfl, fun h => (by cases h), hB1⟩
  · obtain ⟨m, rfl⟩ : ∃ m : Nat, st = (m : Int) := ⟨st.toNat, by
      have := (goodM_t (goodK_t hk).1).2.1
      omega⟩
    have HK := Lib.hid hk
    have H0 := Lib.hid (h.up hB1)
    have L0 := K0.up hb1; have L1 := K1.up hb1
    have carry : Hid (∀ u : World, Below w1.heap.size w1 u → (u.cell? ⟨w.heap.size, 0, none⟩ = some (.string nm) ∧ u.cell? ⟨w.heap.size, 1, none⟩ = some (.int .i64 m) ∧ u.cell? ⟨w.heap.size, 2, none⟩ = some (.slice A n c)) ∧ u.cell? ⟨w.heap.size + 1, 0, none⟩ = some (.string kb) ∧ u.cell? ⟨w.heap.size + 1, 1, none⟩ = some (.string ks)) := Lib.hid (fun u hu => by
      have L0 := L0.up hu; have L1 := L1.up hu
      exact ⟨⟨by simpa using L0.cell 0, by simpa using L0.cell 1, by simpa using L0.cell 2⟩, by simpa using L1.cell 0, by simpa using L1.cell 1⟩)
    clear h K0 K1 L0 L1
    have cf := Lib.hid (fun (u : World) (s : ByteArray) (hb : Below w1.heap.size w1 u) => spec_l8Head (c := c) (s := s) hn (H0.out.up hb) hk hcap)
    go_wp2
    go_region_held3 (fun u => (u.cell? ⟨w.heap.size, 0, none⟩ = some (.string nm) ∧ u.cell? ⟨w.heap.size, 1, none⟩ = some (.int .i64 m) ∧ u.cell? ⟨w.heap.size, 2, none⟩ = some (.slice A n c)) ∧ u.cell? ⟨w.heap.size + 1, 0, none⟩ = some (.string kb) ∧ u.cell? ⟨w.heap.size + 1, 1, none⟩ = some (.string ks)) (first | exact carry.out _ C3 | exact carry.out _ (C3.alloc C3.size _) | exact carry.out _ C2 | exact carry.out _ C1 | exact carry.out _ (Below.refl _ _).drew) (first | (go_at_call 206; ((with_reducible refine (cf.out _ ⟨#[115]⟩ C2).mono ?_); rintro e w4 ⟨rfl, hb4⟩; have C3 := C2.trans (hb4.mono C2.size))) | (go_at_call 206; ((with_reducible refine (cf.out _ ⟨#[98]⟩ C1).mono ?_); rintro e w3 ⟨rfl, hb3⟩; have C2 := C1.trans (hb3.mono C1.size))) | (go_at_call 206; ((with_reducible refine (cf.out _ ⟨#[112]⟩ (Below.refl _ _).drew).mono ?_); rintro e w2 ⟨rfl, hbd2⟩; have hb2 := below_of_drew hbd2; have C1 := hb2)))
    go_wp2
    go_ret2
    rw [HK.out]
    have C4 := C3.alloc C3.size (.cells #[.string (callHd m l kb ks ⟨#[112]⟩), .string (callHd m l kb ks ⟨#[98]⟩), .string (callHd m l kb ks ⟨#[115]⟩)] 9)
    have hB := below_go hB1 C4
    exact ⟨_, _, _, rfl, fun _ => ⟨rfl, own_lit3 w4 9 _ _ _ (by have := hB1.size; have := C3.size; omega)⟩, hB⟩
set_option maxHeartbeats 1000000 in
theorem spec_l18Leads {A : Option Addr} {n c : Nat} {nm : ByteArray} {st : Int} {l : List ByteArray} {kb ks : ByteArray} {w : World} (hn : l.length = n) (h : Strs w A l) (hz : n ≤ 1048576) (hs : ∀ s ∈ l, s.size ≤ 16777216) (hnm : nm.size ≤ 16777216) (hst : I64 st) (hkb : kb.size ≤ 16777216) (hks : ks.size ≤ 16777216) (hcap : n ≤ c) :
    Calls Try.prog 70 #[.agg #[.string nm, .int .i64 st, .slice A n c], .agg #[.string kb, .string ks]] w fun e w' => ∃ A' c', e = .returned (.tuple #[.slice A' (lsR nm st l kb ks).length c', .bool (goodK nm st l kb ks)]) ∧
      Owned boolE 1 4 w' w.heap.size A' (lsR nm st l kb ks).length c' (lsR nm st l kb ks) ∧ (lsR nm st l kb ks).length ≤ 16777216 ∧ Below w.heap.size w w' := by
  have b0 : Below w.heap.size w ((w.alloc (.cells ⟨[.string nm, .int .i64 st, .slice A n c]⟩ 26)).alloc (.cells ⟨[.string kb, .string ks]⟩ 28)) := by (repeat' (first | (with_reducible exact Below.refl _ _) | (with_reducible assumption) | (with_reducible refine below_drewN ?_ _) | (with_reducible refine Below.drew ?_) | (with_reducible refine below_alloc ?_ _) | (with_reducible refine Below.alloc ?_ ?_ _) | (with_reducible refine Below.setCell ?_ ?_ _) | (with_reducible refine below_go ?_ (by with_reducible assumption)) | (with_reducible refine below_then (by with_reducible assumption) ?_ ?_) | go_size))
  have K0 := (Blk.at_ w 26 [.string nm, .int .i64 st, .slice A n c] (b := w.heap.size) rfl).alloc (.cells ⟨[.string kb, .string ks]⟩ 28)
  have K1 := Blk.at_ (w.alloc (.cells ⟨[.string nm, .int .i64 st, .slice A n c]⟩ 26)) 28 [.string kb, .string ks] (b := w.heap.size + 1) (by simp)
  go_in
  go_wp2_with fail
  obtain ⟨w0, hw0⟩ : ∃ u, u = ((w.alloc (.cells #[.string nm, .int .i64 st, .slice A n c] 26)).alloc (.cells #[.string kb, .string ks] 28)) := ⟨_, rfl⟩
  rw [← hw0] at b0 K0 K1 ⊢
  clear hw0
  refine (spec_CallHeads hn (h.up b0) hz hs hnm hst hkb hks hcap).mono ?_; rintro e w1 ⟨A1, m1, c1, rfl, ho, hb1⟩
  have hB1 := below_go b0 hb1
  rcases hk : goodK nm st l kb ks
  · have HK := Lib.hid hk
    have e1 := Lib.hid (lsR_f hk)
    go_wp2
    go_ret2
    rw [HK.out, e1.out]
    exact ⟨none, 0, rfl, Owned.nil boolE_len _ _ _, by decide, hB1⟩
  · obtain ⟨m, rfl⟩ : ∃ m : Nat, st = (m : Int) := ⟨st.toNat, by
      have := (goodM_t (goodK_t hk).1).2.1
      omega⟩
    have HK := Lib.hid hk
    obtain ⟨em1, hoh⟩ := ho hk
    subst em1
    rw [Int.toNat_natCast] at hoh
    clear ho
    have hgr := hds3_good hk
    have e1 := Lib.hid (lsR_t hk)
    have hlen : (hds3 m l kb ks).length = 3 := rfl
    have hsz : ∀ s ∈ hds3 m l kb ks, s.size ≤ 16777216 := fun s hs' => by
      have := goodRow_n (goodRows_mem hgr s hs'); omega
    have hsz2 := Lib.hid hsz
    have e3 := Lib.hid (show signsR (hds3 m l kb ks) = (hds3 m l kb ks).map evenRow from signsR_t hgr)
    have hgr2 := Lib.hid hgr
    clear hsz hgr
    go_wp2_with fail
    refine (spec_SignsOf hlen hoh.recs (by omega) hsz2.out).mono ?_; rw [hgr2.out, e3.out]; rintro e w3 ⟨A3, c3, rfl, ho3, hz3, hb3⟩
    go_wp2
    go_ret2
    rw [e1.out, HK.out]
    exact ⟨_, _, rfl, ho3.base_le hB1.size, hz3, below_go hB1 hb3⟩
theorem spec_LeadSigns {A : Option Addr} {n c : Nat} {nm : ByteArray} {st : Int} {l : List ByteArray} {kb ks : ByteArray} {w : World} (hn : l.length = n) (h : Strs w A l) (hz : n ≤ 1048576) (hs : ∀ s ∈ l, s.size ≤ 16777216) (hnm : nm.size ≤ 16777216) (hst : I64 st) (hkb : kb.size ≤ 16777216) (hks : ks.size ≤ 16777216) (hcap : n ≤ c) :
    Calls Try.prog 16 #[.agg #[.string nm, .int .i64 st, .slice A n c], .agg #[.string kb, .string ks]] w fun e w' => ∃ A' c', e = .returned (.tuple #[.slice A' (lsR nm st l kb ks).length c', .bool (goodK nm st l kb ks)]) ∧
      Owned boolE 1 4 w' w.heap.size A' (lsR nm st l kb ks).length c' (lsR nm st l kb ks) ∧ (lsR nm st l kb ks).length ≤ 16777216 ∧ Below w.heap.size w w' := by
  have b0 : Below w.heap.size w ((w.alloc (.cells ⟨[.string nm, .int .i64 st, .slice A n c]⟩ 26)).alloc (.cells ⟨[.string kb, .string ks]⟩ 28)) := by (repeat' (first | (with_reducible exact Below.refl _ _) | (with_reducible assumption) | (with_reducible refine below_drewN ?_ _) | (with_reducible refine Below.drew ?_) | (with_reducible refine below_alloc ?_ _) | (with_reducible refine Below.alloc ?_ ?_ _) | (with_reducible refine Below.setCell ?_ ?_ _) | (with_reducible refine below_go ?_ (by with_reducible assumption)) | (with_reducible refine below_then (by with_reducible assumption) ?_ ?_) | go_size))
  have K0 := (Blk.at_ w 26 [.string nm, .int .i64 st, .slice A n c] (b := w.heap.size) rfl).alloc (.cells ⟨[.string kb, .string ks]⟩ 28)
  have K1 := Blk.at_ (w.alloc (.cells ⟨[.string nm, .int .i64 st, .slice A n c]⟩ 26)) 28 [.string kb, .string ks] (b := w.heap.size + 1) (by simp)
  clear K0 K1
  go_in
  go_wp2_with fail
  refine (spec_l18Leads hn (h.up b0) hz hs hnm hst hkb hks hcap).mono ?_; rintro e w1 ⟨A1, c1, rfl, ho, hz1, hb1⟩
  go_wp2
  go_ret2
  exact ⟨_, _, rfl, ho.base_le b0.size, hz1, below_go b0 hb1⟩
end Go.Proofs.Ytpccbmndgdiloaa
/- A map to strings or to ints that the call has made, as a plain function of the key. -/
namespace Go.Proofs.Ytpccbmndgdiloaa
set_option linter.unusedVariables false
set_option linter.unusedSimpArgs false
open Go.ChangeShapes Go.WideShapes Go.ChangeAt Go.RowKit Go.Deep
open Go.Maps (Keyed)

/-- Block b is a map of at most n entries that reads as f. -/
def MapTo {α : Type} (en : α → Value) (li : α → Lit) (z : α) (P : Program) (w : World) (k e : TypeId) (b n : Nat) (f : Value → α) : Prop :=
  ∃ D : DataW Unit, w.ownsMap P k (plainElem P e) b n D ∧ ∀ key kl, keyOf P k key = some kl → D.atKey kl (.lit (li z)) = .lit (li (f key))
section
variable {α : Type} {en : α → Value} {li : α → Lit} {z : α} {P : Program} {w w' : World} {k e : TypeId} {b n : Nat} {f : Value → α}
theorem MapTo.made (en : α → Value) (li : α → Lit) (z : α) (P : Program) (w : World) (k e : TypeId) : MapTo en li z P (w.alloc (.map #[] 0)) k e w.heap.size 0 (fun _ => z) :=
  ⟨.map [], World.ownsMap_made w P k _, fun key kl _ => rfl⟩
theorem MapTo.lt (h : MapTo en li z P w k e b n f) : b < w.heap.size := by
  obtain ⟨D, h1, _⟩ := h
  exact h1.lt
theorem MapTo.kept {row : Option Nat} (h : MapTo en li z P w k e b n f) (hg : w.grownBy w' row) (hne : some b ≠ row) : MapTo en li z P w' k e b n f := by
  obtain ⟨D, h1, h2⟩ := h
  exact ⟨D, h1.kept hg hne, h2⟩
theorem MapTo.up (h : MapTo en li z P w k e b n f) (hb : Below w.heap.size w w') : MapTo en li z P w' k e b n f := h.kept (grown_of_below hb) (by simp)
theorem MapTo.alloc (h : MapTo en li z P w k e b n f) (o : Obj) : MapTo en li z P (w.alloc o) k e b n f := h.up ((Below.refl _ _).alloc (Nat.le_refl _) o)
theorem MapTo.drew (h : MapTo en li z P w k e b n f) : MapTo en li z P w.drew k e b n f := h.up (Below.refl _ _).drew
theorem MapTo.look {t : TypeId} (h : MapTo en li z P w k e b n f) (K : Keyed P k) (ht : P.underlying t = some (.map k e)) (hz : (zeroValue e).run P w = .ok (en z) w) (hzd : plainElem (H := Unit) P e (en z) = some (.lit (li z), [])) (hin : ∀ v x ps, plainElem (H := Unit) P e v = some (.lit (li x), ps) → v = en x)
    {key : Value} {kl : Lit} (hkey : keyOf P k key = some kl) : (Instr.lookup t (.map (some b)) key false).run P w = .ok (en (f key)) w := by
  obtain ⟨D, h1, h2⟩ := h
  obtain ⟨v, ps, hrun, hv⟩ := h1.lookup K ht hz hzd hkey
  rw [h2 key kl hkey] at hv
  rw [hrun, hin _ _ _ hv]
end
theorem MapTo.put {α : Type} {en : α → Value} {li : α → Lit} {z : α} {P : Program} {W : World} {t k e : TypeId} (K : Keyed P k) (ht : P.underlying t = some (.map k e)) {b n : Nat} {f : Value → α} (h : MapTo en li z P W k e b n f) (hn : n ≤ 16777216) {key : Value} {x : α}
    {kl : Lit} (hkey : keyOf P k key = some kl) (hpe : plainElem (H := Unit) P e (en x) = some (.lit (li x), [])) : ∃ w', (Instr.mapUpdate t (.map (some b)) key (en x)).run P W = .ok () w' ∧ (∀ g : Value → α, g key = x → (∀ q, q ≠ key → g q = f q) → MapTo en li z P w' k e b (n + 1) g) ∧ W.grownBy w' (some b) := by
  obtain ⟨D, h1, h2⟩ := h
  obtain ⟨w', hrun, hown, hg⟩ := h1.update K ht (by unfold maxLen; omega) hkey hpe
  refine ⟨w', hrun, fun g g1 g2 => ⟨_, hown, fun key' kl' hk' => ?_⟩, hg⟩
  by_cases ek : kl' = kl
  · subst ek
    have e1 : key' = key := K.inj hk' hkey
    subst e1
    rw [Maps.atKey_put_same h1.isMap (K.key hkey), g1]
  · have e1 : key' ≠ key := fun e2 => ek (by rw [e2, hkey] at hk'; injection hk' with hk'; exact hk'.symm)
    rw [Maps.atKey_put_other ek, g2 _ e1]
    exact h2 key' kl' hk'
theorem wp_map_put {α : Type} {en : α → Value} {li : α → Lit} {z : α} {P : Program} {o : Oper} {a : Act} {K' : Act → World → Prop} {Q : Exit → Act → World → Prop} {W : World} (M X V : Operand) (t : TypeId) (hop : o.op = Op.mapUpdate t M X V)
    {k e : TypeId} (K : Keyed P k) (ht : P.underlying t = some (.map k e)) {b n : Nat} {f : Value → α} (hm : a.eval M = .map (some b)) (h : MapTo en li z P W k e b n f) (hn : n ≤ 16777216) {key : Value} (hx : a.eval X = key) {x : α} (hv : a.eval V = en x)
    {kl : Lit} (hkey : keyOf P k key = some kl) (hpe : plainElem (H := Unit) P e (en x) = some (.lit (li x), [])) (hK : ∀ w', (∀ g : Value → α, g key = x → (∀ q, q ≠ key → g q = f q) → MapTo en li z P w' k e b (n + 1) g) → W.grownBy w' (some b) → K' (a.put o.dst undef) w') : o.wp P a W K' Q := by
  obtain ⟨w', hrun, r1, r2⟩ := h.put K ht hn hkey hpe
  unfold Oper.wp
  simp [execOp, hop, hm, hx, hv, hrun, Result.andThen]
  exact hK w' r1 r2
theorem wpList_map_put {α : Type} {en : α → Value} {li : α → Lit} {z : α} {P : Program} {ops : Array Oper} {rest : List Oper} {o : Oper} {a : Act} {Q : Exit → Act → World → Prop} {W : World} (hgd : o.guard = none) (M X V : Operand) (t : TypeId) (hop : o.op = Op.mapUpdate t M X V)
    {k e : TypeId} (K : Keyed P k) (ht : P.underlying t = some (.map k e)) {b n : Nat} {f : Value → α} (hm : a.eval M = .map (some b)) (h : MapTo en li z P W k e b n f) (hn : n ≤ 16777216) {key : Value} (hx : a.eval X = key) {x : α} (hv : a.eval V = en x)
    {kl : Lit} (hkey : keyOf P k key = some kl) (hpe : plainElem (H := Unit) P e (en x) = some (.lit (li x), [])) (hK : ∀ w', (∀ g : Value → α, g key = x → (∀ q, q ≠ key → g q = f q) → MapTo en li z P w' k e b (n + 1) g) → W.grownBy w' (some b) → wpList P ops Q rest (a.put o.dst undef) w') : wpList P ops Q (o :: rest) a W := by
  refine wpList_plain hgd fun K' hK' => wp_map_put M X V t hop K ht hm h hn hx hv hkey hpe fun w' r1 r2 => hK' _ _ (hK w' r1 r2)
theorem step_map_put {α : Type} {en : α → Value} {li : α → Lit} {z : α} {P : Program} {ops : Array Oper} {o : Oper} {a : Act} {K' : Act → World → Prop} {Q : Exit → Act → World → Prop} {E' : Prop} {W : World} (hgd : o.guard = none) (M X V : Operand) (t : TypeId) (hop : o.op = Op.mapUpdate t M X V)
    {k e : TypeId} (K : Keyed P k) (ht : P.underlying t = some (.map k e)) {b n : Nat} {f : Value → α} (hm : a.eval M = .map (some b)) (h : MapTo en li z P W k e b n f) (hn : n ≤ 16777216) {key : Value} (hx : a.eval X = key) {x : α} (hv : a.eval V = en x)
    {kl : Lit} (hkey : keyOf P k key = some kl) (hpe : plainElem (H := Unit) P e (en x) = some (.lit (li x), [])) (hK : ∀ w', (∀ g : Value → α, g key = x → (∀ q, q ≠ key → g q = f q) → MapTo en li z P w' k e b (n + 1) g) → W.grownBy w' (some b) → K' (a.put o.dst undef) w') :
    if Region.wanted o (yielded ops a.tmps) = true then Oper.wp P o a W K' Q else E' := by
  have hw : Region.wanted o (yielded ops a.tmps) = true := by simp [Region.wanted, hgd]
  rw [if_pos hw]
  exact wp_map_put M X V t hop K ht hm h hn hx hv hkey hpe hK
theorem wp_map_ins {α : Type} {en : α → Value} {li : α → Lit} {z : α} {P : Program} {o : Oper} {a : Act} {K' : Act → World → Prop} {Q : Exit → Act → World → Prop} {W : World} (M X V : Operand) (t : TypeId) (hop : o.op = Op.insert t M X V)
    {k e : TypeId} (K : Keyed P k) (ht : P.underlying t = some (.map k e)) {b n : Nat} {f : Value → α} (hm : a.eval M = .map (some b)) (h : MapTo en li z P W k e b n f) (hn : n ≤ 16777216) {key : Value} (hx : a.eval X = key) {x : α} (hv : a.eval V = en x)
    {kl : Lit} (hkey : keyOf P k key = some kl) (hpe : plainElem (H := Unit) P e (en x) = some (.lit (li x), [])) (hK : ∀ w', (∀ g : Value → α, g key = x → (∀ q, q ≠ key → g q = f q) → MapTo en li z P w' k e b (n + 1) g) → W.grownBy w' (some b) → K' (a.put o.dst undef) w') : o.wp P a W K' Q := by
  obtain ⟨w', hrun, r1, r2⟩ := h.put K ht hn hkey hpe
  unfold Oper.wp
  simp [execOp, hop, hm, hx, hv, hrun, Result.andThen]
  exact hK w' r1 r2
theorem step_map_ins {α : Type} {en : α → Value} {li : α → Lit} {z : α} {P : Program} {ops : Array Oper} {o : Oper} {a : Act} {K' : Act → World → Prop} {Q : Exit → Act → World → Prop} {E' : Prop} {W : World} (hgd : o.guard = none) (M X V : Operand) (t : TypeId) (hop : o.op = Op.insert t M X V)
    {k e : TypeId} (K : Keyed P k) (ht : P.underlying t = some (.map k e)) {b n : Nat} {f : Value → α} (hm : a.eval M = .map (some b)) (h : MapTo en li z P W k e b n f) (hn : n ≤ 16777216) {key : Value} (hx : a.eval X = key) {x : α} (hv : a.eval V = en x)
    {kl : Lit} (hkey : keyOf P k key = some kl) (hpe : plainElem (H := Unit) P e (en x) = some (.lit (li x), [])) (hK : ∀ w', (∀ g : Value → α, g key = x → (∀ q, q ≠ key → g q = f q) → MapTo en li z P w' k e b (n + 1) g) → W.grownBy w' (some b) → K' (a.put o.dst undef) w') :
    if Region.wanted o (yielded ops a.tmps) = true then Oper.wp P o a W K' Q else E' := by
  have hw : Region.wanted o (yielded ops a.tmps) = true := by simp [Region.wanted, hgd]
  rw [if_pos hw]
  exact wp_map_ins M X V t hop K ht hm h hn hx hv hkey hpe hK
/-- The bound on a map's size is the length of what it reads as. -/
theorem ownsMap_tight {H : Type} {P : Program} {w : World} {k : TypeId} {R : Value → Option (DataW H × List MemPlace)} {b n m : Nat} {l : List (Lit × DataW H)} (h : w.ownsMap P k R b n (.map l)) (hm : l.length ≤ m) : w.ownsMap P k R b m (.map l) := by
  obtain ⟨es, clock, hb, F, hs, hD⟩ := h
  refine ⟨es, clock, hb, F, ?_, hD⟩
  injection hD with hD
  have e1 := congrArg List.length hD
  rw [length_sorted] at e1
  simp at e1
  omega
/-- The world behind 'm[key] = v'. -/
def putW (P : Program) (t : TypeId) (b : Nat) (key v : Value) (u : World) : World :=
  match (Instr.mapUpdate t (.map (some b)) key v).run P u with
  | .ok _ w' => w'
  | _ => u
theorem putW_eq {P : Program} {t : TypeId} {b : Nat} {key v : Value} {u w' : World} (h : (Instr.mapUpdate t (.map (some b)) key v).run P u = .ok () w') : putW P t b key v u = w' := by
  rw [putW, h]
/-! strings -/
def sLi (s : ByteArray) : Lit := .string s.data.toList
theorem ba_ext {s t : ByteArray} (h : s.data.toList = t.data.toList) : s = t := by
  cases s; cases t
  simp only [ByteArray.mk.injEq]
  exact Array.ext' h
theorem sLi_pe {P : Program} {e : TypeId} (he : P.underlying e = some .string) {s : ByteArray} (hs : s.size ≤ 16777216) : plainElem (H := Unit) P e (.string s) = some (.lit (sLi s), []) := plainElem_string he (by unfold maxLen; omega)
theorem sLi_in {P : Program} {e : TypeId} (he : P.underlying e = some .string) (v : Value) (x : ByteArray) (ps : List MemPlace) (h : plainElem (H := Unit) P e v = some (.lit (sLi x), ps)) : v = .string x := by
  obtain ⟨s, rfl, hz, _⟩ := plainElem_string_inv he h
  simp only [Prod.mk.injEq, DataW.lit.injEq, sLi, Lit.string.injEq] at hz
  rw [ba_ext hz.1]
/-! ints -/
theorem lit_i64 {x : Int} (h : I64 x) : (Lit.int .i64 x).wf = true := by
  simp only [Lit.wf, Bool.and_eq_true, decide_eq_true_eq]
  exact h
def iLi (i : Int) : Lit := .int .i64 i
theorem iLi_pe {P : Program} {e : TypeId} (he : P.underlying e = some (.int .i64)) {i : Int} (hi : I64 i) : plainElem (H := Unit) P e (.int .i64 i) = some (.lit (iLi i), []) := plainElem_int he (lit_i64 hi)
theorem iLi_in {P : Program} {e : TypeId} (he : P.underlying e = some (.int .i64)) (v : Value) (x : Int) (ps : List MemPlace) (h : plainElem (H := Unit) P e v = some (.lit (iLi x), ps)) : v = .int .i64 x := by
  obtain ⟨s, rfl, hz, _⟩ := plainElem_int_inv he h
  simp only [Prod.mk.injEq, DataW.lit.injEq, iLi, Lit.int.injEq] at hz
  rw [hz.1.2]
end Go.Proofs.Ytpccbmndgdiloaa
/- The walks through touches: good ones and their heads, both sides. -/
namespace Go.Proofs.Ytpccbmndgdiloaa
set_option linter.unusedVariables false
set_option linter.unusedSimpArgs false
open Go.ChangeShapes Go.WideShapes Go.ChangeAt Go.RowKit Go.Deep
theorem letter_one {t : ByteArray} {k : Nat} (h : k < t.size) : letter t k = strOfNums [PlainAid.bt t k] := one_byte h
theorem letter_p {t : ByteArray} {k : Nat} (h : k < t.size) (e : PlainAid.bt t k = 112) : letter t k = ⟨#[112]⟩ := by rw [letter_one h, e]; rfl
theorem letter_b {t : ByteArray} {k : Nat} (h : k < t.size) (e : PlainAid.bt t k = 98) : letter t k = ⟨#[98]⟩ := by rw [letter_one h, e]; rfl
theorem letter_s {t : ByteArray} {k : Nat} (h : k < t.size) (e : PlainAid.bt t k = 115) : letter t k = ⟨#[115]⟩ := by rw [letter_one h, e]; rfl
theorem is_one {c : ByteArray} {x : UInt8} (h : (c.toList == [x]) = true) : c = ⟨#[x]⟩ := by
  have h1 : c.toList = [x] := by simpa using h
  have h2 : c.data.toList = [x] := by rw [← ByteArray.toList_eq]; exact h1
  exact ba_ext (t := ⟨#[x]⟩) h2
theorem isCl_letter {t : ByteArray} {k : Nat} (h : k < t.size) : isCl (letter t k) = callB t k := by
  have nn := PlainAid.bt_nonneg t k; have nl := PlainAid.bt_le t k
  by_cases e1 : PlainAid.bt t k = 112
  · rw [letter_p h e1, show callB t k = true from by simp [callB, e1]]; decide +kernel
  by_cases e2 : PlainAid.bt t k = 98
  · rw [letter_b h e2, show callB t k = true from by simp [callB, e2]]; decide +kernel
  by_cases e3 : PlainAid.bt t k = 115
  · rw [letter_s h e3, show callB t k = true from by simp [callB, e3]]; decide +kernel
  have hb : callB t k = false := by simp [callB, e1, e2, e3]
  rw [hb]
  have key : ∀ x : UInt8, (PlainAid.bt t k ≠ x.toNat) → ((letter t k).toList == [x]) = false := by
    intro x hx
    rcases hq : ((letter t k).toList == [x])
    · rfl
    · exfalso
      have e4 := is_one hq
      rw [letter_one h] at e4
      have e5 := congrArg nums e4
      rw [nums_strOf (by intro y hy; simp at hy; subst hy; omega)] at e5
      apply hx
      have e6 : nums ⟨#[x]⟩ = [(x.toNat : Int)] := by rfl
      rw [e6] at e5
      injection e5
  rw [isCl, isP, isB, isS, key 112 e1, key 98 e2, key 115 e3]
  rfl
set_option maxRecDepth 100000 in
theorem impl_areCalls {t : ByteArray} {w : World} (hz : t.size ≤ 16777216) :
    Calls Try.prog 204 #[.string t] w fun e w' => e = .returned (.bool ((List.range t.size).all (callB t))) ∧ w = w' := by
  have gb := PlainAid.get_bt t
  go_in
  go_wp2
  go_loopw [6] (fun i wr => ∃ k : Nat, k ≤ t.size ∧ i = .int .i64 k ∧ Hid (∀ j, j < k → callB t j = true) ∧ w = wr) (fun i _ => t.size - (intOf i).toNat)
  case atStart => exact ⟨0, Nat.zero_le _, rfl, Lib.hid (fun j hj => absurd hj (by omega)), rfl⟩
  case round =>
    obtain ⟨k, hk, rfl, HK, rfl⟩ := hrel
    by_cases hlt : k < t.size
    · go_wp2_with fail
      refine (impl_isCall (s := letter t k)).mono ?_; rintro e w' ⟨rfl, rfl⟩
      have E := Lib.hid (isCl_letter hlt)
      rcases hg : isCl (letter t k)
      · have e1 := Lib.hid (show (List.range t.size).all (callB t) = false by rw [List.all_eq_false]; exact ⟨k, List.mem_range.2 hlt, by rw [← E.out, hg]; simp⟩)
        go_wp2
        go_ret
        rw [e1.out]
        exact ⟨rfl, rfl⟩
      · have e1 := Lib.hid (show callB t k = true by rw [← E.out, hg])
        go_wp2
        go_roundw
        case rel => exact ⟨k + 1, by omega, by go_num, Lib.hid (upto_succ HK.out e1.out), trivial⟩
        case measure => simp [intOf]; omega
    · obtain rfl : k = t.size := by omega
      have e1 := Lib.hid (show (List.range t.size).all (callB t) = true by rw [List.all_eq_true]; exact fun j hj => HK.out j (List.mem_range.1 hj))
      go_wp2
      go_ret
      rw [e1.out]
      exact ⟨rfl, rfl⟩
theorem impl_GoodTouch {t : ByteArray} {w : World} (hz : t.size ≤ 16777216) :
    Calls Try.prog 156 #[.string t] w fun e w' => e = .returned (.bool (goodT t)) ∧ w = w' := by
  have HQ : Hid (goodT t = ((List.range t.size).all (callB t) && inB t.size 1 60)) := Lib.hid rfl
  by_cases h1 : t.size < 1
  · have hI : ¬ (1 : Int) ≤ (t.size : Int) := by omega
    have e1 := Lib.hid (show goodT t = false by rw [HQ.out, inB, decide_eq_false (by omega), Bool.and_false])
    go_in
    go_wp2
    go_ret
    rw [e1.out]
    exact ⟨rfl, rfl⟩
  · by_cases h2 : 60 < t.size
    · have hI : (1 : Int) ≤ (t.size : Int) := by omega
      have hJ : ¬ (t.size : Int) ≤ 60 := by omega
      have e1 := Lib.hid (show goodT t = false by rw [HQ.out, inB, decide_eq_false (by omega), Bool.and_false])
      go_in
      go_wp2
      go_ret
      rw [e1.out]
      exact ⟨rfl, rfl⟩
    · have hI : (1 : Int) ≤ (t.size : Int) := by omega
      have hJ : (t.size : Int) ≤ 60 := by omega
      have e1 := Lib.hid (show goodT t = (List.range t.size).all (callB t) by rw [HQ.out, inB, decide_eq_true (by omega), Bool.and_true])
      go_in
      go_wp2_with fail
      refine (impl_areCalls hz).mono ?_; rintro e w' ⟨rfl, rfl⟩
      go_wp2
      go_ret
      rw [e1.out]
      exact ⟨rfl, rfl⟩
set_option maxHeartbeats 1000000 in
theorem impl_goodFor {A : Option Addr} {n c : Nat} {nm : ByteArray} {st : Int} {l : List ByteArray} {kb ks : ByteArray} {t : ByteArray} {w : World} (hn : l.length = n) (h : Strs w A l) (hz : n ≤ 1048576) (hs : ∀ s ∈ l, s.size ≤ 16777216) (hnm : nm.size ≤ 16777216) (hst : I64 st) (hkb : kb.size ≤ 16777216) (hks : ks.size ≤ 16777216) (ht : t.size ≤ 16777216) :
    Calls Try.prog 68 #[.agg #[.string nm, .int .i64 st, .slice A n c], .agg #[.string kb, .string ks], .string t] w fun e w' => e = .returned (.bool (goodF nm st l kb ks t)) ∧ Below w.heap.size w w' := by
  have HQ : Hid (goodF nm st l kb ks t = (goodK nm st l kb ks && goodT t)) := Lib.hid rfl
  have b0 : Below w.heap.size w ((w.alloc (.cells ⟨[.string nm, .int .i64 st, .slice A n c]⟩ 26)).alloc (.cells ⟨[.string kb, .string ks]⟩ 28)) := by (repeat' (first | (with_reducible exact Below.refl _ _) | (with_reducible assumption) | (with_reducible refine below_drewN ?_ _) | (with_reducible refine Below.drew ?_) | (with_reducible refine below_alloc ?_ _) | (with_reducible refine Below.alloc ?_ ?_ _) | (with_reducible refine Below.setCell ?_ ?_ _) | (with_reducible refine below_go ?_ (by with_reducible assumption)) | (with_reducible refine below_then (by with_reducible assumption) ?_ ?_) | go_size))
  go_in
  go_wp2_with fail
  refine (impl_GoodCalls hn (h.up b0) hz hs hnm hst hkb hks).mono ?_; rintro e w1 ⟨rfl, hb1⟩
  rcases h1 : goodK nm st l kb ks
  · have e1 := Lib.hid (show goodF nm st l kb ks t = false by rw [HQ.out, h1]; rfl)
    go_wp2
    go_ret
    rw [e1.out]
    exact ⟨rfl, below_go b0 hb1⟩
  · have e1 := Lib.hid (show goodF nm st l kb ks t = goodT t by rw [HQ.out, h1]; rfl)
    go_wp2_with fail
    refine (impl_GoodTouch ht).mono ?_; rintro e w' ⟨rfl, rfl⟩
    go_wp2
    go_ret
    rw [e1.out]
    exact ⟨rfl, below_go b0 hb1⟩
set_option maxRecDepth 100000 in
theorem spec_l9Good {t : ByteArray} {w : World} (hz : t.size ≤ 16777216) :
    Calls Try.prog 158 #[.string t] w fun e w' => e = .returned (.bool (goodT t)) ∧ w = w' := by
  have gb := PlainAid.get_bt t
  have HQ : Hid (goodT t = ((List.range t.size).all (callB t) && inB t.size 1 60)) := Lib.hid rfl
  go_in
  go_wp2
  go_loopw [3] (fun i wr => ∃ k : Nat, k ≤ t.size ∧ i = .int .i64 k ∧ Hid (∀ j, j < k → callB t j = true) ∧ w = wr) (fun i _ => t.size - (intOf i).toNat)
  case atStart => exact ⟨0, Nat.zero_le _, rfl, Lib.hid (fun j hj => absurd hj (by omega)), rfl⟩
  case round =>
    obtain ⟨k, hk, rfl, HK, rfl⟩ := hrel
    by_cases hlt : k < t.size
    · go_wp2_with fail
      refine (spec_l8Call (s := letter t k)).mono ?_; rintro e w' ⟨rfl, rfl⟩
      have E := Lib.hid (isCl_letter hlt)
      rcases hg : isCl (letter t k)
      · have e1 := Lib.hid (show goodT t = false by
          rw [HQ.out, show (List.range t.size).all (callB t) = false from by rw [List.all_eq_false]; exact ⟨k, List.mem_range.2 hlt, by rw [← E.out, hg]; simp⟩, Bool.false_and])
        go_wp2
        go_ret
        rw [e1.out]
        exact ⟨rfl, rfl⟩
      · have e1 := Lib.hid (show callB t k = true by rw [← E.out, hg])
        go_wp2
        go_roundw
        case rel => exact ⟨k + 1, by omega, by go_num, Lib.hid (upto_succ HK.out e1.out), trivial⟩
        case measure => simp [intOf]; omega
    · obtain rfl : k = t.size := by omega
      have e1 := Lib.hid (show goodT t = inB t.size 1 60 by rw [HQ.out, show (List.range t.size).all (callB t) = true from by rw [List.all_eq_true]; exact fun j hj => HK.out j (List.mem_range.1 hj), Bool.true_and])
      go_wp2_with fail
      refine (spec_l1In _ _ _ _).mono ?_; rintro e w' ⟨rfl, rfl⟩
      go_wp2
      go_ret
      rw [e1.out]
      exact ⟨rfl, rfl⟩
theorem spec_GoodTouch {t : ByteArray} {w : World} (hz : t.size ≤ 16777216) :
    Calls Try.prog 71 #[.string t] w fun e w' => e = .returned (.bool (goodT t)) ∧ w = w' := by
  go_in
  go_wp2_with fail
  refine (spec_l9Good hz).mono ?_; rintro e w' ⟨rfl, rfl⟩
  go_wp2
  go_ret
  exact ⟨rfl, rfl⟩
end Go.Proofs.Ytpccbmndgdiloaa
/- The walks through the heads of a touch, the program's side. -/
namespace Go.Proofs.Ytpccbmndgdiloaa
set_option linter.unusedVariables false
set_option linter.unusedSimpArgs false
open Go.ChangeShapes Go.WideShapes Go.ChangeAt Go.RowKit Go.Deep
open Go.Maps (Keyed string_keyed int_keyed)
open Go.Maps (keyOf_int_mk)
theorem Below.step {w0 w w' : World} (C : Below w0.heap.size w0 w) (hb : Below w.heap.size w w') : Below w0.heap.size w0 w' := C.trans (hb.mono C.size)
/-- What a map from the three bytes reads as when some are laid. -/
def triL (p q r : Bool) (X Y Z : ByteArray) : List (Lit × DataW Unit) :=
  (if q = true then [(.int .u8 98, .lit (sLi Y))] else []) ++ ((if p = true then [(.int .u8 112, .lit (sLi X))] else []) ++ (if r = true then [(.int .u8 115, .lit (sLi Z))] else []))
theorem triL_len (p q r : Bool) (X Y Z : ByteArray) : (triL p q r X Y Z).length ≤ 3 := by cases p <;> cases q <;> cases r <;> simp [triL]
theorem triL_p (p q r : Bool) (X Y Z : ByteArray) : (DataW.map (triL p q r X Y Z)).put (.int .u8 112) (.lit (sLi X)) = .map (triL true q r X Y Z) := by cases p <;> cases q <;> cases r <;> rfl
theorem triL_q (p q r : Bool) (X Y Z : ByteArray) : (DataW.map (triL p q r X Y Z)).put (.int .u8 98) (.lit (sLi Y)) = .map (triL p true r X Y Z) := by cases p <;> cases q <;> cases r <;> rfl
theorem triL_r (p q r : Bool) (X Y Z : ByteArray) : (DataW.map (triL p q r X Y Z)).put (.int .u8 115) (.lit (sLi Z)) = .map (triL p q true X Y Z) := by cases p <;> cases q <;> cases r <;> rfl
/-- Block b, made behind w0, is such a map; nothing below w0's end has changed. -/
def Tri (P : Program) (X Y Z : ByteArray) (w0 w : World) (b : Nat) (p q r : Bool) : Prop := w0.heap.size ≤ b ∧ Below w0.heap.size w0 w ∧ w.ownsMap P 5 (plainElem P 9) b 3 (.map (triL p q r X Y Z))
def IsTri (P : Program) (X Y Z : ByteArray) (w0 w : World) (b : Nat) : Prop := ∃ p q r, Tri P X Y Z w0 w b p q r
section
variable {P : Program} {w0 w w' : World} {b : Nat} {p q r : Bool} {X Y Z : ByteArray}
theorem Tri.made (C : Below w0.heap.size w0 w) : Tri P X Y Z w0 (w.alloc (.map #[] 0)) w.heap.size false false false :=
  ⟨C.size, C.alloc C.size _, ownsMap_tight (l := triL false false false X Y Z) (World.ownsMap_made w P _ _) (triL_len _ _ _ _ _ _)⟩
theorem Tri.up (h : Tri P X Y Z w0 w b p q r) (hb : Below w.heap.size w w') : Tri P X Y Z w0 w' b p q r := ⟨h.1, Below.step h.2.1 hb, h.2.2.kept (grown_of_below hb) (by simp)⟩
theorem Tri.c (h : Tri P X Y Z w0 w b p q r) : Below w0.heap.size w0 w := h.2.1
theorem IsTri.c (h : IsTri P X Y Z w0 w b) : Below w0.heap.size w0 w := by obtain ⟨p, q, r, h⟩ := h; exact h.2.1
theorem IsTri.up (h : IsTri P X Y Z w0 w b) (hb : Below w.heap.size w w') : IsTri P X Y Z w0 w' b := by obtain ⟨p, q, r, h⟩ := h; exact ⟨p, q, r, h.up hb⟩
theorem IsTri.made (C : Below w0.heap.size w0 w) : IsTri P X Y Z w0 (w.alloc (.map #[] 0)) w.heap.size := ⟨_, _, _, Tri.made C⟩
theorem Tri.put (h : Tri P X Y Z w0 w b p q r) (K : Keyed P 5) {t : TypeId} (ht : P.underlying t = some (.map 5 9)) (he : P.underlying 9 = some .string) {key : Value} {kl : Lit} (hkey : keyOf P 5 key = some kl) {x : ByteArray} (hx : x.size ≤ 16777216) {p' q' r' : Bool}
    (hL : (DataW.map (triL p q r X Y Z)).put kl (.lit (sLi x)) = .map (triL p' q' r' X Y Z)) :
    (Instr.mapUpdate t (.map (some b)) key (.string x)).run P w = .ok () (putW P t b key (.string x) w) ∧ Tri P X Y Z w0 (putW P t b key (.string x) w) b p' q' r' := by
  obtain ⟨h1, h2, h3⟩ := h
  obtain ⟨w', hrun, hown, hg⟩ := h3.update K ht (by decide) hkey (sLi_pe he hx)
  rw [putW_eq hrun]
  rw [hL] at hown
  exact ⟨hrun, h1, h2.trans ((Below.refl _ _).grown hg h2.size fun k hk => by injection hk with hk; rw [← hk]; exact h1), ownsMap_tight hown (triL_len _ _ _ _ _ _)⟩
end
theorem Tri.get {P : Program} {w0 w : World} {b : Nat} {X Y Z : ByteArray} (h : Tri P X Y Z w0 w b true true true) (K : Keyed P 5) {t : TypeId} (ht : P.underlying t = some (.map 5 9)) (he : P.underlying 9 = some .string)
    (hz : (zeroValue 9).run P w = .ok (.string ByteArray.empty) w) (k1 : keyOf P 5 (.int .u8 112) = some (.int .u8 112)) (k2 : keyOf P 5 (.int .u8 98) = some (.int .u8 98)) (k3 : keyOf P 5 (.int .u8 115) = some (.int .u8 115)) :
    (Instr.lookup t (.map (some b)) (.int .u8 112) false).run P w = .ok (.string X) w ∧ (Instr.lookup t (.map (some b)) (.int .u8 98) false).run P w = .ok (.string Y) w ∧ (Instr.lookup t (.map (some b)) (.int .u8 115) false).run P w = .ok (.string Z) w := by
  have go : ∀ (a : Int) (x : ByteArray), keyOf P 5 (.int .u8 a) = some (.int .u8 a) → (DataW.map (triL true true true X Y Z)).atKey (.int .u8 a) (.lit (sLi ByteArray.empty)) = .lit (sLi x) → (Instr.lookup t (.map (some b)) (.int .u8 a) false).run P w = .ok (.string x) w := by
    intro a x hkey hat
    obtain ⟨v, ps, hrun, hv⟩ := h.2.2.lookup K ht hz (sLi_pe he (by decide)) hkey
    rw [hat] at hv
    rw [hrun, sLi_in he _ _ _ hv]
  exact ⟨go 112 X k1 rfl, go 98 Y k2 rfl, go 115 Z k3 rfl⟩
def Holds (I : World → Nat → Prop) (u : World) (b : Nat) : Prop := I u b
theorem heads_kit {P : Program} (w0 : World) {X Y Z : ByteArray} (K : Keyed P 5) {t : TypeId} (ht : P.underlying t = some (.map 5 9)) (he : P.underlying 9 = some .string) (hu : P.underlying 5 = some (.int .u8)) (hX : X.size ≤ 16777216) (hY : Y.size ≤ 16777216) (hZ : Z.size ≤ 16777216) :
    ∃ (T : World → Nat → Bool → Bool → Bool → Prop) (I : World → Nat → Prop) (PP PQ PR : World → Nat → World),
      (∀ u b, Holds I u b → Below w0.heap.size w0 u) ∧ (∀ u b p q r, T u b p q r → Holds I u b) ∧ (∀ u b, Holds I u b → Holds I (PP u b) b) ∧ (∀ u b, Holds I u b → Holds I (PQ u b) b) ∧ (∀ u b, Holds I u b → Holds I (PR u b) b) ∧
      (∀ u b, Holds I u b → Sem.run P (Instr.mapUpdate t (.map (some b)) (.int .u8 112) (.string X)) u = .ok () (PP u b)) ∧ (∀ u b, Holds I u b → Sem.run P (Instr.mapUpdate t (.map (some b)) (.int .u8 98) (.string Y)) u = .ok () (PQ u b)) ∧ (∀ u b, Holds I u b → Sem.run P (Instr.mapUpdate t (.map (some b)) (.int .u8 115) (.string Z)) u = .ok () (PR u b)) ∧
      (∀ u, Below w0.heap.size w0 u → T (u.alloc (.map #[] 0)) u.heap.size false false false) ∧ (∀ u u' b p q r, T u b p q r → Below u.heap.size u u' → T u' b p q r) ∧
      (∀ u b p q r, T u b p q r → T (PP u b) b true q r) ∧ (∀ u b p q r, T u b p q r → T (PQ u b) b p true r) ∧ (∀ u b p q r, T u b p q r → T (PR u b) b p q true) ∧ (∀ u b p q r, T u b p q r → Tri P X Y Z w0 u b p q r) := by
  have hp : ∀ u b p q r, Tri P X Y Z w0 u b p q r → _ := fun u b p q r h => h.put K ht he (keyOf_int_mk hu (a := 112) (by decide)) hX (triL_p p q r X Y Z)
  have hq : ∀ u b p q r, Tri P X Y Z w0 u b p q r → _ := fun u b p q r h => h.put K ht he (keyOf_int_mk hu (a := 98) (by decide)) hY (triL_q p q r X Y Z)
  have hr : ∀ u b p q r, Tri P X Y Z w0 u b p q r → _ := fun u b p q r h => h.put K ht he (keyOf_int_mk hu (a := 115) (by decide)) hZ (triL_r p q r X Y Z)
  refine ⟨Tri P X Y Z w0, IsTri P X Y Z w0, fun u b => putW P t b (.int .u8 112) (.string X) u, fun u b => putW P t b (.int .u8 98) (.string Y) u, fun u b => putW P t b (.int .u8 115) (.string Z) u, fun u b h => h.c, fun u b p q r h => ⟨p, q, r, h⟩, ?_, ?_, ?_, ?_, ?_, ?_, fun u h => Tri.made h, fun u u' b p q r h hb => h.up hb, fun u b p q r h => (hp u b p q r h).2, fun u b p q r h => (hq u b p q r h).2, fun u b p q r h => (hr u b p q r h).2, fun _ _ _ _ _ h => h⟩
  · rintro u b ⟨p, q, r, h⟩; exact ⟨_, _, _, (hp u b p q r h).2⟩
  · rintro u b ⟨p, q, r, h⟩; exact ⟨_, _, _, (hq u b p q r h).2⟩
  · rintro u b ⟨p, q, r, h⟩; exact ⟨_, _, _, (hr u b p q r h).2⟩
  · rintro u b ⟨p, q, r, h⟩; exact (hp u b p q r h).1
  · rintro u b ⟨p, q, r, h⟩; exact (hq u b p q r h).1
  · rintro u b ⟨p, q, r, h⟩; exact (hr u b p q r h).1
set_option maxHeartbeats 40000000 in
set_option maxRecDepth 100000 in
theorem impl_heads {A : Option Addr} {n c st : Nat} {nm : ByteArray} {l : List ByteArray} {kb ks : ByteArray} {t : ByteArray} {w : World} (hn : l.length = n) (h : Strs w A l) (hk : goodK nm (st : Int) l kb ks = true) (hg : goodT t = true) :
    Calls Try.prog 159 #[.agg #[.string nm, .int .i64 st, .slice A n c], .agg #[.string kb, .string ks], .string t] w fun e w' => ∃ A' c', e = .returned (.slice A' (t.size + 1) c') ∧ Owned strE 1 9 w' w.heap.size A' (t.size + 1) c' (hdsL st l kb ks t (t.size + 1)) ∧ Below w.heap.size w w' := by
  have b0 : Below w.heap.size w ((w.alloc (.cells ⟨[.string nm, .int .i64 st, .slice A n c]⟩ 26)).alloc (.cells ⟨[.string kb, .string ks]⟩ 28)) := by (repeat' (first | (with_reducible exact Below.refl _ _) | (with_reducible assumption) | (with_reducible refine below_drewN ?_ _) | (with_reducible refine Below.drew ?_) | (with_reducible refine below_alloc ?_ _) | (with_reducible refine Below.alloc ?_ ?_ _) | (with_reducible refine Below.setCell ?_ ?_ _) | (with_reducible refine below_go ?_ (by with_reducible assumption)) | (with_reducible refine below_then (by with_reducible assumption) ?_ ?_) | go_size))
  have K0 := (Blk.at_ w 26 [.string nm, .int .i64 st, .slice A n c] (b := w.heap.size) rfl).alloc (.cells ⟨[.string kb, .string ks]⟩ 28)
  have K1 := Blk.at_ (w.alloc (.cells ⟨[.string nm, .int .i64 st, .slice A n c]⟩ 26)) 28 [.string kb, .string ks] (b := w.heap.size + 1) (by simp)
  have hmm := @run_makeMap Try.prog
  have KU := int_keyed (P := Try.prog) (k := 5) Try.underlying5
  go_in
  go_upto_region 1 with fail
  obtain ⟨w0, hw0⟩ : ∃ u, u = ((w.alloc (.cells #[.string nm, .int .i64 st, .slice A n c] 26)).alloc (.cells #[.string kb, .string ks] 28)) := ⟨_, rfl⟩
  rw [← hw0] at b0 K0 K1 ⊢
  clear hw0
  have H0 := Lib.hid (h.up b0)
  have carry : Hid (∀ u : World, Below w0.heap.size w0 u → (u.cell? ⟨w.heap.size, 0, none⟩ = some (.string nm) ∧ u.cell? ⟨w.heap.size, 1, none⟩ = some (.int .i64 st) ∧ u.cell? ⟨w.heap.size, 2, none⟩ = some (.slice A n c)) ∧ u.cell? ⟨w.heap.size + 1, 0, none⟩ = some (.string kb) ∧ u.cell? ⟨w.heap.size + 1, 1, none⟩ = some (.string ks)) := Lib.hid (fun u hu => by
    have L0 := K0.up hu; have L1 := K1.up hu
    exact ⟨⟨by simpa using L0.cell 0, by simpa using L0.cell 1, by simpa using L0.cell 2⟩, by simpa using L1.cell 0, by simpa using L1.cell 1⟩)
  clear h K0 K1
  have cf := Lib.hid (fun (u : World) (s : ByteArray) (hb : Below w0.heap.size w0 u) => impl_callHead (c := c) (s := s) hn (H0.out.up hb) hk)
  have C0 : Below w0.heap.size w0 w0.drew := (Below.refl _ _).drew
  have PG := Lib.hid (callHd_good hk)
  have PS := Lib.hid (fun s => show (callHd st l kb ks s).size ≤ 16777216 from by rw [(PG.out s).2]; have := (goodK_all hk).1; omega)
  obtain ⟨T, I, PP, PQ, PR, hC, hTI, HIP, HIQ, HIR, HUP, HUQ, HUR, hM, hU, hP, hQ, hR, hT⟩ := heads_kit (P := Try.prog) w0 KU Try.underlying183 Try.underlying9 Try.underlying5 (PS.out ⟨#[112]⟩) (PS.out ⟨#[98]⟩) (PS.out ⟨#[115]⟩)
  have HC := Lib.hid hC; have TI := Lib.hid hTI; have TM := Lib.hid hM; have TU := Lib.hid hU; have TP := Lib.hid hP; have TQ := Lib.hid hQ; have TR := Lib.hid hR; have TT := Lib.hid hT
  clear hC hTI hM hU hP hQ hR hT
  have N0 := TU.out _ _ _ _ _ _ (TM.out w0 (Below.refl _ _)) (Below.refl _ _).drew
  have M0 := TI.out _ _ _ _ _ N0
  go_cut [7] (fun s7 wx => ∃ b, s7 = .map (some b) ∧ T wx b true true true)
  case first =>
    go_region_held3 (fun u => (u.cell? ⟨w.heap.size, 0, none⟩ = some (.string nm) ∧ u.cell? ⟨w.heap.size, 1, none⟩ = some (.int .i64 st) ∧ u.cell? ⟨w.heap.size, 2, none⟩ = some (.slice A n c)) ∧ u.cell? ⟨w.heap.size + 1, 0, none⟩ = some (.string kb) ∧ u.cell? ⟨w.heap.size + 1, 1, none⟩ = some (.string ks)) (first | exact carry.out _ (by first | assumption | (apply HC.out; repeat (with_reducible first | assumption | apply HIP | apply HIQ | apply HIR)))) (first
      | (go_at_call 161; ((with_reducible refine (cf.out _ _ (by first | assumption | (apply HC.out; repeat (with_reducible first | assumption | apply HIP | apply HIQ | apply HIR)))).mono ?_); rintro e w1 ⟨rfl, hb1⟩; (first | (have N := TU.out _ _ _ _ _ _ (by assumption) hb1) | (have N := TU.out _ _ _ _ _ _ (TP.out _ _ _ _ _ (by assumption)) hb1) | (have N := TU.out _ _ _ _ _ _ (TQ.out _ _ _ _ _ (by assumption)) hb1) | (have N := TU.out _ _ _ _ _ _ (TQ.out _ _ _ _ _ (TP.out _ _ _ _ _ (by assumption))) hb1) | (have N := TU.out _ _ _ _ _ _ (TP.out _ _ _ _ _ (TQ.out _ _ _ _ _ (by assumption))) hb1) | (have C := Below.step (w0 := w0) (by assumption) hb1; have N := TM.out _ C)); have M := TI.out _ _ _ _ _ N; have MP := HIP _ _ M; have MQ := HIQ _ _ M; have MR := HIR _ _ M)))
    all_goals
      go_wp2_with fail
      go_meet
      refine ⟨_, rfl, ?_⟩
      repeat (with_reducible first | assumption | apply TP.out | apply TQ.out | apply TR.out)
  case rest =>
    obtain ⟨b, rfl, hT0⟩ := hcut
    have hT := TT.out _ _ _ _ _ hT0
    clear hT0 HIP HIQ HIR HUP HUQ HUR N0 M0
    rename World => w1
    obtain ⟨⟨k0, k1, k2⟩, q0, q1⟩ := carry.out _ hT.c
    have hB1 := b0.trans (hT.c.mono b0.size)
    obtain ⟨h8, h40, _⟩ := goodK_all hk
    have gb := PlainAid.get_bt t
    obtain ⟨ht1, ht60, htl⟩ := goodT_t hg
    have HL := Lib.hid htl
    have HD := Lib.hid (fun k => hdAt_good h8.1 h8.2 l kb ks t k)
    have H1 : Hid (Owned strE 1 9 (w1.alloc (.cells #[.string (roundsS st)] 9)) w1.heap.size (some ⟨w1.heap.size, 0, none⟩) 1 1 (hdsL st l kb ks t 1)) := Lib.hid ⟨strE_len, by simp [hdsL], by simpa [hdsL, hdAt, strE] using World.ownsRow_lit (e := 9) (base := w1.heap.size) (size := 1) w1 #[.string (roundsS st)] 1 (Nat.le_refl _) (by decide) (by simp)⟩
    clear htl hmm
    go_wp2_with fail
    refine (impl_rounds h8.2).mono ?_; rintro e w' ⟨rfl, rfl⟩
    go_wp2
    go_loopw [8, 9, 29] (fun r v i wr => ∃ (k : Nat) (A' : Option Addr) (m c' : Nat), k ≤ t.size ∧ i = .int .i64 k ∧ r = .string (hdAt st l kb ks t k) ∧ v = .slice A' m c' ∧ m = k + 1 ∧ Owned strE 1 9 wr w1.heap.size A' m c' (hdsL st l kb ks t (k + 1)) ∧ Below w1.heap.size w1 wr) (fun _ _ i _ => t.size - (intOf i).toNat)
    case atStart => exact ⟨0, _, _, _, Nat.zero_le _, rfl, rfl, rfl, rfl, H1.out, by (repeat' (first | (with_reducible exact Below.refl _ _) | (with_reducible assumption) | (with_reducible refine below_drewN ?_ _) | (with_reducible refine Below.drew ?_) | (with_reducible refine below_alloc ?_ _) | (with_reducible refine Below.alloc ?_ ?_ _) | (with_reducible refine Below.setCell ?_ ?_ _) | (with_reducible refine below_go ?_ (by with_reducible assumption)) | (with_reducible refine below_then (by with_reducible assumption) ?_ ?_) | go_size))⟩
    case round =>
      obtain ⟨k, A', m, c', hk1, rfl, rfl, rfl, rfl, ho, hb⟩ := hrel
      have HO := Lib.hid ho
      have hsz := hb.size
      clear ho
      by_cases hlt : k < t.size
      · have hLK := (hT.up hb).get KU Try.underlying183 Try.underlying9 (by kernel_rfl) (keyOf_int_mk Try.underlying5 (by decide)) (keyOf_int_mk Try.underlying5 (by decide)) (keyOf_int_mk Try.underlying5 (by decide))
        have LK : Sem.run Try.prog (Instr.lookup 183 (.map (some b)) (.int .u8 (PlainAid.bt t k)) false) wr = .ok (.string (callHd st l kb ks (letter t k))) wr := by
          have hcb := HL.out k hlt
          by_cases f1 : PlainAid.bt t k = 112
          · rw [f1, letter_p hlt f1]; exact hLK.1
          · by_cases f2 : PlainAid.bt t k = 98
            · rw [f2, letter_b hlt f2]; exact hLK.2.1
            · have f3 : PlainAid.bt t k = 115 := by
                rw [callB] at hcb
                simpa [f1, f2] using hcb
              rw [f3, letter_s hlt f3]; exact hLK.2.2
        clear hLK
        have p1 := PG.out (letter t k)
        have p2 := HD.out k
        have z1 : (hdAt st l kb ks t k).size ≤ 16777216 := by rw [p2.2]; omega
        have z2 : (callHd st l kb ks (letter t k)).size ≤ 16777216 := by rw [p1.2]; omega
        have hf : fits (hdAt st l kb ks t k) (callHd st l kb ks (letter t k)) := fits_good p1.1 (by rw [p1.2, p2.2])
        have E := Lib.hid (show timesS (hdAt st l kb ks t k) (callHd st l kb ks (letter t k)) = hdAt st l kb ks t (k + 1) from rfl)
        have HT := Lib.hid (hdsL_succ st l kb ks t (k + 1))
        clear p1 p2
        go_wp2_with (first | (go_at_call 208; refine (impl_times z1 z2 hf).mono ?_; rw [E.out]; rintro e w2 ⟨rfl, hb2⟩; have HO1 := Lib.hid (HO.out.up hb2); have hsz1 := hb2.size) | (at_builtin; go_must ((refine wpList_append_rec Try.elStr rfl (.tmp 39) (.tmp 41) rfl rfl (HO1.out.alloc _) (hdAt st l kb ks t (k + 1)) rfl (Box.at_ _ [.string (hdAt st l kb ks t (k + 1))] _ ?_) (strE_one _) ?_ (by decide) ?_ ?_; (focus (first | omega | (simp only [World.size_alloc]; done) | (simp only [World.size_alloc]; omega) | (simp; done) | (simp; omega))); (focus (first | omega | (simp only [World.size_alloc]; done) | (simp only [World.size_alloc]; omega) | (simp; done) | (simp; omega))); (focus (first | omega | (simp only [World.size_alloc]; done) | (simp only [World.size_alloc]; omega) | (simp; done) | (simp; omega))); intro A2 c2 w3 ho3 hg3 hb3))))
        go_roundw
        case rel => exact ⟨k + 1, A2, k + 1 + 1, c2, by omega, by go_num, rfl, by go_num, rfl, by rw [HT.out]; exact ho3, ((hb.trans (hb2.mono hsz)).alloc (by omega) _).trans hb3⟩
        case measure => simp [intOf]; omega
      · obtain rfl : k = t.size := by omega
        go_wp2
        go_ret
        exact ⟨_, _, rfl, HO.out.base_le hB1.size, below_go hB1 hb⟩
end Go.Proofs.Ytpccbmndgdiloaa
/- Signs: a change turns the sign of a row as often as it swaps; the sign of a product. -/
namespace Go.Proofs.Ytpccbmndgdiloaa
set_option linter.unusedVariables false
set_option linter.unusedSimpArgs false
open Go.ChangeShapes Go.WideShapes Go.ChangeAt Go.RowKit Go.Deep
def invs : List Int → Nat
  | [] => 0
  | x :: r => cnt x r + invs r
def gt (y : Int) (l : List Int) : Nat := l.countP fun z => decide (y < z)
theorem gt_cons (y z : Int) (l : List Int) : gt y (z :: l) = gt y l + (if y < z then 1 else 0) := by
  rw [gt, List.countP_cons, gt]
  by_cases h : y < z <;> simp [h]
theorem cnt_snoc (x y : Int) (l : List Int) : cnt x (l ++ [y]) = cnt x l + (if y < x then 1 else 0) := by
  rw [cnt, List.countP_append, cnt]
  by_cases h : y < x <;> simp [h]
theorem invs_snoc (y : Int) : ∀ l : List Int, invs (l ++ [y]) = invs l + gt y l
  | [] => by simp [invs, gt, cnt]
  | x :: r => by
    rw [List.cons_append, invs, invs_snoc y r, cnt_snoc, invs, gt_cons]
    omega
theorem drop_someZ {α : Type} {l : List α} {k : Nat} {x : α} (h : l[k]? = some x) : l.drop k = x :: l.drop (k + 1) := by
  rw [List.drop_eq_getElem_cons (List.getElem?_eq_some_iff.1 h).1, (List.getElem?_eq_some_iff.1 h).2]
def evB (n : Nat) : Bool := decide (n % 2 = 0)
theorem evB_succ (n : Nat) : evB (n + 1) = !evB n := by
  simp only [evB]
  by_cases h : n % 2 = 0
  · rw [decide_eq_true h, decide_eq_false (by omega)]; rfl
  · rw [decide_eq_false h, decide_eq_true (by omega)]; rfl
theorem tg_gt (s : ByteArray) (i : Nat) (c : Nat) : ∀ k, k ≤ s.size → tg s i k (evB c) = evB (c + gt (PlainAid.bt s i) ((nums s).take k))
  | 0, _ => by simp [tg, gt]
  | k + 1, h => by
    have ih := tg_gt s i c k (by omega)
    have e : (nums s).take (k + 1) = (nums s).take k ++ [PlainAid.bt s k] := take_succ_some (nums_at (by omega))
    have e2 : gt (PlainAid.bt s i) ((nums s).take k ++ [PlainAid.bt s k]) = gt (PlainAid.bt s i) ((nums s).take k) + (if PlainAid.bt s i < PlainAid.bt s k then 1 else 0) := by
      rw [gt, List.countP_append, gt]
      by_cases h : PlainAid.bt s i < PlainAid.bt s k <;> simp [h]
    rw [e, e2]
    by_cases hlt : PlainAid.bt s i < PlainAid.bt s k
    · rw [tg_yes hlt, ih, if_pos hlt, ← Nat.add_assoc, evB_succ]
    · rw [tg_no hlt, ih, if_neg hlt, Nat.add_zero]
theorem evo_invs (s : ByteArray) : ∀ k, k ≤ s.size → evo s k = evB (invs ((nums s).take k))
  | 0, _ => by simp [evo, invs, evB]
  | k + 1, h => by
    have e : (nums s).take (k + 1) = (nums s).take k ++ [PlainAid.bt s k] := take_succ_some (nums_at (by omega))
    rw [evo, evo_invs s k (by omega), tg_gt s k _ k (by omega), e, invs_snoc]
theorem even_invs (s : ByteArray) : evenRow s = evB (invs (nums s)) := by
  rw [evenRow, evo_invs s _ (Nat.le_refl _), List.take_of_length_le (by rw [nums_len]; exact Nat.le_refl _)]
theorem cnt_swap (z x y : Int) (q : List Int) : cnt z (x :: y :: q) = cnt z (y :: x :: q) := by
  rw [cnt_cons, cnt_cons, cnt_cons, cnt_cons]; omega
theorem invs_swap {x y : Int} (h : x ≠ y) (q : List Int) : ∀ p : List Int, evB (invs (p ++ x :: y :: q)) = !evB (invs (p ++ y :: x :: q))
  | [] => by
    simp only [List.nil_append, invs, cnt_cons]
    rcases Int.lt_or_lt_of_ne h with h1 | h1
    · rw [if_neg (by omega), if_pos h1]
      rw [show cnt x q + 0 + (cnt y q + invs q) = cnt x q + cnt y q + invs q by omega, show cnt y q + 1 + (cnt x q + invs q) = (cnt x q + cnt y q + invs q) + 1 by omega, evB_succ, Bool.not_not]
    · rw [if_pos h1, if_neg (by omega)]
      rw [show cnt x q + 1 + (cnt y q + invs q) = (cnt x q + cnt y q + invs q) + 1 by omega, show cnt y q + 0 + (cnt x q + invs q) = cnt x q + cnt y q + invs q by omega, evB_succ]
  | z :: p => by
    have ih := invs_swap h q p
    have hc : cnt z (p ++ x :: y :: q) = cnt z (p ++ y :: x :: q) := by
      rw [cnt, cnt, List.countP_append, List.countP_append]
      congr 1
      exact cnt_swap z x y q
    have key : ∀ a b c : Nat, evB a = !evB b → evB (c + a) = !evB (c + b) := fun a b c e => by
      induction c with
      | zero => simpa using e
      | succ c ih => rw [Nat.add_right_comm, Nat.add_right_comm c 1 b, evB_succ, evB_succ, ih]
    rw [List.cons_append, List.cons_append, invs, invs, hc]
    exact key _ _ _ ih
theorem invs_set {l : List Int} {p : Nat} {x y : Int} (hx : l[p]? = some x) (hy : l[p + 1]? = some y) (h : x ≠ y) : evB (invs ((l.set p y).set (p + 1) x)) = !evB (invs l) := by
  have hp := (List.getElem?_eq_some_iff.1 hy).1
  have e1 : l = l.take p ++ x :: y :: l.drop (p + 2) := by
    conv => lhs; rw [← List.take_append_drop p l]
    congr 1
    rw [drop_someZ hx, drop_someZ hy]
  have e2 : (l.set p y).set (p + 1) x = l.take p ++ y :: x :: l.drop (p + 2) := by
    have ht : (l.take p).length = p := by rw [List.length_take]; omega
    conv => lhs; rw [e1]
    rw [List.set_append_right _ _ (by omega), ht, Nat.sub_self, List.set_cons_zero, List.set_append_right _ _ (by omega), ht, Nat.add_sub_cancel_left, List.set_cons_succ, List.set_cons_zero]
  rw [e2, invs_swap (fun e => h e.symm)]
  conv => rhs; rw [e1]
/-- How often the first k swaps turn. -/
theorem rowV_take {n : Nat} {sw : List Int} (hin : ∀ x ∈ sw, ((1 : Nat) : Int) ≤ x ∧ x < n) (hfar : sw.Pairwise fun x y => x + 2 ≤ y) {a : ByteArray} (ha : isRowL (nums a)) (hn : a.size = n) :
    ∀ k, k ≤ sw.length → evB (invs ((rowV n (sw.take k)).map fun z => PlainAid.bt a (z - 49).toNat)) = (evB (invs (nums a)) == evB k)
  | 0, _ => by
    have e : ((rowV n []).map fun z => PlainAid.bt a (z - 49).toNat) = nums a := by
      apply List.ext_getElem (by rw [List.length_map, rowV_len, nums_len, hn])
      intro i h1 h2
      simp only [rowV, List.getElem_map, List.getElem_range, nums]
      congr 1
      simp [cval]
      omega
    rw [List.take_zero, e]
    rcases evB (invs (nums a)) <;> rfl
  | k + 1, h => by
    have ih := rowV_take hin hfar ha hn k (by omega)
    have hy : sw[k]? = some sw[k] := List.getElem?_eq_getElem (by omega)
    have hyin := hin _ (List.mem_of_getElem? hy)
    obtain ⟨q, hq⟩ : ∃ q : Nat, sw[k] = (q : Int) + 1 := ⟨(sw[k] - 1).toNat, by omega⟩
    have hqn : q + 1 < n := by omega
    have hfr : ∀ x ∈ sw.take k, x + 2 ≤ ((q + 1 : Nat) : Int) := fun x hx => by have := take_far hfar hy x hx; omega
    have hpl := rowV_plain hqn hfr
    have ht : sw.take (k + 1) = sw.take k ++ [((q + 1 : Nat) : Int)] := by rw [take_succ_some hy, hq]; rfl
    rw [ht, rowV_step (p := q + 1) (by omega) hqn hfr, Nat.add_sub_cancel, List.map_set, List.map_set]
    have b1 : PlainAid.bt a ((49 + ((q + 1 : Nat) : Int)) - 49).toNat = PlainAid.bt a (q + 1) := by congr 1; omega
    have b2 : PlainAid.bt a ((48 + ((q + 1 : Nat) : Int)) - 49).toNat = PlainAid.bt a q := by congr 1; omega
    have b3 : PlainAid.bt a ((49 + (q : Int)) - 49).toNat = PlainAid.bt a q := by congr 1; omega
    have b4 : PlainAid.bt a ((49 + ((q : Int) + 1)) - 49).toNat = PlainAid.bt a (q + 1) := by congr 1; omega
    rw [b1, b2]
    have m1 : ((rowV n (sw.take k)).map fun z => PlainAid.bt a (z - 49).toNat)[q]? = some (PlainAid.bt a q) := by
      rw [List.getElem?_map, hpl.1]
      show some (PlainAid.bt a ((49 + (q : Int)) - 49).toNat) = _
      rw [b3]
    have m2 : ((rowV n (sw.take k)).map fun z => PlainAid.bt a (z - 49).toNat)[q + 1]? = some (PlainAid.bt a (q + 1)) := by
      rw [List.getElem?_map, hpl.2]
      show some (PlainAid.bt a ((49 + ((q : Int) + 1)) - 49).toNat) = _
      rw [b4]
    have hne : PlainAid.bt a q ≠ PlainAid.bt a (q + 1) := by
      have hp := ha.1
      rw [List.nodup_iff_pairwise_ne, List.pairwise_iff_getElem] at hp
      have := hp q (q + 1) (by rw [nums_len]; omega) (by rw [nums_len]; omega) (by omega)
      have h1 := nums_at (s := a) (k := q) (by omega); have h2 := nums_at (s := a) (k := q + 1) (by omega)
      rw [List.getElem?_eq_getElem (by rw [nums_len]; omega)] at h1 h2
      injection h1 with h1; injection h2 with h2
      rw [← h1, ← h2]; exact this
    rw [invs_set m1 m2 hne, ih, evB_succ]
    rcases evB (invs (nums a)) <;> rcases evB k <;> rfl
theorem sign_apply {a : ByteArray} (h : goodRow a = true) (c : ByteArray) : evenRow (applyR a c) = (evenRow a == evenSwaps a.size c) := by
  have hn := goodRow_n h
  have hr := goodRow_list h
  have h2 := rowL_times hr (by rw [chRow, nums_strOf (rowL_bytes (rowL_ch a.size c) (by rw [rowV_len]; omega))]; exact rowL_ch a.size c) (chRow_size a.size c).symm
  have e1 : nums (applyR a c) = (rowV a.size (swaps a.size c)).map fun z => PlainAid.bt a (z - 49).toNat := by
    rw [applyR, timesS, nums_strOf (rowL_bytes h2 (by rw [timesL_len, chRow_size]; omega)), timesL, chRow, nums_strOf (rowL_bytes (rowL_ch a.size c) (by rw [rowV_len]; omega))]
  have e2 := rowV_take (sws_in (stays c) a.size 1) (sws_far (stays c) a.size 1) hr rfl (swaps a.size c).length (Nat.le_refl _)
  rw [show sws (stays c) a.size 1 = swaps a.size c from rfl, List.take_of_length_le (Nat.le_refl _)] at e2
  rw [even_invs, e1, e2, even_invs]
  rfl
/-! products -/
theorem nums_times {a b : ByteArray} (h : goodRow a = true) (g : goodRow b = true) (e : a.size = b.size) : nums (timesS a b) = timesL a b := by
  have hn := goodRow_n h
  rw [timesS, nums_strOf (rowL_bytes (rowL_times (goodRow_list h) (goodRow_list g) e) (by rw [timesL_len]; omega))]
theorem times_assoc {a b c : ByteArray} (ha : goodRow a = true) (hb : goodRow b = true) (hc : goodRow c = true) (e1 : a.size = b.size) (e2 : b.size = c.size) : timesS a (timesS b c) = timesS (timesS a b) c := by
  suffices h : timesL a (timesS b c) = timesL (timesS a b) c by
    show strOfNums (timesL a (timesS b c)) = strOfNums (timesL (timesS a b) c)
    rw [h]
  show (nums (timesS b c)).map _ = (nums c).map _
  rw [nums_times hb hc e2, timesL, List.map_map]
  apply List.map_congr_left
  intro z hz
  have hz2 := (goodRow_list hc).2 z hz
  rw [nums_len] at hz2
  have hk : (z - 49).toNat < b.size := by omega
  have h1 := timesL_at (a := a) hk
  rw [← nums_times ha hb e1, nums_at (by rw [timesS, strOfNums_size, timesL_len]; exact hk)] at h1
  injection h1 with h1
  rw [h1]; rfl
theorem times_rounds {a : ByteArray} (h : goodRow a = true) : timesS a (roundsS a.size) = a := by
  have hn := goodRow_n h
  apply nums_inj
  rw [nums_times h (good_rounds _ (by omega) (by omega)) (rounds_size _ (by omega)).symm, timesL, rowV_nil _ (by omega)]
  apply List.ext_getElem (by rw [List.length_map, rowV_len, nums_len])
  intro i h1 h2
  simp only [rowV, List.getElem_map, List.getElem_range, nums]
  congr 1
  simp [cval]
  omega
theorem times_apply {a b : ByteArray} (ha : goodRow a = true) (hb : goodRow b = true) (e : a.size = b.size) (c : ByteArray) : timesS a (applyR b c) = applyR (timesS a b) c := by
  have hs : (timesS a b).size = b.size := by rw [timesS, strOfNums_size, timesL_len]
  rw [applyR, applyR, hs, times_assoc ha hb (good_ch (goodRow_n hb) c) e (chRow_size _ _).symm]
theorem sign_times_rAt {a : ByteArray} (ha : goodRow a = true) (l : List ByteArray) : ∀ k, evenRow (timesS a (rAt (roundsS a.size) l k)) = (evenRow a == evenRow (rAt (roundsS a.size) l k))
  | 0 => by
    rw [rAt, times_rounds ha]
    have : ∀ n, n < 9 → evenRow (roundsS n) = true := of_decide_eq_true (by kernel_rfl)
    rw [this _ (by have := goodRow_n ha; omega)]
    rcases evenRow a <;> rfl
  | k + 1 => by
    have hn := goodRow_n ha
    have hg := good_rAt (good_rounds a.size (by omega) (by omega)) l k
    have hs : (rAt (roundsS a.size) l k).size = a.size := by rw [rAt_size, rounds_size _ (by omega)]
    have ht : (timesS a (rAt (roundsS a.size) l k)).size = a.size := by rw [timesS, strOfNums_size, timesL_len, hs]
    rw [rAt, times_apply ha hg hs.symm, sign_apply (good_times ha hg hs.symm), sign_apply hg, sign_times_rAt ha l k, ht, hs]
    rcases evenRow a <;> rcases evenRow (rAt (roundsS a.size) l k) <;> rcases evenSwaps a.size _ <;> rfl
theorem sign_times_head {a : ByteArray} (ha : goodRow a = true) {l : List ByteArray} (x : ByteArray) (h : 0 < l.length) : evenRow (timesS a (headX a.size l x)) = (evenRow a == evenRow (headX a.size l x)) := by
  have := sign_times_rAt ha (l.set (l.length - 1) x) l.length
  rwa [headX_set h] at this
end Go.Proofs.Ytpccbmndgdiloaa
/- The sign of a touch, the reference's side. -/
namespace Go.Proofs.Ytpccbmndgdiloaa
set_option linter.unusedVariables false
set_option linter.unusedSimpArgs false
open Go.ChangeShapes Go.WideShapes Go.ChangeAt Go.RowKit Go.Deep
/-- The sign of the last head. -/
def tsV (nm : ByteArray) (st : Int) (l : List ByteArray) (kb ks t : ByteArray) : Bool := if goodF nm st l kb ks t = true then evenRow (hdAt st.toNat l kb ks t t.size) else false
theorem tsV_f {nm : ByteArray} {st : Int} {l : List ByteArray} {kb ks t : ByteArray} (h : goodF nm st l kb ks t = false) : tsV nm st l kb ks t = false := by rw [tsV, if_neg (by rw [h]; simp)]
theorem tsV_t {nm : ByteArray} {st : Nat} {l : List ByteArray} {kb ks t : ByteArray} (h : goodF nm (st : Int) l kb ks t = true) : tsV nm st l kb ks t = evenRow (hdAt st l kb ks t t.size) := by rw [tsV, if_pos h]; rfl
theorem goodF_t {nm : ByteArray} {st : Int} {l : List ByteArray} {kb ks t : ByteArray} (h : goodF nm st l kb ks t = true) : goodK nm st l kb ks = true ∧ goodT t = true := by
  rw [goodF, Bool.and_eq_true] at h; exact h
theorem ev_step {nm : ByteArray} {st : Nat} {l : List ByteArray} {kb ks t : ByteArray} (h : goodK nm (st : Int) l kb ks = true) (k : Nat) :
    evenRow (hdAt st l kb ks t (k + 1)) = (evenRow (hdAt st l kb ks t k) == evenRow (callHd st l kb ks (letter t k))) := by
  obtain ⟨h8, h40, _⟩ := goodK_all h
  have g := hdAt_good h8.1 h8.2 l kb ks t k
  have e := sign_times_head g.1 (chOf l kb ks (letter t k)) (l := l) (by omega)
  rw [g.2] at e
  exact e
theorem ev_zero {st : Nat} (h : 3 ≤ st) (h8 : st ≤ 8) (l : List ByteArray) (kb ks t : ByteArray) : evenRow (hdAt st l kb ks t 0) = true := by
  rw [hdAt]
  have : ∀ n : Nat, n < 9 → 3 ≤ n → evenRow (roundsS n) = true := by decide +kernel
  exact this st (by omega) h
set_option maxHeartbeats 2000000 in
set_option maxRecDepth 100000 in
theorem spec_TouchSign {A : Option Addr} {n c : Nat} {nm : ByteArray} {st : Int} {l : List ByteArray} {kb ks : ByteArray} {t : ByteArray} {w : World} (hn : l.length = n) (h : Strs w A l) (hz : n ≤ 1048576) (hs : ∀ s ∈ l, s.size ≤ 16777216) (hnm : nm.size ≤ 16777216) (hst : I64 st) (hkb : kb.size ≤ 16777216) (hks : ks.size ≤ 16777216) (hcap : n ≤ c) (ht : t.size ≤ 16777216) :
    Calls Try.prog 11 #[.agg #[.string nm, .int .i64 st, .slice A n c], .agg #[.string kb, .string ks], .string t] w fun e w' => e = .returned (.tuple #[.bool (tsV nm st l kb ks t), .bool (goodF nm st l kb ks t)]) ∧ Below w.heap.size w w' := by
  have HQ : Hid (goodF nm st l kb ks t = (goodK nm st l kb ks && goodT t)) := Lib.hid rfl
  have b0 : Below w.heap.size w ((w.alloc (.cells ⟨[.string nm, .int .i64 st, .slice A n c]⟩ 26)).alloc (.cells ⟨[.string kb, .string ks]⟩ 28)) := by (repeat' (first | (with_reducible exact Below.refl _ _) | (with_reducible assumption) | (with_reducible refine below_drewN ?_ _) | (with_reducible refine Below.drew ?_) | (with_reducible refine below_alloc ?_ _) | (with_reducible refine Below.alloc ?_ ?_ _) | (with_reducible refine Below.setCell ?_ ?_ _) | (with_reducible refine below_go ?_ (by with_reducible assumption)) | (with_reducible refine below_then (by with_reducible assumption) ?_ ?_) | go_size))
  have gb := PlainAid.get_bt t
  go_in
  go_wp2_with fail
  refine (spec_l18Leads hn (h.up b0) hz hs hnm hst hkb hks hcap).mono ?_; rintro e w1 ⟨A1, c1, rfl, ho1, hl1, hb1⟩
  have hB1 := below_go b0 hb1
  rcases hk : goodK nm st l kb ks
  · have e2 := Lib.hid (show goodF nm st l kb ks t = false by rw [HQ.out, hk]; rfl)
    have e1 := Lib.hid (tsV_f e2.out)
    go_wp2
    go_ret2
    rw [e1.out, e2.out]
    exact ⟨rfl, hB1⟩
  · rcases hg : goodT t
    · have e2 := Lib.hid (show goodF nm st l kb ks t = false by rw [HQ.out, hk, hg]; rfl)
      have e1 := Lib.hid (tsV_f e2.out)
      go_wp2_with fail
      refine (spec_GoodTouch ht).mono ?_; rw [hg]; rintro e w' ⟨rfl, rfl⟩
      go_wp2
      go_ret2
      rw [e1.out, e2.out]
      exact ⟨rfl, hB1⟩
    · obtain ⟨m, rfl⟩ : ∃ m : Nat, st = (m : Int) := ⟨st.toNat, by
        have := (goodM_t (goodK_t hk).1).2.1
        omega⟩
      have e2 := Lib.hid (show goodF nm m l kb ks t = true by rw [HQ.out, hk, hg]; rfl)
      have e1 := Lib.hid (tsV_t e2.out)
      have eL := lsR_t hk
      rw [eL] at ho1
      have HL : Hid ((lsR nm m l kb ks).length = 3) := Lib.hid (by rw [eL]; rfl)
      rw [show ((hds3 m l kb ks).map evenRow).length = 3 from rfl] at ho1
      clear eL
      obtain ⟨g, rfl, g0, g1, gc, _⟩ := ho1.at_ (by omega)
      have d0 := gc 0 _ 0 _ (by rfl : ((hds3 m l kb ks).map evenRow)[0]? = some (evenRow (callHd m l kb ks ⟨#[112]⟩))) rfl
      have d1 := gc 1 _ 0 _ (by rfl : ((hds3 m l kb ks).map evenRow)[1]? = some (evenRow (callHd m l kb ks ⟨#[98]⟩))) rfl
      have d2 := gc 2 _ 0 _ (by rfl : ((hds3 m l kb ks).map evenRow)[2]? = some (evenRow (callHd m l kb ks ⟨#[115]⟩))) rfl
      simp only [Nat.mul_one, Nat.add_zero, Nat.zero_mul, Nat.one_mul] at d0 d1 d2
      clear gc
      have HS := Lib.hid (fun k => ev_step (t := t) hk k)
      have HZ := Lib.hid (ev_zero (goodK_all hk).1.1 (goodK_all hk).1.2 l kb ks t)
      have HG := Lib.hid (goodT_t hg).2.2
      have h60 := (goodT_t hg).2.1
      rw [HL.out]
      go_wp2_with fail
      refine (spec_GoodTouch ht).mono ?_; rw [hg]; rintro e w' ⟨rfl, rfl⟩
      go_wp2
      go_loopw [10, 11] (fun v i wr => ∃ k : Nat, k ≤ t.size ∧ i = .int .i64 k ∧ v = .bool (evenRow (hdAt m l kb ks t k)) ∧ w1 = wr) (fun _ i _ => t.size - (intOf i).toNat)
      case atStart => exact ⟨0, Nat.zero_le _, rfl, by rw [HZ.out], rfl⟩
      case round =>
        obtain ⟨k, hk1, rfl, rfl, rfl⟩ := hrel
        by_cases hlt : k < t.size
        · have hcb := HG.out k hlt
          have step := HS.out k
          by_cases f1 : PlainAid.bt t k = 98
          · rw [letter_b hlt f1] at step
            have ST := Lib.hid step
            clear step hcb
            rcases hv : evenRow (callHd m l kb ks ⟨#[98]⟩)
            · rcases hu : evenRow (hdAt m l kb ks t k) <;> skip
              all_goals
                have e3 := ST.out
                rw [hu, hv] at e3
                have E3 := Lib.hid e3
                clear e3
                rw [hv] at d1
                go_wp2
                go_roundw
                case rel => exact ⟨k + 1, by omega, by go_num, by rw [E3.out]; rfl, trivial⟩
                case measure => simp [intOf]; omega
            · have e3 := ST.out
              rw [hv] at e3
              have E3 := Lib.hid (show evenRow (hdAt m l kb ks t (k + 1)) = evenRow (hdAt m l kb ks t k) by rw [e3]; cases evenRow (hdAt m l kb ks t k) <;> rfl)
              clear e3
              rw [hv] at d1
              go_wp2
              go_roundw
              case rel => exact ⟨k + 1, by omega, by go_num, by rw [E3.out], trivial⟩
              case measure => simp [intOf]; omega
          · by_cases f2 : PlainAid.bt t k = 115
            · rw [letter_s hlt f2] at step
              have ST := Lib.hid step
              clear step hcb
              rcases hv : evenRow (callHd m l kb ks ⟨#[115]⟩)
              · rcases hu : evenRow (hdAt m l kb ks t k) <;> skip
                all_goals
                  have e3 := ST.out
                  rw [hu, hv] at e3
                  have E3 := Lib.hid e3
                  clear e3
                  rw [hv] at d2
                  go_wp2
                  go_roundw
                  case rel => exact ⟨k + 1, by omega, by go_num, by rw [E3.out]; rfl, trivial⟩
                  case measure => simp [intOf]; omega
              · have e3 := ST.out
                rw [hv] at e3
                have E3 := Lib.hid (show evenRow (hdAt m l kb ks t (k + 1)) = evenRow (hdAt m l kb ks t k) by rw [e3]; cases evenRow (hdAt m l kb ks t k) <;> rfl)
                clear e3
                rw [hv] at d2
                go_wp2
                go_roundw
                case rel => exact ⟨k + 1, by omega, by go_num, by rw [E3.out], trivial⟩
                case measure => simp [intOf]; omega
            · have f3 : PlainAid.bt t k = 112 := by
                rw [callB] at hcb
                simpa [f1, f2] using hcb
              rw [letter_p hlt f3] at step
              have ST := Lib.hid step
              clear step hcb
              rcases hv : evenRow (callHd m l kb ks ⟨#[112]⟩)
              · rcases hu : evenRow (hdAt m l kb ks t k) <;> skip
                all_goals
                  have e3 := ST.out
                  rw [hu, hv] at e3
                  have E3 := Lib.hid e3
                  clear e3
                  rw [hv] at d0
                  go_wp2
                  go_roundw
                  case rel => exact ⟨k + 1, by omega, by go_num, by rw [E3.out]; rfl, trivial⟩
                  case measure => simp [intOf]; omega
              · have e3 := ST.out
                rw [hv] at e3
                have E3 := Lib.hid (show evenRow (hdAt m l kb ks t (k + 1)) = evenRow (hdAt m l kb ks t k) by rw [e3]; cases evenRow (hdAt m l kb ks t k) <;> rfl)
                clear e3
                rw [hv] at d0
                go_wp2
                go_roundw
                case rel => exact ⟨k + 1, by omega, by go_num, by rw [E3.out], trivial⟩
                case measure => simp [intOf]; omega
        · obtain rfl : k = t.size := by omega
          go_wp2
          go_ret2
          rw [e1.out, e2.out]
          exact ⟨rfl, hB1⟩
end Go.Proofs.Ytpccbmndgdiloaa
/- The sign of a touch, the program's side. -/
namespace Go.Proofs.Ytpccbmndgdiloaa
set_option linter.unusedVariables false
set_option linter.unusedSimpArgs false
open Go.ChangeShapes Go.WideShapes Go.ChangeAt Go.RowKit Go.Deep
set_option maxRecDepth 100000 in
theorem impl_touchEnd {A : Option Addr} {n c st : Nat} {nm : ByteArray} {l : List ByteArray} {kb ks : ByteArray} {t : ByteArray} {w : World} (hn : l.length = n) (h : Strs w A l) (hk : goodK nm (st : Int) l kb ks = true) (hg : goodT t = true) :
    Calls Try.prog 72 #[.agg #[.string nm, .int .i64 st, .slice A n c], .agg #[.string kb, .string ks], .string t] w fun e w' => e = .returned (.string (hdAt st l kb ks t t.size)) ∧ Below w.heap.size w w' := by
  have b0 : Below w.heap.size w ((w.alloc (.cells ⟨[.string nm, .int .i64 st, .slice A n c]⟩ 26)).alloc (.cells ⟨[.string kb, .string ks]⟩ 28)) := by (repeat' (first | (with_reducible exact Below.refl _ _) | (with_reducible assumption) | (with_reducible refine below_drewN ?_ _) | (with_reducible refine Below.drew ?_) | (with_reducible refine below_alloc ?_ _) | (with_reducible refine Below.alloc ?_ ?_ _) | (with_reducible refine Below.setCell ?_ ?_ _) | (with_reducible refine below_go ?_ (by with_reducible assumption)) | (with_reducible refine below_then (by with_reducible assumption) ?_ ?_) | go_size))
  have h60 := (goodT_t hg).2.1
  go_in
  go_wp2_with fail
  refine (impl_heads hn (h.up b0) hk hg).mono ?_; rintro e w1 ⟨A1, c1, rfl, ho, hb1⟩
  obtain ⟨g, rfl, _, _, gc, _⟩ := ho.at_ (by omega)
  have cg := gc t.size _ 0 _ (hdsL_at (Nat.lt_succ_self _)) rfl
  simp only [Nat.mul_one, Nat.add_zero] at cg
  clear gc
  go_wp2
  go_ret
  exact ⟨rfl, below_go b0 hb1⟩
theorem impl_touchSign {A : Option Addr} {n c st : Nat} {nm : ByteArray} {l : List ByteArray} {kb ks : ByteArray} {t : ByteArray} {w : World} (hn : l.length = n) (h : Strs w A l) (hk : goodK nm (st : Int) l kb ks = true) (hg : goodT t = true) :
    Calls Try.prog 69 #[.agg #[.string nm, .int .i64 st, .slice A n c], .agg #[.string kb, .string ks], .string t] w fun e w' => e = .returned (.bool (evenRow (hdAt st l kb ks t t.size))) ∧ Below w.heap.size w w' := by
  have b0 : Below w.heap.size w ((w.alloc (.cells ⟨[.string nm, .int .i64 st, .slice A n c]⟩ 26)).alloc (.cells ⟨[.string kb, .string ks]⟩ 28)) := by (repeat' (first | (with_reducible exact Below.refl _ _) | (with_reducible assumption) | (with_reducible refine below_drewN ?_ _) | (with_reducible refine Below.drew ?_) | (with_reducible refine below_alloc ?_ _) | (with_reducible refine Below.alloc ?_ ?_ _) | (with_reducible refine Below.setCell ?_ ?_ _) | (with_reducible refine below_go ?_ (by with_reducible assumption)) | (with_reducible refine below_then (by with_reducible assumption) ?_ ?_) | go_size))
  have p := hdAt_good (goodK_all hk).1.1 (goodK_all hk).1.2 l kb ks t t.size
  have h8 := (goodK_all hk).1.2
  have hz : (hdAt st l kb ks t t.size).size ≤ 16777216 := by rw [p.2]; omega
  clear p
  go_in
  go_wp2_with fail
  refine (impl_touchEnd hn (h.up b0) hk hg).mono ?_; rintro e w1 ⟨rfl, hb1⟩
  go_wp2_with fail
  refine (impl_even hz).mono ?_; rintro e w2 ⟨rfl, hb2⟩
  go_wp2
  go_ret
  exact ⟨rfl, below_go (below_go b0 hb1) hb2⟩
set_option maxHeartbeats 1000000 in
theorem impl_TouchSign {A : Option Addr} {n c : Nat} {nm : ByteArray} {st : Int} {l : List ByteArray} {kb ks : ByteArray} {t : ByteArray} {w : World} (hn : l.length = n) (h : Strs w A l) (hz : n ≤ 1048576) (hs : ∀ s ∈ l, s.size ≤ 16777216) (hnm : nm.size ≤ 16777216) (hst : I64 st) (hkb : kb.size ≤ 16777216) (hks : ks.size ≤ 16777216) (ht : t.size ≤ 16777216) :
    Calls Try.prog 10 #[.agg #[.string nm, .int .i64 st, .slice A n c], .agg #[.string kb, .string ks], .string t] w fun e w' => e = .returned (.tuple #[.bool (tsV nm st l kb ks t), .bool (goodF nm st l kb ks t)]) ∧ Below w.heap.size w w' := by
  have b0 : Below w.heap.size w ((w.alloc (.cells ⟨[.string nm, .int .i64 st, .slice A n c]⟩ 26)).alloc (.cells ⟨[.string kb, .string ks]⟩ 28)) := by (repeat' (first | (with_reducible exact Below.refl _ _) | (with_reducible assumption) | (with_reducible refine below_drewN ?_ _) | (with_reducible refine Below.drew ?_) | (with_reducible refine below_alloc ?_ _) | (with_reducible refine Below.alloc ?_ ?_ _) | (with_reducible refine Below.setCell ?_ ?_ _) | (with_reducible refine below_go ?_ (by with_reducible assumption)) | (with_reducible refine below_then (by with_reducible assumption) ?_ ?_) | go_size))
  have K0 := (Blk.at_ w 26 [.string nm, .int .i64 st, .slice A n c] (b := w.heap.size) rfl).alloc (.cells ⟨[.string kb, .string ks]⟩ 28)
  have K1 := Blk.at_ (w.alloc (.cells ⟨[.string nm, .int .i64 st, .slice A n c]⟩ 26)) 28 [.string kb, .string ks] (b := w.heap.size + 1) (by simp)
  go_in
  go_wp2_with fail
  obtain ⟨w0, hw0⟩ : ∃ u, u = ((w.alloc (.cells #[.string nm, .int .i64 st, .slice A n c] 26)).alloc (.cells #[.string kb, .string ks] 28)) := ⟨_, rfl⟩
  rw [← hw0] at b0 K0 K1 ⊢
  clear hw0
  refine (impl_goodFor hn (h.up b0) hz hs hnm hst hkb hks ht).mono ?_; rintro e w1 ⟨rfl, hb1⟩
  have hB1 := below_go b0 hb1
  rcases hf : goodF nm st l kb ks t
  · have e2 := Lib.hid hf
    have e1 := Lib.hid (tsV_f hf)
    go_wp2
    go_ret2
    rw [e1.out, e2.out]
    exact ⟨rfl, hB1⟩
  · obtain ⟨hk, hg⟩ := goodF_t hf
    obtain ⟨m, rfl⟩ : ∃ m : Nat, st = (m : Int) := ⟨st.toNat, by
      have := (goodM_t (goodK_t hk).1).2.1
      omega⟩
    have e2 := Lib.hid hf
    have e1 := Lib.hid (tsV_t hf)
    have L0 := K0.up hb1; have L1 := K1.up hb1
    have k0 := L0.cell 0; have k1 := L0.cell 1; have k2 := L0.cell 2; have q0 := L1.cell 0; have q1 := L1.cell 1
    simp only [List.getElem?_cons_zero, List.getElem?_cons_succ] at k0 k1 k2 q0 q1
    go_wp2_with fail
    refine (impl_touchSign hn (h.up hB1) hk hg).mono ?_; rintro e w2 ⟨rfl, hb2⟩
    go_wp2
    go_ret2
    rw [e1.out, e2.out]
    exact ⟨rfl, below_go hB1 hb2⟩
end Go.Proofs.Ytpccbmndgdiloaa
