/- Texts 4 of 9 that the claim leans on: plain laws and the walks' contracts, in order. -/
import Derived.Test.YtidolgonmimicaaGreatMSearch3
import Derived.Deep.Cut
set_option linter.unusedVariables false
set_option linter.unusedSimpArgs false
namespace Go.Proofs.YtidolgonmimicaaGreat
open Go.ChangeShapes Go.WideShapes Go.ChangeAt Go.RowKit Go.Deep
def MSt (w u : World) (p : Nat) (A : Option Addr) (n c a b : Nat) (nm : ByteArray) (st : Int) (v : Value) : Prop :=
 Blk u b 25 [.string nm, .int .i64 st, v] ∧ Cur u p A n c a ∧ (∃ x y z, Blk u w.heap.size 25 [x, y, z]) ∧ w.grownBy u (some p) ∧ p < w.heap.size ∧ w.heap.size < b
section
variable {w u u' : World} {p n c a a' b : Nat} {A : Option Addr} {nm : ByteArray} {st : Int} {v v' : Value}
theorem MSt.mono (h : MSt w u p A n c a b nm st v) (ha : a ≤ a') : MSt w u p A n c a' b nm st v := ⟨h.1, h.2.1.mono ha, h.2.2⟩
theorem MSt.draw (h : MSt w u p A n c a b nm st v) (hg : u.grownBy u' (some p)) (hc : Cur u' p A n c a') : MSt w u' p A n c a' b nm st v := by
 obtain ⟨h1, _, ⟨x, y, z, h3⟩, h4, h5, h6⟩ := h
 exact ⟨h1.grown hg (fun e => by injection e with e; omega), hc, ⟨x, y, z, h3.grown hg (fun e => by injection e with e; omega)⟩, grownBy_trans h4 hg, h5, h6⟩
theorem MSt.grown {row : Option Nat} (h : MSt w u p A n c a b nm st v) (hg : u.grownBy u' row) (hr : ∀ k, row = some k → b < k) : MSt w u' p A n c a b nm st v := by
 obtain ⟨h1, h2, ⟨x, y, z, h3⟩, h4, h5, h6⟩ := h
 exact ⟨h1.grown hg (fun e => by have := hr b e.symm; omega), h2.grown hg (fun e => by have := hr p e.symm; omega), ⟨x, y, z, h3.grown hg (fun e => by have := hr _ e.symm; omega)⟩, grow_own h4 hg (fun k e => by have := hr k e; omega), h5, h6⟩
theorem MSt.up (h : MSt w u p A n c a b nm st v) (hb : Below u.heap.size u u') : MSt w u' p A n c a b nm st v := h.grown (grown_of_below hb) (fun k e => by cases e)
theorem MSt.alloc (h : MSt w u p A n c a b nm st v) (o : Obj) : MSt w (u.alloc o) p A n c a b nm st v := h.up ((Below.refl _ _).alloc (Nat.le_refl _) o)
theorem MSt.drew (h : MSt w u p A n c a b nm st v) : MSt w u.drew p A n c a b nm st v := h.up (below_drewN (Below.refl _ _) 1)
theorem MSt.put (h : MSt w u p A n c a b nm st v) : MSt w (u.setCell ⟨b, 2, none⟩ v') p A n c a b nm st v' := by
 obtain ⟨h1, h2, ⟨x, y, z, h3⟩, h4, h5, h6⟩ := h
 have hg : u.grownBy (u.setCell ⟨b, 2, none⟩ v') (some b) := only_set u (p := ⟨b, 2, none⟩) v'
 exact ⟨h1.set_ 2 v', h2.grown hg (fun e => by injection e with e; omega), ⟨x, y, z, h3.grown hg (fun e => by injection e with e; omega)⟩, grow_own h4 hg (fun k e => by injection e with e; omega), h5, h6⟩
theorem own_put {u : World} {b base m d : Nat} {B : Option Addr} {l : List ByteArray} {v' : Value} (ho : Owned strE 1 9 u base B m d l) (hb : b < base) : Owned strE 1 9 (u.setCell ⟨b, 2, none⟩ v') base B m d l :=
 ho.past (only_set u (p := ⟨b, 2, none⟩) v') hb
theorem strs_grown {w w' : World} {b o : Nat} {l : List ByteArray} {row : Option Nat} (h : Strs w (some ⟨b, o, none⟩) l) (hg : w.grownBy w' row) (hne : some b ≠ row) : Strs w' (some ⟨b, o, none⟩) l := by
 refine ⟨h.1, h.2.1, fun hn => ?_⟩
 obtain ⟨b', o', hA, hb, hc⟩ := h.2.2 hn
 injection hA with hA
 injection hA with e1 e2 _
 subst e1 e2
 exact ⟨b, o, rfl, Nat.lt_of_lt_of_le hb hg.size, fun j u hu => (hg.cell_far ⟨b, o + j, none⟩ hb hne).trans (hc j u hu)⟩
end
theorem good_snoc {st : Int} {L : List ByteArray} {x : ByteArray} (h : ∀ y ∈ L, goodChange st y = true) (hx : goodChange st x = true) : ∀ y ∈ L ++ [x], goodChange st y = true := fun y hy => by
 rcases List.mem_append.1 hy with hy | hy
 ·exact h y hy
 ·rw [List.mem_singleton.1 hy]; exact hx
set_option maxHeartbeats 4000000 in
set_option maxRecDepth 100000 in
theorem cur_method {A : Option Addr} {n c a p : Nat} {w0 w : World} (hS : Src w0 A n) (hb : Below w0.heap.size w0 w) (hp : w0.heap.size ≤ p) (hc : Cur w p A n c a) (ha : a ≤ 1000000) :
  Calls Tryz.prog 180 #[.pointer (some ⟨p, 0, none⟩)] w fun e w' => ∃ (nm : ByteArray) (st : Nat) (A' : Option Addr) (m c' : Nat) (L : List ByteArray), e = .returned (.agg #[.string nm, .int .i64 st, .slice A' m c']) ∧ goodM nm st L = true ∧ 3 ≤ st ∧ st ≤ 6 ∧ m ≤ 12 ∧ Owned strE 1 9 w' w.heap.size A' m c' L ∧ Cur w' p A n c (a + 100) ∧ w.grownBy w' (some p) := by
 have hpw := hc.lt
 have R0 := Blk.at_ w 25 [.string ⟨#[]⟩, .int .i64 0, .slice none 0 0] (b := w.heap.size) rfl
 have b0 : Below w.heap.size w (w.alloc (.cells #[.string ⟨#[]⟩, .int .i64 0, .slice none 0 0] 25)) := by (repeat' (first | (with_reducible exact Below.refl _ _) | (with_reducible assumption) | (with_reducible refine below_drewN ?_ _) | (with_reducible refine Below.drew ?_) | (with_reducible refine below_alloc ?_ _) | (with_reducible refine Below.alloc ?_ ?_ _) | (with_reducible refine Below.setCell ?_ ?_ _) | (with_reducible refine below_go ?_ (by with_reducible assumption)) | (with_reducible refine below_then (by with_reducible assumption) ?_ ?_) | go_size))
 have G : Hid (∀ u : World, w.grownBy u (some p) → Below w0.heap.size w0 u) := Lib.hid (fun u hg => grown_below hb hp hg)
 have HS := Lib.hid hS
 clear hS hb
 go_in
 go_wp2_with fail
 obtain ⟨w1, hw1⟩ : ∃ u, u = w.alloc (.cells #[.string ⟨#[]⟩, .int .i64 0, .slice none 0 0] 25) := ⟨_, rfl⟩
 have z1 : w1.heap.size = w.heap.size + 1 := by rw [hw1]; simp
 rw [← hw1] at b0 ⊢
 have R1 : Blk w1 w.heap.size 25 [.string ⟨#[]⟩, .int .i64 0, .slice none 0 0] := by rw [hw1]; exact R0
 clear hw1 R0
 have hl1 := lit_ints w1 3 [4, 4, 5, 6, 6, 3]
 rw [z1] at hl1
 have a1 : ∀ o : Obj, Below w1.heap.size w1 (w1.alloc o) := fun o => (Below.refl _ _).alloc (Nat.le_refl _) o
 refine (cur_among HS.out (G.out _ (grown_any (below_go b0 (a1 _)) _)) hp ((hc.up b0).up (a1 _)) (by omega) rfl hl1 (by decide) (by decide) (fun b o e => by injection e with e; injection e with e; omega)).mono ?_; rintro e w2 ⟨x, hx, rfl, hc2, hg2⟩
 have g2 : w.grownBy w2 (some p) := grownBy_trans (grown_any (below_go b0 (a1 _)) _) hg2
 have R2 := (R1.up (a1 _)).grown hg2 (fun e => by injection e with e; omega)
 have s2 : w.heap.size + 1 ≤ w2.heap.size := by have := hg2.size; simp at this; omega
 simp only [List.mem_cons, List.not_mem_nil, or_false] at hx
 obtain ⟨st, rfl⟩ : ∃ st : Nat, x = (st : Int) := ⟨x.toNat, by omega⟩
 have hst : 3 ≤ st ∧ st ≤ 6 := by omega
 clear hx hl1 a1 hg2 R1 hc b0
 go_wp2_with fail
 have hl2 := lit_strs2 w2 9 [⟨#[97]⟩, ⟨#[112, 108, 97, 105, 110]⟩, ⟨#[98, 111, 98]⟩, ⟨#[108, 105, 116, 116, 108, 101]⟩]
 have a2 : ∀ o : Obj, Below w2.heap.size w2 (w2.alloc o) := fun o => (Below.refl _ _).alloc (Nat.le_refl _) o
 refine (cur_of HS.out (G.out _ (grownBy_trans g2 (grown_any (a2 _) _))) hp (hc2.up (a2 _)) (by omega) rfl hl2 (by decide) (by decide) (fun b o e => by injection e with e; injection e with e; omega)).mono ?_; rintro e w3 ⟨nm, hnm, rfl, hc3, hg3⟩
 have g3 : w.grownBy w3 (some p) := grownBy_trans (grownBy_trans g2 (grown_any (a2 _) _)) hg3
 have R3 := (R2.up (a2 _)).grown hg3 (fun e => by injection e with e; omega)
 have s3 : w.heap.size + 1 ≤ w3.heap.size := by have := hg3.size; simp at this; omega
 have hok : nameOk nm = true := by
  simp only [List.mem_cons, List.not_mem_nil, or_false] at hnm
  rcases hnm with rfl | rfl | rfl | rfl <;> decide +kernel
 clear hnm hl2 a2 hg3 R2 hc2 g2
 have K3 := Blk.at_ w3 25 [.string nm, .int .i64 (st : Int), .slice none 0 0] (b := w3.heap.size) rfl
 have a3 : Below w3.heap.size w3 (w3.alloc (.cells #[.string nm, .int .i64 (st : Int), .slice none 0 0] 25)) := by (repeat' (first | (with_reducible exact Below.refl _ _) | (with_reducible assumption) | (with_reducible refine below_drewN ?_ _) | (with_reducible refine Below.drew ?_) | (with_reducible refine below_alloc ?_ _) | (with_reducible refine Below.alloc ?_ ?_ _) | (with_reducible refine Below.setCell ?_ ?_ _) | (with_reducible refine below_go ?_ (by with_reducible assumption)) | (with_reducible refine below_then (by with_reducible assumption) ?_ ?_) | go_size))
 have M3 : MSt w (w3.alloc (.cells #[.string nm, .int .i64 (st : Int), .slice none 0 0] 25)) p A n c (a + 1 + 1) w3.heap.size nm st (.slice none 0 0) := ⟨K3, hc3.up a3, ⟨_, _, _, R3.up a3⟩, grownBy_trans g3 (grown_any a3 _), hpw, by omega⟩
 have fin : Hid (∀ (u v : World) (A' : Option Addr) (m c' : Nat) (L : List ByteArray), w.grownBy u (some p) → Cur u p A n c (a + 90) → Owned strE 1 9 u (w3.heap.size + 1) A' m c' L → 1 ≤ m → m ≤ 12 → (∀ x ∈ L, goodChange st x = true) → u.grownBy v (some w.heap.size) → ∃ (nm' : ByteArray) (st' : Nat) (A'' : Option Addr) (m' c'' : Nat) (L' : List ByteArray), Ending.returned (Value.agg #[.string nm, .int .i64 (st : Int), .slice A' m c']) = .returned (.agg #[.string nm', .int .i64 (st' : Int), .slice A'' m' c'']) ∧ goodM nm' st' L' = true ∧ 3 ≤ st' ∧ st' ≤ 6 ∧ m' ≤ 12 ∧ Owned strE 1 9 v w.heap.size A'' m' c'' L' ∧ Cur v p A n c (a + 100) ∧ w.grownBy v (some p)) := Lib.hid (fun u v A' m c' L h1 h2 h3 h4 h5 h6 h7 =>
  ⟨nm, st, A', m, c', L, rfl, goodM_of hok hst.1 (by omega) (by rw [h3.len]; exact h4) (by rw [h3.len]; omega) h6, hst.1, hst.2, h5, (h3.past h7 (by omega)).base_le (by omega), (h2.grown h7 (fun e => by injection e with e; omega)).mono (by omega), grow_own h1 h7 (fun k e => by injection e with e; omega)⟩)
 clear K3 a3 R3 g3 hc3
 by_cases h4 : 4 ≤ st
 ·have hI4 : (4 : Int) ≤ (st : Int) := by omega
  go_wp2_with fail
  obtain ⟨w4, hw4⟩ : ∃ u, u = w3.alloc (.cells #[.string nm, .int .i64 (st : Int), .slice none 0 0] 25) := ⟨_, rfl⟩
  rw [← hw4] at M3 ⊢
  clear hw4
  refine (cur_one HS.out (G.out _ M3.2.2.2.1) hp M3.2.1 (by omega) (by decide) (by decide)).mono ?_; rintro e w5 ⟨b1, rfl, hc5, hg5⟩
  have HM5 := Lib.hid (M3.draw hg5 hc5)
  clear hc5 hg5 M3
  rcases b1
  ·skip
   go_wp2_with fail
   refine (cur_one HS.out (G.out _ HM5.out.2.2.2.1) hp HM5.out.2.1 (by omega) (by decide) (by decide)).mono ?_; rintro e w6 ⟨b2, rfl, hc6, hg6⟩
   have HM6 := Lib.hid (HM5.out.draw hg6 hc6)
   clear hc6 hg6
   rcases b2
   ·go_wp2_with fail
    refine (cur_pick HS.out (G.out _ HM6.out.2.2.2.1) hp HM6.out.2.1 (by omega) (by decide) (by decide)).mono ?_; rintro e w7 ⟨x, rfl, ⟨x0, x1⟩, hc7, hg7⟩
    have HM7 := Lib.hid (HM6.out.draw hg7 hc7)
    obtain ⟨X, rfl⟩ := Int.eq_ofNat_of_zero_le x0
    have hX : X ≤ 7 := by omega
    clear hc7 hg7 x0 x1
    go_wp2
    go_loopw [9] (fun i wr => ∃ (k m : Nat) (A' : Option Addr) (c' : Nat) (L : List ByteArray), k + m = X + 1 ∧ i = .int .i64 k ∧ Hid (MSt w wr p A n c (a + 10 + m) w3.heap.size nm st (.slice A' m c')) ∧ Hid (Owned strE 1 9 wr (w3.heap.size + 1) A' m c' L) ∧ Hid (∀ x ∈ L, goodChange st x = true) ∧ w3.heap.size < wr.heap.size) (fun i _ => (intOf i).toNat)
    case atStart => exact ⟨X + 1, 0, none, 0, [], rfl, by go_num, Lib.hid (HM7.out.mono (by omega)), Lib.hid (Owned.nil strE_len _ _ _), Lib.hid (fun s hs => by cases hs), HM7.out.1.lt⟩
    case round =>
     obtain ⟨k, m, A2, c2, L, hkm, rfl, HM, HO, HZ, hbr⟩ := hrel
     rename World => wr
     by_cases h0 : 0 < k
     ·have hI : (0 : Int) < (k : Int) := by omega
      have hOl := HO.out.len
      go_upto_region 6 with fail
      obtain ⟨K1, _, _, _, K5, K6⟩ := HM.out
      have d2 := K1.cell 2; have e2 := K1.frozen 2
      simp only [List.getElem?_cons_zero, List.getElem?_cons_succ] at d2
      clear K1
      refine wp_region_any (by kernel_rfl) ?_
      (try (change wpAny _ _ _ _ _ _ _ (World.drew _)))
      refine wpAny_take (i := 0) (oi := { dst := some 25, op := _, type := _, pos := _, after := _, guard := _ }) (v := ?_) rfl (by kernel_rfl) (by kernel_rfl) (by kernel_rfl) (fun _ _ _ h => h) (Or.inl ⟨by rfl, ?_⟩) ?_
      rotate_left
      ·(intro w; go_simp) <;> with_reducible rfl
      (try simp only [Act.put, List.setIfInBounds_toArray, List.set_cons_zero, List.set_cons_succ])
      refine wpAny_take (i := 2) (oi := { dst := some 27, op := _, type := _, pos := _, after := _, guard := _ }) (v := ?_) rfl (by kernel_rfl) (by kernel_rfl) (by kernel_rfl) (fun _ _ _ h => h) (Or.inl ⟨by rfl, ?_⟩) ?_
      rotate_left
      ·(intro w; go_simp) <;> with_reducible rfl
      (try simp only [Act.put, List.setIfInBounds_toArray, List.set_cons_zero, List.set_cons_succ])
      refine wpAny_take (i := 3) (oi := { dst := some 28, op := _, type := _, pos := _, after := _, guard := _ }) (v := ?_) rfl (by kernel_rfl) (by kernel_rfl) (by kernel_rfl) (fun _ _ _ h => h) (Or.inl ⟨by rfl, ?_⟩) ?_
      rotate_left
      ·(intro w; go_simp) <;> with_reducible rfl
      (try simp only [Act.put, List.setIfInBounds_toArray, List.set_cons_zero, List.set_cons_succ])
      refine wpAny_ready (rs := [1, 4]) (by kernel_rfl) (by simp) ?_
      refine AllReady.cons (o := _) rfl (fun K hK => ?_) (AllReady.cons (o := _) rfl (fun K hK => ?_) (AllReady.nil))
      ·go_simp
       (try (refine hK _ _ ?_; clear hK K))
       (try simp only [Act.put, List.setIfInBounds_toArray, List.set_cons_zero, List.set_cons_succ])
       refine wpAny_ready (rs := [4]) (by kernel_rfl) (by simp) ?_
       refine AllReady.cons (o := _) rfl (fun K hK => ?_) (AllReady.nil)
       go_simp
       refine (cur_change HS.out (G.out _ HM.out.drew.2.2.2.1) hp HM.out.drew.2.1 (by omega) (by omega) (by omega)).mono ?_; rintro e w8 ⟨x8, rfl, gx8, zx8, hc8, hg8⟩
       have HM8 := Lib.hid (HM.out.drew.draw hg8 hc8)
       have HO8 := Lib.hid ((HO.out.up (below_drewN (Below.refl _ _) 1)).past hg8 (by omega))
       have d3 := HM8.out.1.cell 2
       simp only [List.getElem?_cons_zero, List.getElem?_cons_succ] at d3
       have d4 := (HM8.out.alloc (.cells #[.string x8] 9)).1.cell 2
       simp only [List.getElem?_cons_zero, List.getElem?_cons_succ] at d4
       try go_wp2_with fail
       (try (refine hK _ _ ?_; clear hK K))
       (try simp only [Act.put, List.setIfInBounds_toArray, List.set_cons_zero, List.set_cons_succ])
       refine wpAny_ready (rs := [5]) (by kernel_rfl) (by simp) ?_
       refine AllReady.cons (o := _) rfl (fun K hK => ?_) (AllReady.nil)
       go_simp
       (try (refine hK _ _ ?_; clear hK K))
       (try simp only [Act.put, List.setIfInBounds_toArray, List.set_cons_zero, List.set_cons_succ])
       refine wpAny_ready (rs := [6]) (by kernel_rfl) (by simp) ?_
       refine AllReady.cons (o := _) rfl (fun K hK => ?_) (AllReady.nil)
       refine step_append_rec Tryz.elStr (by rfl) _ _ (by rfl) (by rfl) (HO8.out.alloc _) x8 (by rfl) (Box.at_ _ [.string x8] _ (by rfl)) (strE_one _) (by omega) (by decide) (by have h1 := HM8.out.1.lt; have h2 := hg8.size; simp at h2 ⊢; omega) ?_
       intro A3 c3 w9 ho9 hg9 hb9
       have HM9 := Lib.hid ((HM8.out.alloc (.cells #[.string x8] 9)).grown hg9 (fun k hk => by have := (HO8.out.blk hk).1; omega))
       have d5 := HM9.out.1.cell 2; have e5 := HM9.out.1.frozen 2
       simp only [List.getElem?_cons_zero, List.getElem?_cons_succ] at d5
       (try (refine hK _ _ ?_; clear hK K))
       (try simp only [Act.put, List.setIfInBounds_toArray, List.set_cons_zero, List.set_cons_succ])
       refine wpAny_ready (rs := [7]) (by kernel_rfl) (by simp) ?_
       refine AllReady.cons (o := _) rfl (fun K hK => ?_) (AllReady.nil)
       go_simp
       (try (refine hK _ _ ?_; clear hK K))
       (try simp only [Act.put, List.setIfInBounds_toArray, List.set_cons_zero, List.set_cons_succ])
       refine wpAny_ready (rs := [8]) (by kernel_rfl) (by simp) ?_
       refine AllReady.cons (o := _) rfl (fun K hK => ?_) (AllReady.nil)
       go_simp
       (try (refine hK _ _ ?_; clear hK K))
       (try simp only [Act.put, List.setIfInBounds_toArray, List.set_cons_zero, List.set_cons_succ])
       refine wpAny_done (by kernel_rfl) ?_ _
       (try simp only [Act.put, List.setIfInBounds_toArray, List.set_cons_zero, List.set_cons_succ])
       have HZ9 := Lib.hid (good_snoc HZ.out gx8)
       have HMF := Lib.hid (HM9.out.put (v' := .slice A3 (m + 1) c3))
       have HOF := Lib.hid (own_put (b := w3.heap.size) (v' := .slice A3 (m + 1) c3) ho9 (by omega))
       clear d2 d3 d4 d5 e2 e5
       go_wp2
       go_roundw
       case rel => exact ⟨k - 1, m + 1, A3, c3, L ++ [x8], by omega, by go_num, Lib.hid (HMF.out.mono (by omega)), HOF, HZ9, HMF.out.1.lt⟩
       case measure => simp [intOf]; omega
      ·go_simp
       refine (cur_change HS.out (G.out _ HM.out.drew.2.2.2.1) hp HM.out.drew.2.1 (by omega) (by omega) (by omega)).mono ?_; rintro e w8 ⟨x8, rfl, gx8, zx8, hc8, hg8⟩
       have HM8 := Lib.hid (HM.out.drew.draw hg8 hc8)
       have HO8 := Lib.hid ((HO.out.up (below_drewN (Below.refl _ _) 1)).past hg8 (by omega))
       have d3 := HM8.out.1.cell 2
       simp only [List.getElem?_cons_zero, List.getElem?_cons_succ] at d3
       have d4 := (HM8.out.alloc (.cells #[.string x8] 9)).1.cell 2
       simp only [List.getElem?_cons_zero, List.getElem?_cons_succ] at d4
       try go_wp2_with fail
       (try (refine hK _ _ ?_; clear hK K))
       (try simp only [Act.put, List.setIfInBounds_toArray, List.set_cons_zero, List.set_cons_succ])
       refine wpAny_ready (rs := [1, 5]) (by kernel_rfl) (by simp) ?_
       refine AllReady.cons (o := _) rfl (fun K hK => ?_) (AllReady.cons (o := _) rfl (fun K hK => ?_) (AllReady.nil))
       ·go_simp
        (try (refine hK _ _ ?_; clear hK K))
        (try simp only [Act.put, List.setIfInBounds_toArray, List.set_cons_zero, List.set_cons_succ])
        refine wpAny_ready (rs := [5]) (by kernel_rfl) (by simp) ?_
        refine AllReady.cons (o := _) rfl (fun K hK => ?_) (AllReady.nil)
        go_simp
        (try (refine hK _ _ ?_; clear hK K))
        (try simp only [Act.put, List.setIfInBounds_toArray, List.set_cons_zero, List.set_cons_succ])
        refine wpAny_ready (rs := [6]) (by kernel_rfl) (by simp) ?_
        refine AllReady.cons (o := _) rfl (fun K hK => ?_) (AllReady.nil)
        refine step_append_rec Tryz.elStr (by rfl) _ _ (by rfl) (by rfl) (HO8.out.alloc _) x8 (by rfl) (Box.at_ _ [.string x8] _ (by rfl)) (strE_one _) (by omega) (by decide) (by have h1 := HM8.out.1.lt; have h2 := hg8.size; simp at h2 ⊢; omega) ?_
        intro A3 c3 w9 ho9 hg9 hb9
        have HM9 := Lib.hid ((HM8.out.alloc (.cells #[.string x8] 9)).grown hg9 (fun k hk => by have := (HO8.out.blk hk).1; omega))
        have d5 := HM9.out.1.cell 2; have e5 := HM9.out.1.frozen 2
        simp only [List.getElem?_cons_zero, List.getElem?_cons_succ] at d5
        (try (refine hK _ _ ?_; clear hK K))
        (try simp only [Act.put, List.setIfInBounds_toArray, List.set_cons_zero, List.set_cons_succ])
        refine wpAny_ready (rs := [7]) (by kernel_rfl) (by simp) ?_
        refine AllReady.cons (o := _) rfl (fun K hK => ?_) (AllReady.nil)
        go_simp
        (try (refine hK _ _ ?_; clear hK K))
        (try simp only [Act.put, List.setIfInBounds_toArray, List.set_cons_zero, List.set_cons_succ])
        refine wpAny_ready (rs := [8]) (by kernel_rfl) (by simp) ?_
        refine AllReady.cons (o := _) rfl (fun K hK => ?_) (AllReady.nil)
        go_simp
        (try (refine hK _ _ ?_; clear hK K))
        (try simp only [Act.put, List.setIfInBounds_toArray, List.set_cons_zero, List.set_cons_succ])
        refine wpAny_done (by kernel_rfl) ?_ _
        (try simp only [Act.put, List.setIfInBounds_toArray, List.set_cons_zero, List.set_cons_succ])
        have HZ9 := Lib.hid (good_snoc HZ.out gx8)
        have HMF := Lib.hid (HM9.out.put (v' := .slice A3 (m + 1) c3))
        have HOF := Lib.hid (own_put (b := w3.heap.size) (v' := .slice A3 (m + 1) c3) ho9 (by omega))
        clear d2 d3 d4 d5 e2 e5
        go_wp2
        go_roundw
        case rel => exact ⟨k - 1, m + 1, A3, c3, L ++ [x8], by omega, by go_num, Lib.hid (HMF.out.mono (by omega)), HOF, HZ9, HMF.out.1.lt⟩
        case measure => simp [intOf]; omega
       ·go_simp
        (try (refine hK _ _ ?_; clear hK K))
        (try simp only [Act.put, List.setIfInBounds_toArray, List.set_cons_zero, List.set_cons_succ])
        refine wpAny_ready (rs := [1]) (by kernel_rfl) (by simp) ?_
        refine AllReady.cons (o := _) rfl (fun K hK => ?_) (AllReady.nil)
        go_simp
        (try (refine hK _ _ ?_; clear hK K))
        (try simp only [Act.put, List.setIfInBounds_toArray, List.set_cons_zero, List.set_cons_succ])
        refine wpAny_ready (rs := [6]) (by kernel_rfl) (by simp) ?_
        refine AllReady.cons (o := _) rfl (fun K hK => ?_) (AllReady.nil)
        refine step_append_rec Tryz.elStr (by rfl) _ _ (by rfl) (by rfl) (HO8.out.alloc _) x8 (by rfl) (Box.at_ _ [.string x8] _ (by rfl)) (strE_one _) (by omega) (by decide) (by have h1 := HM8.out.1.lt; have h2 := hg8.size; simp at h2 ⊢; omega) ?_
        intro A3 c3 w9 ho9 hg9 hb9
        have HM9 := Lib.hid ((HM8.out.alloc (.cells #[.string x8] 9)).grown hg9 (fun k hk => by have := (HO8.out.blk hk).1; omega))
        have d5 := HM9.out.1.cell 2; have e5 := HM9.out.1.frozen 2
        simp only [List.getElem?_cons_zero, List.getElem?_cons_succ] at d5
        (try (refine hK _ _ ?_; clear hK K))
        (try simp only [Act.put, List.setIfInBounds_toArray, List.set_cons_zero, List.set_cons_succ])
        refine wpAny_ready (rs := [7]) (by kernel_rfl) (by simp) ?_
        refine AllReady.cons (o := _) rfl (fun K hK => ?_) (AllReady.nil)
        go_simp
        (try (refine hK _ _ ?_; clear hK K))
        (try simp only [Act.put, List.setIfInBounds_toArray, List.set_cons_zero, List.set_cons_succ])
        refine wpAny_ready (rs := [8]) (by kernel_rfl) (by simp) ?_
        refine AllReady.cons (o := _) rfl (fun K hK => ?_) (AllReady.nil)
        go_simp
        (try (refine hK _ _ ?_; clear hK K))
        (try simp only [Act.put, List.setIfInBounds_toArray, List.set_cons_zero, List.set_cons_succ])
        refine wpAny_done (by kernel_rfl) ?_ _
        (try simp only [Act.put, List.setIfInBounds_toArray, List.set_cons_zero, List.set_cons_succ])
        have HZ9 := Lib.hid (good_snoc HZ.out gx8)
        have HMF := Lib.hid (HM9.out.put (v' := .slice A3 (m + 1) c3))
        have HOF := Lib.hid (own_put (b := w3.heap.size) (v' := .slice A3 (m + 1) c3) ho9 (by omega))
        clear d2 d3 d4 d5 e2 e5
        go_wp2
        go_roundw
        case rel => exact ⟨k - 1, m + 1, A3, c3, L ++ [x8], by omega, by go_num, Lib.hid (HMF.out.mono (by omega)), HOF, HZ9, HMF.out.1.lt⟩
        case measure => simp [intOf]; omega
     ·obtain rfl : k = 0 := by omega
      have hOl := HO.out.len
      obtain ⟨K1, K2, ⟨rx, ry, rz, K3⟩, K4, K5, K6⟩ := HM.out
      have kc0 := K1.cell 0; have kc1 := K1.cell 1; have kc2 := K1.cell 2
      have kd0 := K3.cell 0; have kd1 := K3.cell 1; have kd2 := K3.cell 2
      have kf0 := K3.frozen 0; have kf1 := K3.frozen 1; have kf2 := K3.frozen 2
      simp only [List.getElem?_cons_zero, List.getElem?_cons_succ] at kc0 kc1 kc2 kd0 kd1 kd2
      have Z := ((K3.set_ 0 (.string nm)).set_ 1 (.int .i64 (st : Int))).set_ 2 (.slice A2 (m) c2)
      have y0 := Z.cell 0; have y1 := Z.cell 1; have y2 := Z.cell 2
      simp only [List.set_cons_zero, List.set_cons_succ, List.getElem?_cons_zero, List.getElem?_cons_succ] at y0 y1 y2
      have HK := Lib.hid K2; have HGR := Lib.hid K4
      clear K1 K2 K3 K4 Z
      go_wp2_with fail
      refine bodyPost_ret (v := .agg #[.string nm, .int .i64 (st : Int), .slice A2 (m) c2]) (by simp [results, Tryz.results180, go_sem, y0, y1, y2]) rfl ?_
      exact fin.out _ _ _ _ _ _ HGR.out (HK.out.mono (by omega)) HO.out (by omega) (by omega) HZ.out (grownBy_trans (grownBy_trans (only_set _ (p := ⟨w.heap.size, 0, none⟩) _) (only_set _ (p := ⟨w.heap.size, 1, none⟩) _)) (only_set _ (p := ⟨w.heap.size, 2, none⟩) _))
   ·go_wp2_with fail
    refine (cur_pick HS.out (G.out _ HM6.out.2.2.2.1) hp HM6.out.2.1 (by omega) (by decide) (by decide)).mono ?_; rintro e w7 ⟨x, rfl, ⟨x0, x1⟩, hc7, hg7⟩
    have HM7 := Lib.hid (HM6.out.draw hg7 hc7)
    obtain ⟨X, rfl⟩ := Int.eq_ofNat_of_zero_le x0
    have hX : X ≤ 3 := by omega
    clear hc7 hg7 x0 x1
    go_wp2
    go_loopw [6, 7] (fun v i wr => ∃ (k m : Nat) (A' : Option Addr) (c' : Nat) (H : List ByteArray), k + m = X + 1 ∧ i = .int .i64 k ∧ v = .slice A' m c' ∧ Hid (MSt w wr p A n c (a + 10 + m) w3.heap.size nm st (.slice none 0 0)) ∧ Hid (Owned strE 1 9 wr (w3.heap.size + 1) A' m c' H) ∧ Hid (∀ x ∈ H, goodChange st x = true) ∧ w3.heap.size < wr.heap.size) (fun _ i _ => (intOf i).toNat)
    case atStart => exact ⟨X + 1, 0, none, 0, [], rfl, by go_num, rfl, Lib.hid (HM7.out.mono (by omega)), Lib.hid (Owned.nil strE_len _ _ _), Lib.hid (fun s hs => by cases hs), HM7.out.1.lt⟩
    case round =>
     obtain ⟨k, m, A2, c2, H, hkm, rfl, rfl, HM, HO, HZ, hbr⟩ := hrel
     rename World => wr
     by_cases h0 : 0 < k
     ·have hI : (0 : Int) < (k : Int) := by omega
      have hOl := HO.out.len
      go_wp2_with fail
      refine (cur_change HS.out (G.out _ HM.out.2.2.2.1) hp HM.out.2.1 (by omega) (by omega) (by omega)).mono ?_; rintro e w8 ⟨x8, rfl, gx8, zx8, hc8, hg8⟩
      have HM8 := Lib.hid (HM.out.draw hg8 hc8)
      have HO8 := Lib.hid (HO.out.past hg8 (by have := HM.out.2.2.2.2; omega))
      have hs8 := HM8.out.1.lt
      have HZ9 := Lib.hid (good_snoc HZ.out gx8)
      clear hc8 hg8
      go_wp2_with (first | (at_builtin; go_must ((refine wpList_append_recs Tryz.elStr strE_one rfl (.tmp 60) (.tmp 64) rfl rfl (HO8.out.alloc _) rfl (own_lit1_at' strE_len _ 9 x8 rfl (Nat.le_refl _)).recs rfl ?_ (by decide) ?_ ?_; (focus (first | omega | (simp only [World.size_alloc]; done) | (simp only [World.size_alloc]; omega) | (simp; done) | (simp; omega))); (simp; omega); intro A3 c3 w9 ho9 hg9 hl9; have HM9 := Lib.hid ((HM8.out.alloc (.cells ⟨[Value.string x8]⟩ 9)).grown hg9 (fun k hk => by have := (HO8.out.blk hk).1; omega))))))
      go_roundw
      case rel => exact ⟨k - 1, m + 1, A3, c3, H ++ [x8], by omega, by go_num, rfl, Lib.hid (HM9.out.mono (by omega)), Lib.hid ho9, HZ9, HM9.out.1.lt⟩
      case measure => simp [intOf]; omega
     ·obtain rfl : k = 0 := by omega
      have hHl := HO.out.len
      obtain ⟨gH, rfl, gH0, gH1, _, _⟩ := HO.out.at_ (by omega)
      have HR := Lib.hid HO.out.recs
      have HG := Lib.hid HZ.out
      go_wp2_with fail
      refine (spec_l1OwnS hHl HR.out (by omega)).mono ?_; rintro e w8 ⟨A3, c3, rfl, ho3, hb3⟩
      have HM3 := Lib.hid (HM.out.up hb3)
      have HR3 := Lib.hid (HR.out.up hb3)
      have hs3 := hb3.size
      clear hb3
      go_wp2_with fail
      refine (cur_change HS.out (G.out _ HM3.out.2.2.2.1) hp HM3.out.2.1 (by omega) (by omega) (by omega)).mono ?_; rintro e w9 ⟨x9, rfl, gx9, zx9, hc9, hg9⟩
      have hpb := HM3.out.2.2.2.2
      have HM4 := Lib.hid (HM3.out.draw hg9 hc9)
      have HO4 := Lib.hid (ho3.past hg9 (by omega))
      have HR4 := Lib.hid (strs_grown HR3.out hg9 (fun e => by injection e with e; omega))
      have hs9 := hg9.size
      have HZ4 := Lib.hid (good_snoc HZ.out gx9)
      have HML := Lib.hid (HM4.out.alloc (.cells ⟨[Value.string x9]⟩ 9))
      have HRL := Lib.hid (HR4.out.alloc (.cells ⟨[Value.string x9]⟩ 9))
      have hs9' : wr.heap.size ≤ (w9.alloc (.cells ⟨[Value.string x9]⟩ 9)).heap.size := by simp; omega
      obtain ⟨wb, hwb⟩ : ∃ b, b = wr.heap.size := ⟨_, rfl⟩
      rw [← hwb] at ho3 HO4 gH1 hs3 hs9' 
      clear hc9 hg9 ho3 HM3 HR3
      go_wp2_with (first | (at_builtin; go_must ((refine wpList_append_recs Tryz.elStr strE_one rfl (.tmp 67) (.tmp 71) rfl rfl (HO4.out.alloc _) rfl (own_lit1_at' strE_len _ 9 x9 rfl (Nat.le_refl _)).recs rfl ?_ (by decide) ?_ ?_; (focus (first | omega | (simp only [World.size_alloc]; done) | (simp only [World.size_alloc]; omega) | (simp; done) | (simp; omega))); (simp; omega); intro A5 c5 w10 ho5 hg5 hl5; have HM5 := Lib.hid (HML.out.grown hg5 (fun k hk => by have := (HO4.out.blk hk).1; omega)); have HR5 := Lib.hid (strs_grown HRL.out hg5 (fun e => by have := (HO4.out.blk e.symm).1; omega)); have g2 := HM5.out.1.cell 2; have e2 := HM5.out.1.frozen 2; simp only [List.getElem?_cons_zero, List.getElem?_cons_succ] at g2; have HMF := Lib.hid (HM5.out.put (v' := .slice A5 (m + 1) c5)); have HOF := Lib.hid (own_put (b := w3.heap.size) (v' := .slice A5 (m + 1) c5) ho5 (by omega)); have HRF := Lib.hid (strs_grown HR5.out (only_set w10 (p := ⟨w3.heap.size, 2, none⟩) (.slice A5 (m + 1) c5)) (fun e => by injection e with e; dsimp only at e; omega))))))
      obtain ⟨w11, hw11⟩ : ∃ u, u = w10.setCell ⟨w3.heap.size, 2, none⟩ (.slice A5 (m + 1) c5) := ⟨_, rfl⟩
      rw [← hw11] at HMF HOF HRF ⊢
      have hB4 : w3.heap.size < wb := by omega
      have hs11 : wb ≤ w11.heap.size := by have := hg5.size; rw [hw11]; simp at this ⊢; omega
      clear hw11 ho5 hg5 hl5 HM5 HR5 g2 e2 HM4 HO4 HR4 HML HRL
      go_wp2
      go_loopw [8] (fun i wr => ∃ (k q : Nat) (A' : Option Addr) (c' : Nat) (L : List ByteArray), k + q = m ∧ i = .int .i64 ((k : Int) - 1) ∧ Hid (MSt w wr p A n c (a + 20 + m) w3.heap.size nm st (.slice A' (m + 1 + q) c')) ∧ Hid (Owned strE 1 9 wr wb A' (m + 1 + q) c' L) ∧ Hid (∀ x ∈ L, goodChange st x = true) ∧ Hid (Strs wr (some ⟨gH, 0, none⟩) H) ∧ wb ≤ wr.heap.size) (fun i _ => (intOf i + 1).toNat)
      case atStart => exact ⟨m, 0, A5, c5, H ++ [x9], rfl, by go_num, Lib.hid (HMF.out.mono (by omega)), HOF, HZ4, HRF, hs11⟩
      case round =>
       obtain ⟨k, q, A2, c2, L, hkq, rfl, HM, HO, HZ, HR, hsr⟩ := hrel
       rename World => wr
       have hOl := HO.out.len
       rcases k with _ | k
       ·rw [show (((0 : Nat) : Int) - 1) = -1 by omega]
        obtain rfl : q = m := by omega
        go_upto_region 23 with fail
        obtain ⟨K1, _, _, _, K5, K6⟩ := HM.out
        have d2 := K1.cell 2; have e2 := K1.frozen 2
        simp only [List.getElem?_cons_zero, List.getElem?_cons_succ] at d2
        clear K1
        refine wp_region_any (by kernel_rfl) ?_
        (try (change wpAny _ _ _ _ _ _ _ (World.drew _)))
        refine wpAny_take (i := 0) (oi := { dst := some 90, op := _, type := _, pos := _, after := _, guard := _ }) (v := ?_) rfl (by kernel_rfl) (by kernel_rfl) (by kernel_rfl) (fun _ _ _ h => h) (Or.inl ⟨by rfl, ?_⟩) ?_
        rotate_left
        ·(intro w; go_simp) <;> with_reducible rfl
        (try simp only [Act.put, List.setIfInBounds_toArray, List.set_cons_zero, List.set_cons_succ])
        refine wpAny_take (i := 2) (oi := { dst := some 92, op := _, type := _, pos := _, after := _, guard := _ }) (v := ?_) rfl (by kernel_rfl) (by kernel_rfl) (by kernel_rfl) (fun _ _ _ h => h) (Or.inl ⟨by rfl, ?_⟩) ?_
        rotate_left
        ·(intro w; go_simp) <;> with_reducible rfl
        (try simp only [Act.put, List.setIfInBounds_toArray, List.set_cons_zero, List.set_cons_succ])
        refine wpAny_take (i := 3) (oi := { dst := some 93, op := _, type := _, pos := _, after := _, guard := _ }) (v := ?_) rfl (by kernel_rfl) (by kernel_rfl) (by kernel_rfl) (fun _ _ _ h => h) (Or.inl ⟨by rfl, ?_⟩) ?_
        rotate_left
        ·(intro w; go_simp) <;> with_reducible rfl
        (try simp only [Act.put, List.setIfInBounds_toArray, List.set_cons_zero, List.set_cons_succ])
        refine wpAny_ready (rs := [1, 4]) (by kernel_rfl) (by simp) ?_
        refine AllReady.cons (o := _) rfl (fun K hK => ?_) (AllReady.cons (o := _) rfl (fun K hK => ?_) (AllReady.nil))
        ·go_simp
         (try (refine hK _ _ ?_; clear hK K))
         (try simp only [Act.put, List.setIfInBounds_toArray, List.set_cons_zero, List.set_cons_succ])
         refine wpAny_ready (rs := [4]) (by kernel_rfl) (by simp) ?_
         refine AllReady.cons (o := _) rfl (fun K hK => ?_) (AllReady.nil)
         go_simp
         refine (cur_change HS.out (G.out _ HM.out.drew.2.2.2.1) hp HM.out.drew.2.1 (by omega) (by omega) (by omega)).mono ?_; rintro e w8 ⟨x8, rfl, gx8, zx8, hc8, hg8⟩
         have HM8 := Lib.hid (HM.out.drew.draw hg8 hc8)
         have HO8 := Lib.hid ((HO.out.up (below_drewN (Below.refl _ _) 1)).past hg8 (by omega))
         have d3 := HM8.out.1.cell 2
         simp only [List.getElem?_cons_zero, List.getElem?_cons_succ] at d3
         have d4 := (HM8.out.alloc (.cells #[.string x8] 9)).1.cell 2
         simp only [List.getElem?_cons_zero, List.getElem?_cons_succ] at d4
         try go_wp2_with fail
         (try (refine hK _ _ ?_; clear hK K))
         (try simp only [Act.put, List.setIfInBounds_toArray, List.set_cons_zero, List.set_cons_succ])
         refine wpAny_ready (rs := [5]) (by kernel_rfl) (by simp) ?_
         refine AllReady.cons (o := _) rfl (fun K hK => ?_) (AllReady.nil)
         go_simp
         (try (refine hK _ _ ?_; clear hK K))
         (try simp only [Act.put, List.setIfInBounds_toArray, List.set_cons_zero, List.set_cons_succ])
         refine wpAny_ready (rs := [6]) (by kernel_rfl) (by simp) ?_
         refine AllReady.cons (o := _) rfl (fun K hK => ?_) (AllReady.nil)
         refine step_append_rec Tryz.elStr (by rfl) _ _ (by rfl) (by rfl) (HO8.out.alloc _) x8 (by rfl) (Box.at_ _ [.string x8] _ (by rfl)) (strE_one _) (by omega) (by decide) (by have h1 := HM8.out.1.lt; have h2 := hg8.size; simp at h2 ⊢; omega) ?_
         intro A3 c3 w9 ho9 hg9 hb9
         have HM9 := Lib.hid ((HM8.out.alloc (.cells #[.string x8] 9)).grown hg9 (fun k hk => by have := (HO8.out.blk hk).1; omega))
         have d5 := HM9.out.1.cell 2; have e5 := HM9.out.1.frozen 2
         simp only [List.getElem?_cons_zero, List.getElem?_cons_succ] at d5
         (try (refine hK _ _ ?_; clear hK K))
         (try simp only [Act.put, List.setIfInBounds_toArray, List.set_cons_zero, List.set_cons_succ])
         refine wpAny_ready (rs := [7]) (by kernel_rfl) (by simp) ?_
         refine AllReady.cons (o := _) rfl (fun K hK => ?_) (AllReady.nil)
         go_simp
         (try (refine hK _ _ ?_; clear hK K))
         (try simp only [Act.put, List.setIfInBounds_toArray, List.set_cons_zero, List.set_cons_succ])
         refine wpAny_ready (rs := [8]) (by kernel_rfl) (by simp) ?_
         refine AllReady.cons (o := _) rfl (fun K hK => ?_) (AllReady.nil)
         go_simp
         (try (refine hK _ _ ?_; clear hK K))
         (try simp only [Act.put, List.setIfInBounds_toArray, List.set_cons_zero, List.set_cons_succ])
         refine wpAny_done (by kernel_rfl) ?_ _
         (try simp only [Act.put, List.setIfInBounds_toArray, List.set_cons_zero, List.set_cons_succ])
         have HZ := Lib.hid (good_snoc HZ.out gx8)
         have HM := Lib.hid (HM9.out.put (v' := .slice A3 (q + 1 + q + 1) c3))
         have HO := Lib.hid ((own_put (b := w3.heap.size) (v' := .slice A3 (q + 1 + q + 1) c3) ho9 (by omega)).base_le (show w3.heap.size + 1 ≤ wb by omega))
         clear d2 d3 d4 d5 e2 e5 HM8 HO8 HM9 ho9 hg9 hb9 hc8 hg8 K5 K6
         obtain ⟨K1, K2, ⟨rx, ry, rz, K3⟩, K4, K5, K6⟩ := HM.out
         have kc0 := K1.cell 0; have kc1 := K1.cell 1; have kc2 := K1.cell 2
         have kd0 := K3.cell 0; have kd1 := K3.cell 1; have kd2 := K3.cell 2
         have kf0 := K3.frozen 0; have kf1 := K3.frozen 1; have kf2 := K3.frozen 2
         simp only [List.getElem?_cons_zero, List.getElem?_cons_succ] at kc0 kc1 kc2 kd0 kd1 kd2
         have Z := ((K3.set_ 0 (.string nm)).set_ 1 (.int .i64 (st : Int))).set_ 2 (.slice A3 (q + 1 + q + 1) c3)
         have y0 := Z.cell 0; have y1 := Z.cell 1; have y2 := Z.cell 2
         simp only [List.set_cons_zero, List.set_cons_succ, List.getElem?_cons_zero, List.getElem?_cons_succ] at y0 y1 y2
         have HK := Lib.hid K2; have HGR := Lib.hid K4
         clear K1 K2 K3 K4 Z
         go_wp2_with fail
         refine bodyPost_ret (v := .agg #[.string nm, .int .i64 (st : Int), .slice A3 (q + 1 + q + 1) c3]) (by simp [results, Tryz.results180, go_sem, y0, y1, y2]) rfl ?_
         exact fin.out _ _ _ _ _ _ HGR.out (HK.out.mono (by omega)) HO.out (by omega) (by omega) HZ.out (grownBy_trans (grownBy_trans (only_set _ (p := ⟨w.heap.size, 0, none⟩) _) (only_set _ (p := ⟨w.heap.size, 1, none⟩) _)) (only_set _ (p := ⟨w.heap.size, 2, none⟩) _))
        ·go_simp
         refine (cur_change HS.out (G.out _ HM.out.drew.2.2.2.1) hp HM.out.drew.2.1 (by omega) (by omega) (by omega)).mono ?_; rintro e w8 ⟨x8, rfl, gx8, zx8, hc8, hg8⟩
         have HM8 := Lib.hid (HM.out.drew.draw hg8 hc8)
         have HO8 := Lib.hid ((HO.out.up (below_drewN (Below.refl _ _) 1)).past hg8 (by omega))
         have d3 := HM8.out.1.cell 2
         simp only [List.getElem?_cons_zero, List.getElem?_cons_succ] at d3
         have d4 := (HM8.out.alloc (.cells #[.string x8] 9)).1.cell 2
         simp only [List.getElem?_cons_zero, List.getElem?_cons_succ] at d4
         try go_wp2_with fail
         (try (refine hK _ _ ?_; clear hK K))
         (try simp only [Act.put, List.setIfInBounds_toArray, List.set_cons_zero, List.set_cons_succ])
         refine wpAny_ready (rs := [1, 5]) (by kernel_rfl) (by simp) ?_
         refine AllReady.cons (o := _) rfl (fun K hK => ?_) (AllReady.cons (o := _) rfl (fun K hK => ?_) (AllReady.nil))
         ·go_simp
          (try (refine hK _ _ ?_; clear hK K))
          (try simp only [Act.put, List.setIfInBounds_toArray, List.set_cons_zero, List.set_cons_succ])
          refine wpAny_ready (rs := [5]) (by kernel_rfl) (by simp) ?_
          refine AllReady.cons (o := _) rfl (fun K hK => ?_) (AllReady.nil)
          go_simp
          (try (refine hK _ _ ?_; clear hK K))
          (try simp only [Act.put, List.setIfInBounds_toArray, List.set_cons_zero, List.set_cons_succ])
          refine wpAny_ready (rs := [6]) (by kernel_rfl) (by simp) ?_
          refine AllReady.cons (o := _) rfl (fun K hK => ?_) (AllReady.nil)
          refine step_append_rec Tryz.elStr (by rfl) _ _ (by rfl) (by rfl) (HO8.out.alloc _) x8 (by rfl) (Box.at_ _ [.string x8] _ (by rfl)) (strE_one _) (by omega) (by decide) (by have h1 := HM8.out.1.lt; have h2 := hg8.size; simp at h2 ⊢; omega) ?_
          intro A3 c3 w9 ho9 hg9 hb9
          have HM9 := Lib.hid ((HM8.out.alloc (.cells #[.string x8] 9)).grown hg9 (fun k hk => by have := (HO8.out.blk hk).1; omega))
          have d5 := HM9.out.1.cell 2; have e5 := HM9.out.1.frozen 2
          simp only [List.getElem?_cons_zero, List.getElem?_cons_succ] at d5
          (try (refine hK _ _ ?_; clear hK K))
          (try simp only [Act.put, List.setIfInBounds_toArray, List.set_cons_zero, List.set_cons_succ])
          refine wpAny_ready (rs := [7]) (by kernel_rfl) (by simp) ?_
          refine AllReady.cons (o := _) rfl (fun K hK => ?_) (AllReady.nil)
          go_simp
          (try (refine hK _ _ ?_; clear hK K))
          (try simp only [Act.put, List.setIfInBounds_toArray, List.set_cons_zero, List.set_cons_succ])
          refine wpAny_ready (rs := [8]) (by kernel_rfl) (by simp) ?_
          refine AllReady.cons (o := _) rfl (fun K hK => ?_) (AllReady.nil)
          go_simp
          (try (refine hK _ _ ?_; clear hK K))
          (try simp only [Act.put, List.setIfInBounds_toArray, List.set_cons_zero, List.set_cons_succ])
          refine wpAny_done (by kernel_rfl) ?_ _
          (try simp only [Act.put, List.setIfInBounds_toArray, List.set_cons_zero, List.set_cons_succ])
          have HZ := Lib.hid (good_snoc HZ.out gx8)
          have HM := Lib.hid (HM9.out.put (v' := .slice A3 (q + 1 + q + 1) c3))
          have HO := Lib.hid ((own_put (b := w3.heap.size) (v' := .slice A3 (q + 1 + q + 1) c3) ho9 (by omega)).base_le (show w3.heap.size + 1 ≤ wb by omega))
          clear d2 d3 d4 d5 e2 e5 HM8 HO8 HM9 ho9 hg9 hb9 hc8 hg8 K5 K6
          obtain ⟨K1, K2, ⟨rx, ry, rz, K3⟩, K4, K5, K6⟩ := HM.out
          have kc0 := K1.cell 0; have kc1 := K1.cell 1; have kc2 := K1.cell 2
          have kd0 := K3.cell 0; have kd1 := K3.cell 1; have kd2 := K3.cell 2
          have kf0 := K3.frozen 0; have kf1 := K3.frozen 1; have kf2 := K3.frozen 2
          simp only [List.getElem?_cons_zero, List.getElem?_cons_succ] at kc0 kc1 kc2 kd0 kd1 kd2
          have Z := ((K3.set_ 0 (.string nm)).set_ 1 (.int .i64 (st : Int))).set_ 2 (.slice A3 (q + 1 + q + 1) c3)
          have y0 := Z.cell 0; have y1 := Z.cell 1; have y2 := Z.cell 2
          simp only [List.set_cons_zero, List.set_cons_succ, List.getElem?_cons_zero, List.getElem?_cons_succ] at y0 y1 y2
          have HK := Lib.hid K2; have HGR := Lib.hid K4
          clear K1 K2 K3 K4 Z
          go_wp2_with fail
          refine bodyPost_ret (v := .agg #[.string nm, .int .i64 (st : Int), .slice A3 (q + 1 + q + 1) c3]) (by simp [results, Tryz.results180, go_sem, y0, y1, y2]) rfl ?_
          exact fin.out _ _ _ _ _ _ HGR.out (HK.out.mono (by omega)) HO.out (by omega) (by omega) HZ.out (grownBy_trans (grownBy_trans (only_set _ (p := ⟨w.heap.size, 0, none⟩) _) (only_set _ (p := ⟨w.heap.size, 1, none⟩) _)) (only_set _ (p := ⟨w.heap.size, 2, none⟩) _))
         ·go_simp
          (try (refine hK _ _ ?_; clear hK K))
          (try simp only [Act.put, List.setIfInBounds_toArray, List.set_cons_zero, List.set_cons_succ])
          refine wpAny_ready (rs := [1]) (by kernel_rfl) (by simp) ?_
          refine AllReady.cons (o := _) rfl (fun K hK => ?_) (AllReady.nil)
          go_simp
          (try (refine hK _ _ ?_; clear hK K))
          (try simp only [Act.put, List.setIfInBounds_toArray, List.set_cons_zero, List.set_cons_succ])
          refine wpAny_ready (rs := [6]) (by kernel_rfl) (by simp) ?_
          refine AllReady.cons (o := _) rfl (fun K hK => ?_) (AllReady.nil)
          refine step_append_rec Tryz.elStr (by rfl) _ _ (by rfl) (by rfl) (HO8.out.alloc _) x8 (by rfl) (Box.at_ _ [.string x8] _ (by rfl)) (strE_one _) (by omega) (by decide) (by have h1 := HM8.out.1.lt; have h2 := hg8.size; simp at h2 ⊢; omega) ?_
          intro A3 c3 w9 ho9 hg9 hb9
          have HM9 := Lib.hid ((HM8.out.alloc (.cells #[.string x8] 9)).grown hg9 (fun k hk => by have := (HO8.out.blk hk).1; omega))
          have d5 := HM9.out.1.cell 2; have e5 := HM9.out.1.frozen 2
          simp only [List.getElem?_cons_zero, List.getElem?_cons_succ] at d5
          (try (refine hK _ _ ?_; clear hK K))
          (try simp only [Act.put, List.setIfInBounds_toArray, List.set_cons_zero, List.set_cons_succ])
          refine wpAny_ready (rs := [7]) (by kernel_rfl) (by simp) ?_
          refine AllReady.cons (o := _) rfl (fun K hK => ?_) (AllReady.nil)
          go_simp
          (try (refine hK _ _ ?_; clear hK K))
          (try simp only [Act.put, List.setIfInBounds_toArray, List.set_cons_zero, List.set_cons_succ])
          refine wpAny_ready (rs := [8]) (by kernel_rfl) (by simp) ?_
          refine AllReady.cons (o := _) rfl (fun K hK => ?_) (AllReady.nil)
          go_simp
          (try (refine hK _ _ ?_; clear hK K))
          (try simp only [Act.put, List.setIfInBounds_toArray, List.set_cons_zero, List.set_cons_succ])
          refine wpAny_done (by kernel_rfl) ?_ _
          (try simp only [Act.put, List.setIfInBounds_toArray, List.set_cons_zero, List.set_cons_succ])
          have HZ := Lib.hid (good_snoc HZ.out gx8)
          have HM := Lib.hid (HM9.out.put (v' := .slice A3 (q + 1 + q + 1) c3))
          have HO := Lib.hid ((own_put (b := w3.heap.size) (v' := .slice A3 (q + 1 + q + 1) c3) ho9 (by omega)).base_le (show w3.heap.size + 1 ≤ wb by omega))
          clear d2 d3 d4 d5 e2 e5 HM8 HO8 HM9 ho9 hg9 hb9 hc8 hg8 K5 K6
          obtain ⟨K1, K2, ⟨rx, ry, rz, K3⟩, K4, K5, K6⟩ := HM.out
          have kc0 := K1.cell 0; have kc1 := K1.cell 1; have kc2 := K1.cell 2
          have kd0 := K3.cell 0; have kd1 := K3.cell 1; have kd2 := K3.cell 2
          have kf0 := K3.frozen 0; have kf1 := K3.frozen 1; have kf2 := K3.frozen 2
          simp only [List.getElem?_cons_zero, List.getElem?_cons_succ] at kc0 kc1 kc2 kd0 kd1 kd2
          have Z := ((K3.set_ 0 (.string nm)).set_ 1 (.int .i64 (st : Int))).set_ 2 (.slice A3 (q + 1 + q + 1) c3)
          have y0 := Z.cell 0; have y1 := Z.cell 1; have y2 := Z.cell 2
          simp only [List.set_cons_zero, List.set_cons_succ, List.getElem?_cons_zero, List.getElem?_cons_succ] at y0 y1 y2
          have HK := Lib.hid K2; have HGR := Lib.hid K4
          clear K1 K2 K3 K4 Z
          go_wp2_with fail
          refine bodyPost_ret (v := .agg #[.string nm, .int .i64 (st : Int), .slice A3 (q + 1 + q + 1) c3]) (by simp [results, Tryz.results180, go_sem, y0, y1, y2]) rfl ?_
          exact fin.out _ _ _ _ _ _ HGR.out (HK.out.mono (by omega)) HO.out (by omega) (by omega) HZ.out (grownBy_trans (grownBy_trans (only_set _ (p := ⟨w.heap.size, 0, none⟩) _) (only_set _ (p := ⟨w.heap.size, 1, none⟩) _)) (only_set _ (p := ⟨w.heap.size, 2, none⟩) _))
       ·rw [show (((k + 1 : Nat) : Int) - 1) = (k : Int) by omega]
        have hI : (0 : Int) ≤ (k : Int) := by omega
        obtain ⟨b3, o3, y, hA, hbb, hy, hcy⟩ := HR.out.at_str (k := k) (by omega)
        injection hA with hA
        injection hA with e1 e2 _
        subst e1 e2
        have gy := HG.out y (List.mem_of_getElem? hy)
        obtain ⟨K1, _, _, _, K5, K6⟩ := HM.out
        have d2 := K1.cell 2; have e2 := K1.frozen 2
        have d4 := (HM.out.alloc (.cells #[.string y] 9)).1.cell 2
        have hJ : (k : Int) < (m : Int) := by omega
        simp only [List.getElem?_cons_zero, List.getElem?_cons_succ, Nat.zero_add] at d2 d4 hcy
        have HO8 := Lib.hid (HO.out.up (below_drewN (Below.refl _ _) 1))
        clear K1 hy
        go_upto_region 22 with fail
        refine wp_region_any (by kernel_rfl) ?_
        (try (change wpAny _ _ _ _ _ _ _ (World.drew _)))
        refine wpAny_take (i := 0) (oi := { dst := some 81, op := _, type := _, pos := _, after := _, guard := _ }) (v := ?_) rfl (by kernel_rfl) (by kernel_rfl) (by kernel_rfl) (fun _ _ _ h => h) (Or.inl ⟨by rfl, ?_⟩) ?_
        rotate_left
        ·(intro w; go_simp) <;> with_reducible rfl
        (try simp only [Act.put, List.setIfInBounds_toArray, List.set_cons_zero, List.set_cons_succ])
        refine wpAny_take (i := 2) (oi := { dst := some 83, op := _, type := _, pos := _, after := _, guard := _ }) (v := ?_) rfl (by kernel_rfl) (by kernel_rfl) (by kernel_rfl) (fun _ _ _ h => h) (Or.inl ⟨by rfl, ?_⟩) ?_
        rotate_left
        ·(intro w; go_simp) <;> with_reducible rfl
        (try simp only [Act.put, List.setIfInBounds_toArray, List.set_cons_zero, List.set_cons_succ])
        refine wpAny_take (i := 3) (oi := { dst := some 84, op := _, type := _, pos := _, after := _, guard := _ }) (v := ?_) rfl (by kernel_rfl) (by kernel_rfl) (by kernel_rfl) (fun _ _ _ h => h) (Or.inl ⟨by rfl, ?_⟩) ?_
        rotate_left
        ·(intro w; go_simp) <;> with_reducible rfl
        (try simp only [Act.put, List.setIfInBounds_toArray, List.set_cons_zero, List.set_cons_succ])
        refine wpAny_take (i := 4) (oi := { dst := some 85, op := _, type := _, pos := _, after := _, guard := _ }) (v := ?_) rfl (by kernel_rfl) (by kernel_rfl) (by kernel_rfl) (fun _ _ _ h => h) (Or.inl ⟨by rfl, ?_⟩) ?_
        rotate_left
        ·(intro w; go_simp) <;> with_reducible rfl
        (try simp only [Act.put, List.setIfInBounds_toArray, List.set_cons_zero, List.set_cons_succ])
        refine wpAny_ready (rs := [1, 5]) (by kernel_rfl) (by simp) ?_
        refine AllReady.cons (o := _) rfl (fun K hK => ?_) (AllReady.cons (o := _) rfl (fun K hK => ?_) (AllReady.nil))
        ·go_simp
         (try (refine hK _ _ ?_; clear hK K))
         (try simp only [Act.put, List.setIfInBounds_toArray, List.set_cons_zero, List.set_cons_succ])
         refine wpAny_ready (rs := [5]) (by kernel_rfl) (by simp) ?_
         refine AllReady.cons (o := _) rfl (fun K hK => ?_) (AllReady.nil)
         go_simp
         (try (refine hK _ _ ?_; clear hK K))
         (try simp only [Act.put, List.setIfInBounds_toArray, List.set_cons_zero, List.set_cons_succ])
         refine wpAny_ready (rs := [6]) (by kernel_rfl) (by simp) ?_
         refine AllReady.cons (o := _) rfl (fun K hK => ?_) (AllReady.nil)
         go_simp
         (try (refine hK _ _ ?_; clear hK K))
         (try simp only [Act.put, List.setIfInBounds_toArray, List.set_cons_zero, List.set_cons_succ])
         refine wpAny_ready (rs := [7]) (by kernel_rfl) (by simp) ?_
         refine AllReady.cons (o := _) rfl (fun K hK => ?_) (AllReady.nil)
         refine step_append_rec Tryz.elStr (by rfl) _ _ (by rfl) (by rfl) (HO8.out.alloc _) y (by rfl) (Box.at_ _ [.string y] _ (by rfl)) (strE_one _) (by omega) (by decide) (by simp; omega) ?_
         intro A3 c3 w9 ho9 hg9 hb9
         have HM9 := Lib.hid ((HM.out.drew.alloc (.cells #[.string y] 9)).grown hg9 (fun k hk => by have := (HO8.out.blk hk).1; omega))
         have HR9 := Lib.hid (strs_grown ((HR.out.up (below_drewN (Below.refl _ _) 1)).alloc (.cells #[.string y] 9)) hg9 (fun e => by have := (HO8.out.blk e.symm).1; omega))
         have d5 := HM9.out.1.cell 2; have e5 := HM9.out.1.frozen 2
         simp only [List.getElem?_cons_zero, List.getElem?_cons_succ] at d5
         (try (refine hK _ _ ?_; clear hK K))
         (try simp only [Act.put, List.setIfInBounds_toArray, List.set_cons_zero, List.set_cons_succ])
         refine wpAny_ready (rs := [8]) (by kernel_rfl) (by simp) ?_
         refine AllReady.cons (o := _) rfl (fun K hK => ?_) (AllReady.nil)
         go_simp
         (try (refine hK _ _ ?_; clear hK K))
         (try simp only [Act.put, List.setIfInBounds_toArray, List.set_cons_zero, List.set_cons_succ])
         refine wpAny_ready (rs := [9]) (by kernel_rfl) (by simp) ?_
         refine AllReady.cons (o := _) rfl (fun K hK => ?_) (AllReady.nil)
         go_simp
         (try (refine hK _ _ ?_; clear hK K))
         (try simp only [Act.put, List.setIfInBounds_toArray, List.set_cons_zero, List.set_cons_succ])
         refine wpAny_done (by kernel_rfl) ?_ _
         (try simp only [Act.put, List.setIfInBounds_toArray, List.set_cons_zero, List.set_cons_succ])
         have HZ9 := Lib.hid (good_snoc HZ.out gy)
         have HMF := Lib.hid (HM9.out.put (v' := .slice A3 (m + 1 + q + 1) c3))
         have HOF := Lib.hid (own_put (b := w3.heap.size) (v' := .slice A3 (m + 1 + q + 1) c3) ho9 (by omega))
         have HRF := Lib.hid (strs_grown HR9.out (only_set w9 (p := ⟨w3.heap.size, 2, none⟩) (.slice A3 (m + 1 + q + 1) c3)) (fun e => by injection e with e; dsimp only at e; omega))
         have hs12 : wb ≤ (w9.setCell ⟨w3.heap.size, 2, none⟩ (.slice A3 (m + 1 + q + 1) c3)).heap.size := by have := hg9.size; simp at this ⊢; omega
         clear d2 d4 d5 e2 e5
         go_wp2
         go_roundw
         case rel => exact ⟨k, q + 1, A3, c3, L ++ [y], by omega, by go_num, HMF, HOF, HZ9, HRF, hs12⟩
         case measure => simp [intOf] <;> omega
        ·go_simp
         (try (refine hK _ _ ?_; clear hK K))
         (try simp only [Act.put, List.setIfInBounds_toArray, List.set_cons_zero, List.set_cons_succ])
         refine wpAny_ready (rs := [1, 6]) (by kernel_rfl) (by simp) ?_
         refine AllReady.cons (o := _) rfl (fun K hK => ?_) (AllReady.cons (o := _) rfl (fun K hK => ?_) (AllReady.nil))
         ·go_simp
          (try (refine hK _ _ ?_; clear hK K))
          (try simp only [Act.put, List.setIfInBounds_toArray, List.set_cons_zero, List.set_cons_succ])
          refine wpAny_ready (rs := [6]) (by kernel_rfl) (by simp) ?_
          refine AllReady.cons (o := _) rfl (fun K hK => ?_) (AllReady.nil)
          go_simp
          (try (refine hK _ _ ?_; clear hK K))
          (try simp only [Act.put, List.setIfInBounds_toArray, List.set_cons_zero, List.set_cons_succ])
          refine wpAny_ready (rs := [7]) (by kernel_rfl) (by simp) ?_
          refine AllReady.cons (o := _) rfl (fun K hK => ?_) (AllReady.nil)
          refine step_append_rec Tryz.elStr (by rfl) _ _ (by rfl) (by rfl) (HO8.out.alloc _) y (by rfl) (Box.at_ _ [.string y] _ (by rfl)) (strE_one _) (by omega) (by decide) (by simp; omega) ?_
          intro A3 c3 w9 ho9 hg9 hb9
          have HM9 := Lib.hid ((HM.out.drew.alloc (.cells #[.string y] 9)).grown hg9 (fun k hk => by have := (HO8.out.blk hk).1; omega))
          have HR9 := Lib.hid (strs_grown ((HR.out.up (below_drewN (Below.refl _ _) 1)).alloc (.cells #[.string y] 9)) hg9 (fun e => by have := (HO8.out.blk e.symm).1; omega))
          have d5 := HM9.out.1.cell 2; have e5 := HM9.out.1.frozen 2
          simp only [List.getElem?_cons_zero, List.getElem?_cons_succ] at d5
          (try (refine hK _ _ ?_; clear hK K))
          (try simp only [Act.put, List.setIfInBounds_toArray, List.set_cons_zero, List.set_cons_succ])
          refine wpAny_ready (rs := [8]) (by kernel_rfl) (by simp) ?_
          refine AllReady.cons (o := _) rfl (fun K hK => ?_) (AllReady.nil)
          go_simp
          (try (refine hK _ _ ?_; clear hK K))
          (try simp only [Act.put, List.setIfInBounds_toArray, List.set_cons_zero, List.set_cons_succ])
          refine wpAny_ready (rs := [9]) (by kernel_rfl) (by simp) ?_
          refine AllReady.cons (o := _) rfl (fun K hK => ?_) (AllReady.nil)
          go_simp
          (try (refine hK _ _ ?_; clear hK K))
          (try simp only [Act.put, List.setIfInBounds_toArray, List.set_cons_zero, List.set_cons_succ])
          refine wpAny_done (by kernel_rfl) ?_ _
          (try simp only [Act.put, List.setIfInBounds_toArray, List.set_cons_zero, List.set_cons_succ])
          have HZ9 := Lib.hid (good_snoc HZ.out gy)
          have HMF := Lib.hid (HM9.out.put (v' := .slice A3 (m + 1 + q + 1) c3))
          have HOF := Lib.hid (own_put (b := w3.heap.size) (v' := .slice A3 (m + 1 + q + 1) c3) ho9 (by omega))
          have HRF := Lib.hid (strs_grown HR9.out (only_set w9 (p := ⟨w3.heap.size, 2, none⟩) (.slice A3 (m + 1 + q + 1) c3)) (fun e => by injection e with e; dsimp only at e; omega))
          have hs12 : wb ≤ (w9.setCell ⟨w3.heap.size, 2, none⟩ (.slice A3 (m + 1 + q + 1) c3)).heap.size := by have := hg9.size; simp at this ⊢; omega
          clear d2 d4 d5 e2 e5
          go_wp2
          go_roundw
          case rel => exact ⟨k, q + 1, A3, c3, L ++ [y], by omega, by go_num, HMF, HOF, HZ9, HRF, hs12⟩
          case measure => simp [intOf] <;> omega
         ·go_simp
          (try (refine hK _ _ ?_; clear hK K))
          (try simp only [Act.put, List.setIfInBounds_toArray, List.set_cons_zero, List.set_cons_succ])
          refine wpAny_ready (rs := [1]) (by kernel_rfl) (by simp) ?_
          refine AllReady.cons (o := _) rfl (fun K hK => ?_) (AllReady.nil)
          go_simp
          (try (refine hK _ _ ?_; clear hK K))
          (try simp only [Act.put, List.setIfInBounds_toArray, List.set_cons_zero, List.set_cons_succ])
          refine wpAny_ready (rs := [7]) (by kernel_rfl) (by simp) ?_
          refine AllReady.cons (o := _) rfl (fun K hK => ?_) (AllReady.nil)
          refine step_append_rec Tryz.elStr (by rfl) _ _ (by rfl) (by rfl) (HO8.out.alloc _) y (by rfl) (Box.at_ _ [.string y] _ (by rfl)) (strE_one _) (by omega) (by decide) (by simp; omega) ?_
          intro A3 c3 w9 ho9 hg9 hb9
          have HM9 := Lib.hid ((HM.out.drew.alloc (.cells #[.string y] 9)).grown hg9 (fun k hk => by have := (HO8.out.blk hk).1; omega))
          have HR9 := Lib.hid (strs_grown ((HR.out.up (below_drewN (Below.refl _ _) 1)).alloc (.cells #[.string y] 9)) hg9 (fun e => by have := (HO8.out.blk e.symm).1; omega))
          have d5 := HM9.out.1.cell 2; have e5 := HM9.out.1.frozen 2
          simp only [List.getElem?_cons_zero, List.getElem?_cons_succ] at d5
          (try (refine hK _ _ ?_; clear hK K))
          (try simp only [Act.put, List.setIfInBounds_toArray, List.set_cons_zero, List.set_cons_succ])
          refine wpAny_ready (rs := [8]) (by kernel_rfl) (by simp) ?_
          refine AllReady.cons (o := _) rfl (fun K hK => ?_) (AllReady.nil)
          go_simp
          (try (refine hK _ _ ?_; clear hK K))
          (try simp only [Act.put, List.setIfInBounds_toArray, List.set_cons_zero, List.set_cons_succ])
          refine wpAny_ready (rs := [9]) (by kernel_rfl) (by simp) ?_
          refine AllReady.cons (o := _) rfl (fun K hK => ?_) (AllReady.nil)
          go_simp
          (try (refine hK _ _ ?_; clear hK K))
          (try simp only [Act.put, List.setIfInBounds_toArray, List.set_cons_zero, List.set_cons_succ])
          refine wpAny_done (by kernel_rfl) ?_ _
          (try simp only [Act.put, List.setIfInBounds_toArray, List.set_cons_zero, List.set_cons_succ])
          have HZ9 := Lib.hid (good_snoc HZ.out gy)
          have HMF := Lib.hid (HM9.out.put (v' := .slice A3 (m + 1 + q + 1) c3))
          have HOF := Lib.hid (own_put (b := w3.heap.size) (v' := .slice A3 (m + 1 + q + 1) c3) ho9 (by omega))
          have HRF := Lib.hid (strs_grown HR9.out (only_set w9 (p := ⟨w3.heap.size, 2, none⟩) (.slice A3 (m + 1 + q + 1) c3)) (fun e => by injection e with e; dsimp only at e; omega))
          have hs12 : wb ≤ (w9.setCell ⟨w3.heap.size, 2, none⟩ (.slice A3 (m + 1 + q + 1) c3)).heap.size := by have := hg9.size; simp at this ⊢; omega
          clear d2 d4 d5 e2 e5
          go_wp2
          go_roundw
          case rel => exact ⟨k, q + 1, A3, c3, L ++ [y], by omega, by go_num, HMF, HOF, HZ9, HRF, hs12⟩
          case measure => simp [intOf] <;> omega
  ·have hM5 := HM5.out
   rcases Nat.mod_two_eq_zero_or_one st with hpar | hpar
   ·have hI : ¬ ((st : Int) % 2 = 1) := by omega
    have hpe : ((st : Int) % 2 == 1) = false := by simpa using hI
    go_wp2_with fail
    refine (spec_l4Hunting (N := st) (by omega) (by omega) (hunt_one st (by omega) (by omega) hpar).2.2).mono ?_; rintro e w6 ⟨A6, c6, L6, rfl, HO6, HZ6, hb6⟩
    have HM6 := hM5.up hb6
    have g2 := HM6.1.cell 2; have e2 := HM6.1.frozen 2
    have hsw : w3.heap.size < w5.heap.size := hM5.1.lt
    simp only [List.getElem?_cons_zero, List.getElem?_cons_succ] at g2
    have HM := Lib.hid (HM6.put (v' := .slice A6 (2 * st) c6))
    have HO := Lib.hid ((own_put (b := w3.heap.size) (v' := .slice A6 (2 * st) c6) HO6 (by omega)).base_le (show w3.heap.size + 1 ≤ w5.heap.size by omega))
    have HZ := Lib.hid HZ6
    obtain ⟨K1, K2, ⟨rx, ry, rz, K3⟩, K4, K5, K6⟩ := HM.out
    have kc0 := K1.cell 0; have kc1 := K1.cell 1; have kc2 := K1.cell 2
    have kd0 := K3.cell 0; have kd1 := K3.cell 1; have kd2 := K3.cell 2
    have kf0 := K3.frozen 0; have kf1 := K3.frozen 1; have kf2 := K3.frozen 2
    simp only [List.getElem?_cons_zero, List.getElem?_cons_succ] at kc0 kc1 kc2 kd0 kd1 kd2
    have Z := ((K3.set_ 0 (.string nm)).set_ 1 (.int .i64 (st : Int))).set_ 2 (.slice A6 (2 * st) c6)
    have y0 := Z.cell 0; have y1 := Z.cell 1; have y2 := Z.cell 2
    simp only [List.set_cons_zero, List.set_cons_succ, List.getElem?_cons_zero, List.getElem?_cons_succ] at y0 y1 y2
    have HK := Lib.hid K2; have HGR := Lib.hid K4
    clear K1 K2 K3 K4 Z
    go_wp2_with fail
    refine bodyPost_ret (v := .agg #[.string nm, .int .i64 (st : Int), .slice A6 (2 * st) c6]) (by simp [results, Tryz.results180, go_sem, y0, y1, y2]) rfl ?_
    exact fin.out _ _ _ _ _ _ HGR.out (HK.out.mono (by omega)) HO.out (by omega) (by omega) HZ.out (grownBy_trans (grownBy_trans (only_set _ (p := ⟨w.heap.size, 0, none⟩) _) (only_set _ (p := ⟨w.heap.size, 1, none⟩) _)) (only_set _ (p := ⟨w.heap.size, 2, none⟩) _))
   ·have hI : (st : Int) % 2 = 1 := by omega
    have hpe : ((st : Int) % 2 == 1) = true := by simpa using hI
    have hd1 : (dig1 (st : Int)).size = 1 := rfl
    go_wp2_with fail
    refine (spec_l1Num_1 (by omega) (by omega)).mono ?_; rintro e w7 ⟨rfl, hb7⟩
    have hM7 := hM5.up hb7
    go_wp2_with fail
    refine (spec_l4Hunting (N := st) (by omega) (by omega) (hunt_two st (by omega) (by omega) hpar).2.2).mono ?_; rintro e w6 ⟨A6, c6, L6, rfl, HO6, HZ6, hb6⟩
    have HM6 := hM7.up hb6
    have g2 := HM6.1.cell 2; have e2 := HM6.1.frozen 2
    have hsw : w3.heap.size < w7.heap.size := hM7.1.lt
    simp only [List.getElem?_cons_zero, List.getElem?_cons_succ] at g2
    have HM := Lib.hid (HM6.put (v' := .slice A6 (2 * st) c6))
    have HO := Lib.hid ((own_put (b := w3.heap.size) (v' := .slice A6 (2 * st) c6) HO6 (by omega)).base_le (show w3.heap.size + 1 ≤ w7.heap.size by omega))
    have HZ := Lib.hid HZ6
    obtain ⟨K1, K2, ⟨rx, ry, rz, K3⟩, K4, K5, K6⟩ := HM.out
    have kc0 := K1.cell 0; have kc1 := K1.cell 1; have kc2 := K1.cell 2
    have kd0 := K3.cell 0; have kd1 := K3.cell 1; have kd2 := K3.cell 2
    have kf0 := K3.frozen 0; have kf1 := K3.frozen 1; have kf2 := K3.frozen 2
    simp only [List.getElem?_cons_zero, List.getElem?_cons_succ] at kc0 kc1 kc2 kd0 kd1 kd2
    have Z := ((K3.set_ 0 (.string nm)).set_ 1 (.int .i64 (st : Int))).set_ 2 (.slice A6 (2 * st) c6)
    have y0 := Z.cell 0; have y1 := Z.cell 1; have y2 := Z.cell 2
    simp only [List.set_cons_zero, List.set_cons_succ, List.getElem?_cons_zero, List.getElem?_cons_succ] at y0 y1 y2
    have HK := Lib.hid K2; have HGR := Lib.hid K4
    clear K1 K2 K3 K4 Z
    go_wp2_with fail
    refine bodyPost_ret (v := .agg #[.string nm, .int .i64 (st : Int), .slice A6 (2 * st) c6]) (by simp [results, Tryz.results180, go_sem, y0, y1, y2]) rfl ?_
    exact fin.out _ _ _ _ _ _ HGR.out (HK.out.mono (by omega)) HO.out (by omega) (by omega) HZ.out (grownBy_trans (grownBy_trans (only_set _ (p := ⟨w.heap.size, 0, none⟩) _) (only_set _ (p := ⟨w.heap.size, 1, none⟩) _)) (only_set _ (p := ⟨w.heap.size, 2, none⟩) _))
 ·have hI4 : ¬ (4 : Int) ≤ (st : Int) := by omega
  go_wp2_with fail
  obtain ⟨w4, hw4⟩ : ∃ u, u = w3.alloc (.cells #[.string nm, .int .i64 (st : Int), .slice none 0 0] 25) := ⟨_, rfl⟩
  rw [← hw4] at M3 ⊢
  clear hw4
  have HM5 := Lib.hid (M3.mono (show a + 1 + 1 ≤ a + 1 + 1 + 1 by omega))
  clear M3
  refine (cur_one HS.out (G.out _ HM5.out.2.2.2.1) hp HM5.out.2.1 (by omega) (by decide) (by decide)).mono ?_; rintro e w6 ⟨b2, rfl, hc6, hg6⟩
  have HM6 := Lib.hid (HM5.out.draw hg6 hc6)
  clear hc6 hg6
  rcases b2
  ·go_wp2_with fail
   refine (cur_pick HS.out (G.out _ HM6.out.2.2.2.1) hp HM6.out.2.1 (by omega) (by decide) (by decide)).mono ?_; rintro e w7 ⟨x, rfl, ⟨x0, x1⟩, hc7, hg7⟩
   have HM7 := Lib.hid (HM6.out.draw hg7 hc7)
   obtain ⟨X, rfl⟩ := Int.eq_ofNat_of_zero_le x0
   have hX : X ≤ 7 := by omega
   clear hc7 hg7 x0 x1
   go_wp2
   go_loopw [9] (fun i wr => ∃ (k m : Nat) (A' : Option Addr) (c' : Nat) (L : List ByteArray), k + m = X + 1 ∧ i = .int .i64 k ∧ Hid (MSt w wr p A n c (a + 10 + m) w3.heap.size nm st (.slice A' m c')) ∧ Hid (Owned strE 1 9 wr (w3.heap.size + 1) A' m c' L) ∧ Hid (∀ x ∈ L, goodChange st x = true) ∧ w3.heap.size < wr.heap.size) (fun i _ => (intOf i).toNat)
   case atStart => exact ⟨X + 1, 0, none, 0, [], rfl, by go_num, Lib.hid (HM7.out.mono (by omega)), Lib.hid (Owned.nil strE_len _ _ _), Lib.hid (fun s hs => by cases hs), HM7.out.1.lt⟩
   case round =>
    obtain ⟨k, m, A2, c2, L, hkm, rfl, HM, HO, HZ, hbr⟩ := hrel
    rename World => wr
    by_cases h0 : 0 < k
    ·have hI : (0 : Int) < (k : Int) := by omega
     have hOl := HO.out.len
     go_upto_region 6 with fail
     obtain ⟨K1, _, _, _, K5, K6⟩ := HM.out
     have d2 := K1.cell 2; have e2 := K1.frozen 2
     simp only [List.getElem?_cons_zero, List.getElem?_cons_succ] at d2
     clear K1
     refine wp_region_any (by kernel_rfl) ?_
     (try (change wpAny _ _ _ _ _ _ _ (World.drew _)))
     refine wpAny_take (i := 0) (oi := { dst := some 25, op := _, type := _, pos := _, after := _, guard := _ }) (v := ?_) rfl (by kernel_rfl) (by kernel_rfl) (by kernel_rfl) (fun _ _ _ h => h) (Or.inl ⟨by rfl, ?_⟩) ?_
     rotate_left
     ·(intro w; go_simp) <;> with_reducible rfl
     (try simp only [Act.put, List.setIfInBounds_toArray, List.set_cons_zero, List.set_cons_succ])
     refine wpAny_take (i := 2) (oi := { dst := some 27, op := _, type := _, pos := _, after := _, guard := _ }) (v := ?_) rfl (by kernel_rfl) (by kernel_rfl) (by kernel_rfl) (fun _ _ _ h => h) (Or.inl ⟨by rfl, ?_⟩) ?_
     rotate_left
     ·(intro w; go_simp) <;> with_reducible rfl
     (try simp only [Act.put, List.setIfInBounds_toArray, List.set_cons_zero, List.set_cons_succ])
     refine wpAny_take (i := 3) (oi := { dst := some 28, op := _, type := _, pos := _, after := _, guard := _ }) (v := ?_) rfl (by kernel_rfl) (by kernel_rfl) (by kernel_rfl) (fun _ _ _ h => h) (Or.inl ⟨by rfl, ?_⟩) ?_
     rotate_left
     ·(intro w; go_simp) <;> with_reducible rfl
     (try simp only [Act.put, List.setIfInBounds_toArray, List.set_cons_zero, List.set_cons_succ])
     refine wpAny_ready (rs := [1, 4]) (by kernel_rfl) (by simp) ?_
     refine AllReady.cons (o := _) rfl (fun K hK => ?_) (AllReady.cons (o := _) rfl (fun K hK => ?_) (AllReady.nil))
     ·go_simp
      (try (refine hK _ _ ?_; clear hK K))
      (try simp only [Act.put, List.setIfInBounds_toArray, List.set_cons_zero, List.set_cons_succ])
      refine wpAny_ready (rs := [4]) (by kernel_rfl) (by simp) ?_
      refine AllReady.cons (o := _) rfl (fun K hK => ?_) (AllReady.nil)
      go_simp
      refine (cur_change HS.out (G.out _ HM.out.drew.2.2.2.1) hp HM.out.drew.2.1 (by omega) (by omega) (by omega)).mono ?_; rintro e w8 ⟨x8, rfl, gx8, zx8, hc8, hg8⟩
      have HM8 := Lib.hid (HM.out.drew.draw hg8 hc8)
      have HO8 := Lib.hid ((HO.out.up (below_drewN (Below.refl _ _) 1)).past hg8 (by omega))
      have d3 := HM8.out.1.cell 2
      simp only [List.getElem?_cons_zero, List.getElem?_cons_succ] at d3
      have d4 := (HM8.out.alloc (.cells #[.string x8] 9)).1.cell 2
      simp only [List.getElem?_cons_zero, List.getElem?_cons_succ] at d4
      try go_wp2_with fail
      (try (refine hK _ _ ?_; clear hK K))
      (try simp only [Act.put, List.setIfInBounds_toArray, List.set_cons_zero, List.set_cons_succ])
      refine wpAny_ready (rs := [5]) (by kernel_rfl) (by simp) ?_
      refine AllReady.cons (o := _) rfl (fun K hK => ?_) (AllReady.nil)
      go_simp
      (try (refine hK _ _ ?_; clear hK K))
      (try simp only [Act.put, List.setIfInBounds_toArray, List.set_cons_zero, List.set_cons_succ])
      refine wpAny_ready (rs := [6]) (by kernel_rfl) (by simp) ?_
      refine AllReady.cons (o := _) rfl (fun K hK => ?_) (AllReady.nil)
      refine step_append_rec Tryz.elStr (by rfl) _ _ (by rfl) (by rfl) (HO8.out.alloc _) x8 (by rfl) (Box.at_ _ [.string x8] _ (by rfl)) (strE_one _) (by omega) (by decide) (by have h1 := HM8.out.1.lt; have h2 := hg8.size; simp at h2 ⊢; omega) ?_
      intro A3 c3 w9 ho9 hg9 hb9
      have HM9 := Lib.hid ((HM8.out.alloc (.cells #[.string x8] 9)).grown hg9 (fun k hk => by have := (HO8.out.blk hk).1; omega))
      have d5 := HM9.out.1.cell 2; have e5 := HM9.out.1.frozen 2
      simp only [List.getElem?_cons_zero, List.getElem?_cons_succ] at d5
      (try (refine hK _ _ ?_; clear hK K))
      (try simp only [Act.put, List.setIfInBounds_toArray, List.set_cons_zero, List.set_cons_succ])
      refine wpAny_ready (rs := [7]) (by kernel_rfl) (by simp) ?_
      refine AllReady.cons (o := _) rfl (fun K hK => ?_) (AllReady.nil)
      go_simp
      (try (refine hK _ _ ?_; clear hK K))
      (try simp only [Act.put, List.setIfInBounds_toArray, List.set_cons_zero, List.set_cons_succ])
      refine wpAny_ready (rs := [8]) (by kernel_rfl) (by simp) ?_
      refine AllReady.cons (o := _) rfl (fun K hK => ?_) (AllReady.nil)
      go_simp
      (try (refine hK _ _ ?_; clear hK K))
      (try simp only [Act.put, List.setIfInBounds_toArray, List.set_cons_zero, List.set_cons_succ])
      refine wpAny_done (by kernel_rfl) ?_ _
      (try simp only [Act.put, List.setIfInBounds_toArray, List.set_cons_zero, List.set_cons_succ])
      have HZ9 := Lib.hid (good_snoc HZ.out gx8)
      have HMF := Lib.hid (HM9.out.put (v' := .slice A3 (m + 1) c3))
      have HOF := Lib.hid (own_put (b := w3.heap.size) (v' := .slice A3 (m + 1) c3) ho9 (by omega))
      clear d2 d3 d4 d5 e2 e5
      go_wp2
      go_roundw
      case rel => exact ⟨k - 1, m + 1, A3, c3, L ++ [x8], by omega, by go_num, Lib.hid (HMF.out.mono (by omega)), HOF, HZ9, HMF.out.1.lt⟩
      case measure => simp [intOf]; omega
     ·go_simp
      refine (cur_change HS.out (G.out _ HM.out.drew.2.2.2.1) hp HM.out.drew.2.1 (by omega) (by omega) (by omega)).mono ?_; rintro e w8 ⟨x8, rfl, gx8, zx8, hc8, hg8⟩
      have HM8 := Lib.hid (HM.out.drew.draw hg8 hc8)
      have HO8 := Lib.hid ((HO.out.up (below_drewN (Below.refl _ _) 1)).past hg8 (by omega))
      have d3 := HM8.out.1.cell 2
      simp only [List.getElem?_cons_zero, List.getElem?_cons_succ] at d3
      have d4 := (HM8.out.alloc (.cells #[.string x8] 9)).1.cell 2
      simp only [List.getElem?_cons_zero, List.getElem?_cons_succ] at d4
      try go_wp2_with fail
      (try (refine hK _ _ ?_; clear hK K))
      (try simp only [Act.put, List.setIfInBounds_toArray, List.set_cons_zero, List.set_cons_succ])
      refine wpAny_ready (rs := [1, 5]) (by kernel_rfl) (by simp) ?_
      refine AllReady.cons (o := _) rfl (fun K hK => ?_) (AllReady.cons (o := _) rfl (fun K hK => ?_) (AllReady.nil))
      ·go_simp
       (try (refine hK _ _ ?_; clear hK K))
       (try simp only [Act.put, List.setIfInBounds_toArray, List.set_cons_zero, List.set_cons_succ])
       refine wpAny_ready (rs := [5]) (by kernel_rfl) (by simp) ?_
       refine AllReady.cons (o := _) rfl (fun K hK => ?_) (AllReady.nil)
       go_simp
       (try (refine hK _ _ ?_; clear hK K))
       (try simp only [Act.put, List.setIfInBounds_toArray, List.set_cons_zero, List.set_cons_succ])
       refine wpAny_ready (rs := [6]) (by kernel_rfl) (by simp) ?_
       refine AllReady.cons (o := _) rfl (fun K hK => ?_) (AllReady.nil)
       refine step_append_rec Tryz.elStr (by rfl) _ _ (by rfl) (by rfl) (HO8.out.alloc _) x8 (by rfl) (Box.at_ _ [.string x8] _ (by rfl)) (strE_one _) (by omega) (by decide) (by have h1 := HM8.out.1.lt; have h2 := hg8.size; simp at h2 ⊢; omega) ?_
       intro A3 c3 w9 ho9 hg9 hb9
       have HM9 := Lib.hid ((HM8.out.alloc (.cells #[.string x8] 9)).grown hg9 (fun k hk => by have := (HO8.out.blk hk).1; omega))
       have d5 := HM9.out.1.cell 2; have e5 := HM9.out.1.frozen 2
       simp only [List.getElem?_cons_zero, List.getElem?_cons_succ] at d5
       (try (refine hK _ _ ?_; clear hK K))
       (try simp only [Act.put, List.setIfInBounds_toArray, List.set_cons_zero, List.set_cons_succ])
       refine wpAny_ready (rs := [7]) (by kernel_rfl) (by simp) ?_
       refine AllReady.cons (o := _) rfl (fun K hK => ?_) (AllReady.nil)
       go_simp
       (try (refine hK _ _ ?_; clear hK K))
       (try simp only [Act.put, List.setIfInBounds_toArray, List.set_cons_zero, List.set_cons_succ])
       refine wpAny_ready (rs := [8]) (by kernel_rfl) (by simp) ?_
       refine AllReady.cons (o := _) rfl (fun K hK => ?_) (AllReady.nil)
       go_simp
       (try (refine hK _ _ ?_; clear hK K))
       (try simp only [Act.put, List.setIfInBounds_toArray, List.set_cons_zero, List.set_cons_succ])
       refine wpAny_done (by kernel_rfl) ?_ _
       (try simp only [Act.put, List.setIfInBounds_toArray, List.set_cons_zero, List.set_cons_succ])
       have HZ9 := Lib.hid (good_snoc HZ.out gx8)
       have HMF := Lib.hid (HM9.out.put (v' := .slice A3 (m + 1) c3))
       have HOF := Lib.hid (own_put (b := w3.heap.size) (v' := .slice A3 (m + 1) c3) ho9 (by omega))
       clear d2 d3 d4 d5 e2 e5
       go_wp2
       go_roundw
       case rel => exact ⟨k - 1, m + 1, A3, c3, L ++ [x8], by omega, by go_num, Lib.hid (HMF.out.mono (by omega)), HOF, HZ9, HMF.out.1.lt⟩
       case measure => simp [intOf]; omega
      ·go_simp
       (try (refine hK _ _ ?_; clear hK K))
       (try simp only [Act.put, List.setIfInBounds_toArray, List.set_cons_zero, List.set_cons_succ])
       refine wpAny_ready (rs := [1]) (by kernel_rfl) (by simp) ?_
       refine AllReady.cons (o := _) rfl (fun K hK => ?_) (AllReady.nil)
       go_simp
       (try (refine hK _ _ ?_; clear hK K))
       (try simp only [Act.put, List.setIfInBounds_toArray, List.set_cons_zero, List.set_cons_succ])
       refine wpAny_ready (rs := [6]) (by kernel_rfl) (by simp) ?_
       refine AllReady.cons (o := _) rfl (fun K hK => ?_) (AllReady.nil)
       refine step_append_rec Tryz.elStr (by rfl) _ _ (by rfl) (by rfl) (HO8.out.alloc _) x8 (by rfl) (Box.at_ _ [.string x8] _ (by rfl)) (strE_one _) (by omega) (by decide) (by have h1 := HM8.out.1.lt; have h2 := hg8.size; simp at h2 ⊢; omega) ?_
       intro A3 c3 w9 ho9 hg9 hb9
       have HM9 := Lib.hid ((HM8.out.alloc (.cells #[.string x8] 9)).grown hg9 (fun k hk => by have := (HO8.out.blk hk).1; omega))
       have d5 := HM9.out.1.cell 2; have e5 := HM9.out.1.frozen 2
       simp only [List.getElem?_cons_zero, List.getElem?_cons_succ] at d5
       (try (refine hK _ _ ?_; clear hK K))
       (try simp only [Act.put, List.setIfInBounds_toArray, List.set_cons_zero, List.set_cons_succ])
       refine wpAny_ready (rs := [7]) (by kernel_rfl) (by simp) ?_
       refine AllReady.cons (o := _) rfl (fun K hK => ?_) (AllReady.nil)
       go_simp
       (try (refine hK _ _ ?_; clear hK K))
       (try simp only [Act.put, List.setIfInBounds_toArray, List.set_cons_zero, List.set_cons_succ])
       refine wpAny_ready (rs := [8]) (by kernel_rfl) (by simp) ?_
       refine AllReady.cons (o := _) rfl (fun K hK => ?_) (AllReady.nil)
       go_simp
       (try (refine hK _ _ ?_; clear hK K))
       (try simp only [Act.put, List.setIfInBounds_toArray, List.set_cons_zero, List.set_cons_succ])
       refine wpAny_done (by kernel_rfl) ?_ _
       (try simp only [Act.put, List.setIfInBounds_toArray, List.set_cons_zero, List.set_cons_succ])
       have HZ9 := Lib.hid (good_snoc HZ.out gx8)
       have HMF := Lib.hid (HM9.out.put (v' := .slice A3 (m + 1) c3))
       have HOF := Lib.hid (own_put (b := w3.heap.size) (v' := .slice A3 (m + 1) c3) ho9 (by omega))
       clear d2 d3 d4 d5 e2 e5
       go_wp2
       go_roundw
       case rel => exact ⟨k - 1, m + 1, A3, c3, L ++ [x8], by omega, by go_num, Lib.hid (HMF.out.mono (by omega)), HOF, HZ9, HMF.out.1.lt⟩
       case measure => simp [intOf]; omega
    ·obtain rfl : k = 0 := by omega
     have hOl := HO.out.len
     obtain ⟨K1, K2, ⟨rx, ry, rz, K3⟩, K4, K5, K6⟩ := HM.out
     have kc0 := K1.cell 0; have kc1 := K1.cell 1; have kc2 := K1.cell 2
     have kd0 := K3.cell 0; have kd1 := K3.cell 1; have kd2 := K3.cell 2
     have kf0 := K3.frozen 0; have kf1 := K3.frozen 1; have kf2 := K3.frozen 2
     simp only [List.getElem?_cons_zero, List.getElem?_cons_succ] at kc0 kc1 kc2 kd0 kd1 kd2
     have Z := ((K3.set_ 0 (.string nm)).set_ 1 (.int .i64 (st : Int))).set_ 2 (.slice A2 (m) c2)
     have y0 := Z.cell 0; have y1 := Z.cell 1; have y2 := Z.cell 2
     simp only [List.set_cons_zero, List.set_cons_succ, List.getElem?_cons_zero, List.getElem?_cons_succ] at y0 y1 y2
     have HK := Lib.hid K2; have HGR := Lib.hid K4
     clear K1 K2 K3 K4 Z
     go_wp2_with fail
     refine bodyPost_ret (v := .agg #[.string nm, .int .i64 (st : Int), .slice A2 (m) c2]) (by simp [results, Tryz.results180, go_sem, y0, y1, y2]) rfl ?_
     exact fin.out _ _ _ _ _ _ HGR.out (HK.out.mono (by omega)) HO.out (by omega) (by omega) HZ.out (grownBy_trans (grownBy_trans (only_set _ (p := ⟨w.heap.size, 0, none⟩) _) (only_set _ (p := ⟨w.heap.size, 1, none⟩) _)) (only_set _ (p := ⟨w.heap.size, 2, none⟩) _))
  ·go_wp2_with fail
   refine (cur_pick HS.out (G.out _ HM6.out.2.2.2.1) hp HM6.out.2.1 (by omega) (by decide) (by decide)).mono ?_; rintro e w7 ⟨x, rfl, ⟨x0, x1⟩, hc7, hg7⟩
   have HM7 := Lib.hid (HM6.out.draw hg7 hc7)
   obtain ⟨X, rfl⟩ := Int.eq_ofNat_of_zero_le x0
   have hX : X ≤ 3 := by omega
   clear hc7 hg7 x0 x1
   go_wp2
   go_loopw [6, 7] (fun v i wr => ∃ (k m : Nat) (A' : Option Addr) (c' : Nat) (H : List ByteArray), k + m = X + 1 ∧ i = .int .i64 k ∧ v = .slice A' m c' ∧ Hid (MSt w wr p A n c (a + 10 + m) w3.heap.size nm st (.slice none 0 0)) ∧ Hid (Owned strE 1 9 wr (w3.heap.size + 1) A' m c' H) ∧ Hid (∀ x ∈ H, goodChange st x = true) ∧ w3.heap.size < wr.heap.size) (fun _ i _ => (intOf i).toNat)
   case atStart => exact ⟨X + 1, 0, none, 0, [], rfl, by go_num, rfl, Lib.hid (HM7.out.mono (by omega)), Lib.hid (Owned.nil strE_len _ _ _), Lib.hid (fun s hs => by cases hs), HM7.out.1.lt⟩
   case round =>
    obtain ⟨k, m, A2, c2, H, hkm, rfl, rfl, HM, HO, HZ, hbr⟩ := hrel
    rename World => wr
    by_cases h0 : 0 < k
    ·have hI : (0 : Int) < (k : Int) := by omega
     have hOl := HO.out.len
     go_wp2_with fail
     refine (cur_change HS.out (G.out _ HM.out.2.2.2.1) hp HM.out.2.1 (by omega) (by omega) (by omega)).mono ?_; rintro e w8 ⟨x8, rfl, gx8, zx8, hc8, hg8⟩
     have HM8 := Lib.hid (HM.out.draw hg8 hc8)
     have HO8 := Lib.hid (HO.out.past hg8 (by have := HM.out.2.2.2.2; omega))
     have hs8 := HM8.out.1.lt
     have HZ9 := Lib.hid (good_snoc HZ.out gx8)
     clear hc8 hg8
     go_wp2_with (first | (at_builtin; go_must ((refine wpList_append_recs Tryz.elStr strE_one rfl (.tmp 60) (.tmp 64) rfl rfl (HO8.out.alloc _) rfl (own_lit1_at' strE_len _ 9 x8 rfl (Nat.le_refl _)).recs rfl ?_ (by decide) ?_ ?_; (focus (first | omega | (simp only [World.size_alloc]; done) | (simp only [World.size_alloc]; omega) | (simp; done) | (simp; omega))); (simp; omega); intro A3 c3 w9 ho9 hg9 hl9; have HM9 := Lib.hid ((HM8.out.alloc (.cells ⟨[Value.string x8]⟩ 9)).grown hg9 (fun k hk => by have := (HO8.out.blk hk).1; omega))))))
     go_roundw
     case rel => exact ⟨k - 1, m + 1, A3, c3, H ++ [x8], by omega, by go_num, rfl, Lib.hid (HM9.out.mono (by omega)), Lib.hid ho9, HZ9, HM9.out.1.lt⟩
     case measure => simp [intOf]; omega
    ·obtain rfl : k = 0 := by omega
     have hHl := HO.out.len
     obtain ⟨gH, rfl, gH0, gH1, _, _⟩ := HO.out.at_ (by omega)
     have HR := Lib.hid HO.out.recs
     have HG := Lib.hid HZ.out
     go_wp2_with fail
     refine (spec_l1OwnS hHl HR.out (by omega)).mono ?_; rintro e w8 ⟨A3, c3, rfl, ho3, hb3⟩
     have HM3 := Lib.hid (HM.out.up hb3)
     have HR3 := Lib.hid (HR.out.up hb3)
     have hs3 := hb3.size
     clear hb3
     go_wp2_with fail
     refine (cur_change HS.out (G.out _ HM3.out.2.2.2.1) hp HM3.out.2.1 (by omega) (by omega) (by omega)).mono ?_; rintro e w9 ⟨x9, rfl, gx9, zx9, hc9, hg9⟩
     have hpb := HM3.out.2.2.2.2
     have HM4 := Lib.hid (HM3.out.draw hg9 hc9)
     have HO4 := Lib.hid (ho3.past hg9 (by omega))
     have HR4 := Lib.hid (strs_grown HR3.out hg9 (fun e => by injection e with e; omega))
     have hs9 := hg9.size
     have HZ4 := Lib.hid (good_snoc HZ.out gx9)
     have HML := Lib.hid (HM4.out.alloc (.cells ⟨[Value.string x9]⟩ 9))
     have HRL := Lib.hid (HR4.out.alloc (.cells ⟨[Value.string x9]⟩ 9))
     have hs9' : wr.heap.size ≤ (w9.alloc (.cells ⟨[Value.string x9]⟩ 9)).heap.size := by simp; omega
     obtain ⟨wb, hwb⟩ : ∃ b, b = wr.heap.size := ⟨_, rfl⟩
     rw [← hwb] at ho3 HO4 gH1 hs3 hs9' 
     clear hc9 hg9 ho3 HM3 HR3
     go_wp2_with (first | (at_builtin; go_must ((refine wpList_append_recs Tryz.elStr strE_one rfl (.tmp 67) (.tmp 71) rfl rfl (HO4.out.alloc _) rfl (own_lit1_at' strE_len _ 9 x9 rfl (Nat.le_refl _)).recs rfl ?_ (by decide) ?_ ?_; (focus (first | omega | (simp only [World.size_alloc]; done) | (simp only [World.size_alloc]; omega) | (simp; done) | (simp; omega))); (simp; omega); intro A5 c5 w10 ho5 hg5 hl5; have HM5 := Lib.hid (HML.out.grown hg5 (fun k hk => by have := (HO4.out.blk hk).1; omega)); have HR5 := Lib.hid (strs_grown HRL.out hg5 (fun e => by have := (HO4.out.blk e.symm).1; omega)); have g2 := HM5.out.1.cell 2; have e2 := HM5.out.1.frozen 2; simp only [List.getElem?_cons_zero, List.getElem?_cons_succ] at g2; have HMF := Lib.hid (HM5.out.put (v' := .slice A5 (m + 1) c5)); have HOF := Lib.hid (own_put (b := w3.heap.size) (v' := .slice A5 (m + 1) c5) ho5 (by omega)); have HRF := Lib.hid (strs_grown HR5.out (only_set w10 (p := ⟨w3.heap.size, 2, none⟩) (.slice A5 (m + 1) c5)) (fun e => by injection e with e; dsimp only at e; omega))))))
     obtain ⟨w11, hw11⟩ : ∃ u, u = w10.setCell ⟨w3.heap.size, 2, none⟩ (.slice A5 (m + 1) c5) := ⟨_, rfl⟩
     rw [← hw11] at HMF HOF HRF ⊢
     have hB4 : w3.heap.size < wb := by omega
     have hs11 : wb ≤ w11.heap.size := by have := hg5.size; rw [hw11]; simp at this ⊢; omega
     clear hw11 ho5 hg5 hl5 HM5 HR5 g2 e2 HM4 HO4 HR4 HML HRL
     go_wp2
     go_loopw [8] (fun i wr => ∃ (k q : Nat) (A' : Option Addr) (c' : Nat) (L : List ByteArray), k + q = m ∧ i = .int .i64 ((k : Int) - 1) ∧ Hid (MSt w wr p A n c (a + 20 + m) w3.heap.size nm st (.slice A' (m + 1 + q) c')) ∧ Hid (Owned strE 1 9 wr wb A' (m + 1 + q) c' L) ∧ Hid (∀ x ∈ L, goodChange st x = true) ∧ Hid (Strs wr (some ⟨gH, 0, none⟩) H) ∧ wb ≤ wr.heap.size) (fun i _ => (intOf i + 1).toNat)
     case atStart => exact ⟨m, 0, A5, c5, H ++ [x9], rfl, by go_num, Lib.hid (HMF.out.mono (by omega)), HOF, HZ4, HRF, hs11⟩
     case round =>
      obtain ⟨k, q, A2, c2, L, hkq, rfl, HM, HO, HZ, HR, hsr⟩ := hrel
      rename World => wr
      have hOl := HO.out.len
      rcases k with _ | k
      ·rw [show (((0 : Nat) : Int) - 1) = -1 by omega]
       obtain rfl : q = m := by omega
       go_upto_region 23 with fail
       obtain ⟨K1, _, _, _, K5, K6⟩ := HM.out
       have d2 := K1.cell 2; have e2 := K1.frozen 2
       simp only [List.getElem?_cons_zero, List.getElem?_cons_succ] at d2
       clear K1
       refine wp_region_any (by kernel_rfl) ?_
       (try (change wpAny _ _ _ _ _ _ _ (World.drew _)))
       refine wpAny_take (i := 0) (oi := { dst := some 90, op := _, type := _, pos := _, after := _, guard := _ }) (v := ?_) rfl (by kernel_rfl) (by kernel_rfl) (by kernel_rfl) (fun _ _ _ h => h) (Or.inl ⟨by rfl, ?_⟩) ?_
       rotate_left
       ·(intro w; go_simp) <;> with_reducible rfl
       (try simp only [Act.put, List.setIfInBounds_toArray, List.set_cons_zero, List.set_cons_succ])
       refine wpAny_take (i := 2) (oi := { dst := some 92, op := _, type := _, pos := _, after := _, guard := _ }) (v := ?_) rfl (by kernel_rfl) (by kernel_rfl) (by kernel_rfl) (fun _ _ _ h => h) (Or.inl ⟨by rfl, ?_⟩) ?_
       rotate_left
       ·(intro w; go_simp) <;> with_reducible rfl
       (try simp only [Act.put, List.setIfInBounds_toArray, List.set_cons_zero, List.set_cons_succ])
       refine wpAny_take (i := 3) (oi := { dst := some 93, op := _, type := _, pos := _, after := _, guard := _ }) (v := ?_) rfl (by kernel_rfl) (by kernel_rfl) (by kernel_rfl) (fun _ _ _ h => h) (Or.inl ⟨by rfl, ?_⟩) ?_
       rotate_left
       ·(intro w; go_simp) <;> with_reducible rfl
       (try simp only [Act.put, List.setIfInBounds_toArray, List.set_cons_zero, List.set_cons_succ])
       refine wpAny_ready (rs := [1, 4]) (by kernel_rfl) (by simp) ?_
       refine AllReady.cons (o := _) rfl (fun K hK => ?_) (AllReady.cons (o := _) rfl (fun K hK => ?_) (AllReady.nil))
       ·go_simp
        (try (refine hK _ _ ?_; clear hK K))
        (try simp only [Act.put, List.setIfInBounds_toArray, List.set_cons_zero, List.set_cons_succ])
        refine wpAny_ready (rs := [4]) (by kernel_rfl) (by simp) ?_
        refine AllReady.cons (o := _) rfl (fun K hK => ?_) (AllReady.nil)
        go_simp
        refine (cur_change HS.out (G.out _ HM.out.drew.2.2.2.1) hp HM.out.drew.2.1 (by omega) (by omega) (by omega)).mono ?_; rintro e w8 ⟨x8, rfl, gx8, zx8, hc8, hg8⟩
        have HM8 := Lib.hid (HM.out.drew.draw hg8 hc8)
        have HO8 := Lib.hid ((HO.out.up (below_drewN (Below.refl _ _) 1)).past hg8 (by omega))
        have d3 := HM8.out.1.cell 2
        simp only [List.getElem?_cons_zero, List.getElem?_cons_succ] at d3
        have d4 := (HM8.out.alloc (.cells #[.string x8] 9)).1.cell 2
        simp only [List.getElem?_cons_zero, List.getElem?_cons_succ] at d4
        try go_wp2_with fail
        (try (refine hK _ _ ?_; clear hK K))
        (try simp only [Act.put, List.setIfInBounds_toArray, List.set_cons_zero, List.set_cons_succ])
        refine wpAny_ready (rs := [5]) (by kernel_rfl) (by simp) ?_
        refine AllReady.cons (o := _) rfl (fun K hK => ?_) (AllReady.nil)
        go_simp
        (try (refine hK _ _ ?_; clear hK K))
        (try simp only [Act.put, List.setIfInBounds_toArray, List.set_cons_zero, List.set_cons_succ])
        refine wpAny_ready (rs := [6]) (by kernel_rfl) (by simp) ?_
        refine AllReady.cons (o := _) rfl (fun K hK => ?_) (AllReady.nil)
        refine step_append_rec Tryz.elStr (by rfl) _ _ (by rfl) (by rfl) (HO8.out.alloc _) x8 (by rfl) (Box.at_ _ [.string x8] _ (by rfl)) (strE_one _) (by omega) (by decide) (by have h1 := HM8.out.1.lt; have h2 := hg8.size; simp at h2 ⊢; omega) ?_
        intro A3 c3 w9 ho9 hg9 hb9
        have HM9 := Lib.hid ((HM8.out.alloc (.cells #[.string x8] 9)).grown hg9 (fun k hk => by have := (HO8.out.blk hk).1; omega))
        have d5 := HM9.out.1.cell 2; have e5 := HM9.out.1.frozen 2
        simp only [List.getElem?_cons_zero, List.getElem?_cons_succ] at d5
        (try (refine hK _ _ ?_; clear hK K))
        (try simp only [Act.put, List.setIfInBounds_toArray, List.set_cons_zero, List.set_cons_succ])
        refine wpAny_ready (rs := [7]) (by kernel_rfl) (by simp) ?_
        refine AllReady.cons (o := _) rfl (fun K hK => ?_) (AllReady.nil)
        go_simp
        (try (refine hK _ _ ?_; clear hK K))
        (try simp only [Act.put, List.setIfInBounds_toArray, List.set_cons_zero, List.set_cons_succ])
        refine wpAny_ready (rs := [8]) (by kernel_rfl) (by simp) ?_
        refine AllReady.cons (o := _) rfl (fun K hK => ?_) (AllReady.nil)
        go_simp
        (try (refine hK _ _ ?_; clear hK K))
        (try simp only [Act.put, List.setIfInBounds_toArray, List.set_cons_zero, List.set_cons_succ])
        refine wpAny_done (by kernel_rfl) ?_ _
        (try simp only [Act.put, List.setIfInBounds_toArray, List.set_cons_zero, List.set_cons_succ])
        have HZ := Lib.hid (good_snoc HZ.out gx8)
        have HM := Lib.hid (HM9.out.put (v' := .slice A3 (q + 1 + q + 1) c3))
        have HO := Lib.hid ((own_put (b := w3.heap.size) (v' := .slice A3 (q + 1 + q + 1) c3) ho9 (by omega)).base_le (show w3.heap.size + 1 ≤ wb by omega))
        clear d2 d3 d4 d5 e2 e5 HM8 HO8 HM9 ho9 hg9 hb9 hc8 hg8 K5 K6
        obtain ⟨K1, K2, ⟨rx, ry, rz, K3⟩, K4, K5, K6⟩ := HM.out
        have kc0 := K1.cell 0; have kc1 := K1.cell 1; have kc2 := K1.cell 2
        have kd0 := K3.cell 0; have kd1 := K3.cell 1; have kd2 := K3.cell 2
        have kf0 := K3.frozen 0; have kf1 := K3.frozen 1; have kf2 := K3.frozen 2
        simp only [List.getElem?_cons_zero, List.getElem?_cons_succ] at kc0 kc1 kc2 kd0 kd1 kd2
        have Z := ((K3.set_ 0 (.string nm)).set_ 1 (.int .i64 (st : Int))).set_ 2 (.slice A3 (q + 1 + q + 1) c3)
        have y0 := Z.cell 0; have y1 := Z.cell 1; have y2 := Z.cell 2
        simp only [List.set_cons_zero, List.set_cons_succ, List.getElem?_cons_zero, List.getElem?_cons_succ] at y0 y1 y2
        have HK := Lib.hid K2; have HGR := Lib.hid K4
        clear K1 K2 K3 K4 Z
        go_wp2_with fail
        refine bodyPost_ret (v := .agg #[.string nm, .int .i64 (st : Int), .slice A3 (q + 1 + q + 1) c3]) (by simp [results, Tryz.results180, go_sem, y0, y1, y2]) rfl ?_
        exact fin.out _ _ _ _ _ _ HGR.out (HK.out.mono (by omega)) HO.out (by omega) (by omega) HZ.out (grownBy_trans (grownBy_trans (only_set _ (p := ⟨w.heap.size, 0, none⟩) _) (only_set _ (p := ⟨w.heap.size, 1, none⟩) _)) (only_set _ (p := ⟨w.heap.size, 2, none⟩) _))
       ·go_simp
        refine (cur_change HS.out (G.out _ HM.out.drew.2.2.2.1) hp HM.out.drew.2.1 (by omega) (by omega) (by omega)).mono ?_; rintro e w8 ⟨x8, rfl, gx8, zx8, hc8, hg8⟩
        have HM8 := Lib.hid (HM.out.drew.draw hg8 hc8)
        have HO8 := Lib.hid ((HO.out.up (below_drewN (Below.refl _ _) 1)).past hg8 (by omega))
        have d3 := HM8.out.1.cell 2
        simp only [List.getElem?_cons_zero, List.getElem?_cons_succ] at d3
        have d4 := (HM8.out.alloc (.cells #[.string x8] 9)).1.cell 2
        simp only [List.getElem?_cons_zero, List.getElem?_cons_succ] at d4
        try go_wp2_with fail
        (try (refine hK _ _ ?_; clear hK K))
        (try simp only [Act.put, List.setIfInBounds_toArray, List.set_cons_zero, List.set_cons_succ])
        refine wpAny_ready (rs := [1, 5]) (by kernel_rfl) (by simp) ?_
        refine AllReady.cons (o := _) rfl (fun K hK => ?_) (AllReady.cons (o := _) rfl (fun K hK => ?_) (AllReady.nil))
        ·go_simp
         (try (refine hK _ _ ?_; clear hK K))
         (try simp only [Act.put, List.setIfInBounds_toArray, List.set_cons_zero, List.set_cons_succ])
         refine wpAny_ready (rs := [5]) (by kernel_rfl) (by simp) ?_
         refine AllReady.cons (o := _) rfl (fun K hK => ?_) (AllReady.nil)
         go_simp
         (try (refine hK _ _ ?_; clear hK K))
         (try simp only [Act.put, List.setIfInBounds_toArray, List.set_cons_zero, List.set_cons_succ])
         refine wpAny_ready (rs := [6]) (by kernel_rfl) (by simp) ?_
         refine AllReady.cons (o := _) rfl (fun K hK => ?_) (AllReady.nil)
         refine step_append_rec Tryz.elStr (by rfl) _ _ (by rfl) (by rfl) (HO8.out.alloc _) x8 (by rfl) (Box.at_ _ [.string x8] _ (by rfl)) (strE_one _) (by omega) (by decide) (by have h1 := HM8.out.1.lt; have h2 := hg8.size; simp at h2 ⊢; omega) ?_
         intro A3 c3 w9 ho9 hg9 hb9
         have HM9 := Lib.hid ((HM8.out.alloc (.cells #[.string x8] 9)).grown hg9 (fun k hk => by have := (HO8.out.blk hk).1; omega))
         have d5 := HM9.out.1.cell 2; have e5 := HM9.out.1.frozen 2
         simp only [List.getElem?_cons_zero, List.getElem?_cons_succ] at d5
         (try (refine hK _ _ ?_; clear hK K))
         (try simp only [Act.put, List.setIfInBounds_toArray, List.set_cons_zero, List.set_cons_succ])
         refine wpAny_ready (rs := [7]) (by kernel_rfl) (by simp) ?_
         refine AllReady.cons (o := _) rfl (fun K hK => ?_) (AllReady.nil)
         go_simp
         (try (refine hK _ _ ?_; clear hK K))
         (try simp only [Act.put, List.setIfInBounds_toArray, List.set_cons_zero, List.set_cons_succ])
         refine wpAny_ready (rs := [8]) (by kernel_rfl) (by simp) ?_
         refine AllReady.cons (o := _) rfl (fun K hK => ?_) (AllReady.nil)
         go_simp
         (try (refine hK _ _ ?_; clear hK K))
         (try simp only [Act.put, List.setIfInBounds_toArray, List.set_cons_zero, List.set_cons_succ])
         refine wpAny_done (by kernel_rfl) ?_ _
         (try simp only [Act.put, List.setIfInBounds_toArray, List.set_cons_zero, List.set_cons_succ])
         have HZ := Lib.hid (good_snoc HZ.out gx8)
         have HM := Lib.hid (HM9.out.put (v' := .slice A3 (q + 1 + q + 1) c3))
         have HO := Lib.hid ((own_put (b := w3.heap.size) (v' := .slice A3 (q + 1 + q + 1) c3) ho9 (by omega)).base_le (show w3.heap.size + 1 ≤ wb by omega))
         clear d2 d3 d4 d5 e2 e5 HM8 HO8 HM9 ho9 hg9 hb9 hc8 hg8 K5 K6
         obtain ⟨K1, K2, ⟨rx, ry, rz, K3⟩, K4, K5, K6⟩ := HM.out
         have kc0 := K1.cell 0; have kc1 := K1.cell 1; have kc2 := K1.cell 2
         have kd0 := K3.cell 0; have kd1 := K3.cell 1; have kd2 := K3.cell 2
         have kf0 := K3.frozen 0; have kf1 := K3.frozen 1; have kf2 := K3.frozen 2
         simp only [List.getElem?_cons_zero, List.getElem?_cons_succ] at kc0 kc1 kc2 kd0 kd1 kd2
         have Z := ((K3.set_ 0 (.string nm)).set_ 1 (.int .i64 (st : Int))).set_ 2 (.slice A3 (q + 1 + q + 1) c3)
         have y0 := Z.cell 0; have y1 := Z.cell 1; have y2 := Z.cell 2
         simp only [List.set_cons_zero, List.set_cons_succ, List.getElem?_cons_zero, List.getElem?_cons_succ] at y0 y1 y2
         have HK := Lib.hid K2; have HGR := Lib.hid K4
         clear K1 K2 K3 K4 Z
         go_wp2_with fail
         refine bodyPost_ret (v := .agg #[.string nm, .int .i64 (st : Int), .slice A3 (q + 1 + q + 1) c3]) (by simp [results, Tryz.results180, go_sem, y0, y1, y2]) rfl ?_
         exact fin.out _ _ _ _ _ _ HGR.out (HK.out.mono (by omega)) HO.out (by omega) (by omega) HZ.out (grownBy_trans (grownBy_trans (only_set _ (p := ⟨w.heap.size, 0, none⟩) _) (only_set _ (p := ⟨w.heap.size, 1, none⟩) _)) (only_set _ (p := ⟨w.heap.size, 2, none⟩) _))
        ·go_simp
         (try (refine hK _ _ ?_; clear hK K))
         (try simp only [Act.put, List.setIfInBounds_toArray, List.set_cons_zero, List.set_cons_succ])
         refine wpAny_ready (rs := [1]) (by kernel_rfl) (by simp) ?_
         refine AllReady.cons (o := _) rfl (fun K hK => ?_) (AllReady.nil)
         go_simp
         (try (refine hK _ _ ?_; clear hK K))
         (try simp only [Act.put, List.setIfInBounds_toArray, List.set_cons_zero, List.set_cons_succ])
         refine wpAny_ready (rs := [6]) (by kernel_rfl) (by simp) ?_
         refine AllReady.cons (o := _) rfl (fun K hK => ?_) (AllReady.nil)
         refine step_append_rec Tryz.elStr (by rfl) _ _ (by rfl) (by rfl) (HO8.out.alloc _) x8 (by rfl) (Box.at_ _ [.string x8] _ (by rfl)) (strE_one _) (by omega) (by decide) (by have h1 := HM8.out.1.lt; have h2 := hg8.size; simp at h2 ⊢; omega) ?_
         intro A3 c3 w9 ho9 hg9 hb9
         have HM9 := Lib.hid ((HM8.out.alloc (.cells #[.string x8] 9)).grown hg9 (fun k hk => by have := (HO8.out.blk hk).1; omega))
         have d5 := HM9.out.1.cell 2; have e5 := HM9.out.1.frozen 2
         simp only [List.getElem?_cons_zero, List.getElem?_cons_succ] at d5
         (try (refine hK _ _ ?_; clear hK K))
         (try simp only [Act.put, List.setIfInBounds_toArray, List.set_cons_zero, List.set_cons_succ])
         refine wpAny_ready (rs := [7]) (by kernel_rfl) (by simp) ?_
         refine AllReady.cons (o := _) rfl (fun K hK => ?_) (AllReady.nil)
         go_simp
         (try (refine hK _ _ ?_; clear hK K))
         (try simp only [Act.put, List.setIfInBounds_toArray, List.set_cons_zero, List.set_cons_succ])
         refine wpAny_ready (rs := [8]) (by kernel_rfl) (by simp) ?_
         refine AllReady.cons (o := _) rfl (fun K hK => ?_) (AllReady.nil)
         go_simp
         (try (refine hK _ _ ?_; clear hK K))
         (try simp only [Act.put, List.setIfInBounds_toArray, List.set_cons_zero, List.set_cons_succ])
         refine wpAny_done (by kernel_rfl) ?_ _
         (try simp only [Act.put, List.setIfInBounds_toArray, List.set_cons_zero, List.set_cons_succ])
         have HZ := Lib.hid (good_snoc HZ.out gx8)
         have HM := Lib.hid (HM9.out.put (v' := .slice A3 (q + 1 + q + 1) c3))
         have HO := Lib.hid ((own_put (b := w3.heap.size) (v' := .slice A3 (q + 1 + q + 1) c3) ho9 (by omega)).base_le (show w3.heap.size + 1 ≤ wb by omega))
         clear d2 d3 d4 d5 e2 e5 HM8 HO8 HM9 ho9 hg9 hb9 hc8 hg8 K5 K6
         obtain ⟨K1, K2, ⟨rx, ry, rz, K3⟩, K4, K5, K6⟩ := HM.out
         have kc0 := K1.cell 0; have kc1 := K1.cell 1; have kc2 := K1.cell 2
         have kd0 := K3.cell 0; have kd1 := K3.cell 1; have kd2 := K3.cell 2
         have kf0 := K3.frozen 0; have kf1 := K3.frozen 1; have kf2 := K3.frozen 2
         simp only [List.getElem?_cons_zero, List.getElem?_cons_succ] at kc0 kc1 kc2 kd0 kd1 kd2
         have Z := ((K3.set_ 0 (.string nm)).set_ 1 (.int .i64 (st : Int))).set_ 2 (.slice A3 (q + 1 + q + 1) c3)
         have y0 := Z.cell 0; have y1 := Z.cell 1; have y2 := Z.cell 2
         simp only [List.set_cons_zero, List.set_cons_succ, List.getElem?_cons_zero, List.getElem?_cons_succ] at y0 y1 y2
         have HK := Lib.hid K2; have HGR := Lib.hid K4
         clear K1 K2 K3 K4 Z
         go_wp2_with fail
         refine bodyPost_ret (v := .agg #[.string nm, .int .i64 (st : Int), .slice A3 (q + 1 + q + 1) c3]) (by simp [results, Tryz.results180, go_sem, y0, y1, y2]) rfl ?_
         exact fin.out _ _ _ _ _ _ HGR.out (HK.out.mono (by omega)) HO.out (by omega) (by omega) HZ.out (grownBy_trans (grownBy_trans (only_set _ (p := ⟨w.heap.size, 0, none⟩) _) (only_set _ (p := ⟨w.heap.size, 1, none⟩) _)) (only_set _ (p := ⟨w.heap.size, 2, none⟩) _))
      ·rw [show (((k + 1 : Nat) : Int) - 1) = (k : Int) by omega]
       have hI : (0 : Int) ≤ (k : Int) := by omega
       obtain ⟨b3, o3, y, hA, hbb, hy, hcy⟩ := HR.out.at_str (k := k) (by omega)
       injection hA with hA
       injection hA with e1 e2 _
       subst e1 e2
       have gy := HG.out y (List.mem_of_getElem? hy)
       obtain ⟨K1, _, _, _, K5, K6⟩ := HM.out
       have d2 := K1.cell 2; have e2 := K1.frozen 2
       have d4 := (HM.out.alloc (.cells #[.string y] 9)).1.cell 2
       have hJ : (k : Int) < (m : Int) := by omega
       simp only [List.getElem?_cons_zero, List.getElem?_cons_succ, Nat.zero_add] at d2 d4 hcy
       have HO8 := Lib.hid (HO.out.up (below_drewN (Below.refl _ _) 1))
       clear K1 hy
       go_upto_region 22 with fail
       refine wp_region_any (by kernel_rfl) ?_
       (try (change wpAny _ _ _ _ _ _ _ (World.drew _)))
       refine wpAny_take (i := 0) (oi := { dst := some 81, op := _, type := _, pos := _, after := _, guard := _ }) (v := ?_) rfl (by kernel_rfl) (by kernel_rfl) (by kernel_rfl) (fun _ _ _ h => h) (Or.inl ⟨by rfl, ?_⟩) ?_
       rotate_left
       ·(intro w; go_simp) <;> with_reducible rfl
       (try simp only [Act.put, List.setIfInBounds_toArray, List.set_cons_zero, List.set_cons_succ])
       refine wpAny_take (i := 2) (oi := { dst := some 83, op := _, type := _, pos := _, after := _, guard := _ }) (v := ?_) rfl (by kernel_rfl) (by kernel_rfl) (by kernel_rfl) (fun _ _ _ h => h) (Or.inl ⟨by rfl, ?_⟩) ?_
       rotate_left
       ·(intro w; go_simp) <;> with_reducible rfl
       (try simp only [Act.put, List.setIfInBounds_toArray, List.set_cons_zero, List.set_cons_succ])
       refine wpAny_take (i := 3) (oi := { dst := some 84, op := _, type := _, pos := _, after := _, guard := _ }) (v := ?_) rfl (by kernel_rfl) (by kernel_rfl) (by kernel_rfl) (fun _ _ _ h => h) (Or.inl ⟨by rfl, ?_⟩) ?_
       rotate_left
       ·(intro w; go_simp) <;> with_reducible rfl
       (try simp only [Act.put, List.setIfInBounds_toArray, List.set_cons_zero, List.set_cons_succ])
       refine wpAny_take (i := 4) (oi := { dst := some 85, op := _, type := _, pos := _, after := _, guard := _ }) (v := ?_) rfl (by kernel_rfl) (by kernel_rfl) (by kernel_rfl) (fun _ _ _ h => h) (Or.inl ⟨by rfl, ?_⟩) ?_
       rotate_left
       ·(intro w; go_simp) <;> with_reducible rfl
       (try simp only [Act.put, List.setIfInBounds_toArray, List.set_cons_zero, List.set_cons_succ])
       refine wpAny_ready (rs := [1, 5]) (by kernel_rfl) (by simp) ?_
       refine AllReady.cons (o := _) rfl (fun K hK => ?_) (AllReady.cons (o := _) rfl (fun K hK => ?_) (AllReady.nil))
       ·go_simp
        (try (refine hK _ _ ?_; clear hK K))
        (try simp only [Act.put, List.setIfInBounds_toArray, List.set_cons_zero, List.set_cons_succ])
        refine wpAny_ready (rs := [5]) (by kernel_rfl) (by simp) ?_
        refine AllReady.cons (o := _) rfl (fun K hK => ?_) (AllReady.nil)
        go_simp
        (try (refine hK _ _ ?_; clear hK K))
        (try simp only [Act.put, List.setIfInBounds_toArray, List.set_cons_zero, List.set_cons_succ])
        refine wpAny_ready (rs := [6]) (by kernel_rfl) (by simp) ?_
        refine AllReady.cons (o := _) rfl (fun K hK => ?_) (AllReady.nil)
        go_simp
        (try (refine hK _ _ ?_; clear hK K))
        (try simp only [Act.put, List.setIfInBounds_toArray, List.set_cons_zero, List.set_cons_succ])
        refine wpAny_ready (rs := [7]) (by kernel_rfl) (by simp) ?_
        refine AllReady.cons (o := _) rfl (fun K hK => ?_) (AllReady.nil)
        refine step_append_rec Tryz.elStr (by rfl) _ _ (by rfl) (by rfl) (HO8.out.alloc _) y (by rfl) (Box.at_ _ [.string y] _ (by rfl)) (strE_one _) (by omega) (by decide) (by simp; omega) ?_
        intro A3 c3 w9 ho9 hg9 hb9
        have HM9 := Lib.hid ((HM.out.drew.alloc (.cells #[.string y] 9)).grown hg9 (fun k hk => by have := (HO8.out.blk hk).1; omega))
        have HR9 := Lib.hid (strs_grown ((HR.out.up (below_drewN (Below.refl _ _) 1)).alloc (.cells #[.string y] 9)) hg9 (fun e => by have := (HO8.out.blk e.symm).1; omega))
        have d5 := HM9.out.1.cell 2; have e5 := HM9.out.1.frozen 2
        simp only [List.getElem?_cons_zero, List.getElem?_cons_succ] at d5
        (try (refine hK _ _ ?_; clear hK K))
        (try simp only [Act.put, List.setIfInBounds_toArray, List.set_cons_zero, List.set_cons_succ])
        refine wpAny_ready (rs := [8]) (by kernel_rfl) (by simp) ?_
        refine AllReady.cons (o := _) rfl (fun K hK => ?_) (AllReady.nil)
        go_simp
        (try (refine hK _ _ ?_; clear hK K))
        (try simp only [Act.put, List.setIfInBounds_toArray, List.set_cons_zero, List.set_cons_succ])
        refine wpAny_ready (rs := [9]) (by kernel_rfl) (by simp) ?_
        refine AllReady.cons (o := _) rfl (fun K hK => ?_) (AllReady.nil)
        go_simp
        (try (refine hK _ _ ?_; clear hK K))
        (try simp only [Act.put, List.setIfInBounds_toArray, List.set_cons_zero, List.set_cons_succ])
        refine wpAny_done (by kernel_rfl) ?_ _
        (try simp only [Act.put, List.setIfInBounds_toArray, List.set_cons_zero, List.set_cons_succ])
        have HZ9 := Lib.hid (good_snoc HZ.out gy)
        have HMF := Lib.hid (HM9.out.put (v' := .slice A3 (m + 1 + q + 1) c3))
        have HOF := Lib.hid (own_put (b := w3.heap.size) (v' := .slice A3 (m + 1 + q + 1) c3) ho9 (by omega))
        have HRF := Lib.hid (strs_grown HR9.out (only_set w9 (p := ⟨w3.heap.size, 2, none⟩) (.slice A3 (m + 1 + q + 1) c3)) (fun e => by injection e with e; dsimp only at e; omega))
        have hs12 : wb ≤ (w9.setCell ⟨w3.heap.size, 2, none⟩ (.slice A3 (m + 1 + q + 1) c3)).heap.size := by have := hg9.size; simp at this ⊢; omega
        clear d2 d4 d5 e2 e5
        go_wp2
        go_roundw
        case rel => exact ⟨k, q + 1, A3, c3, L ++ [y], by omega, by go_num, HMF, HOF, HZ9, HRF, hs12⟩
        case measure => simp [intOf] <;> omega
       ·go_simp
        (try (refine hK _ _ ?_; clear hK K))
        (try simp only [Act.put, List.setIfInBounds_toArray, List.set_cons_zero, List.set_cons_succ])
        refine wpAny_ready (rs := [1, 6]) (by kernel_rfl) (by simp) ?_
        refine AllReady.cons (o := _) rfl (fun K hK => ?_) (AllReady.cons (o := _) rfl (fun K hK => ?_) (AllReady.nil))
        ·go_simp
         (try (refine hK _ _ ?_; clear hK K))
         (try simp only [Act.put, List.setIfInBounds_toArray, List.set_cons_zero, List.set_cons_succ])
         refine wpAny_ready (rs := [6]) (by kernel_rfl) (by simp) ?_
         refine AllReady.cons (o := _) rfl (fun K hK => ?_) (AllReady.nil)
         go_simp
         (try (refine hK _ _ ?_; clear hK K))
         (try simp only [Act.put, List.setIfInBounds_toArray, List.set_cons_zero, List.set_cons_succ])
         refine wpAny_ready (rs := [7]) (by kernel_rfl) (by simp) ?_
         refine AllReady.cons (o := _) rfl (fun K hK => ?_) (AllReady.nil)
         refine step_append_rec Tryz.elStr (by rfl) _ _ (by rfl) (by rfl) (HO8.out.alloc _) y (by rfl) (Box.at_ _ [.string y] _ (by rfl)) (strE_one _) (by omega) (by decide) (by simp; omega) ?_
         intro A3 c3 w9 ho9 hg9 hb9
         have HM9 := Lib.hid ((HM.out.drew.alloc (.cells #[.string y] 9)).grown hg9 (fun k hk => by have := (HO8.out.blk hk).1; omega))
         have HR9 := Lib.hid (strs_grown ((HR.out.up (below_drewN (Below.refl _ _) 1)).alloc (.cells #[.string y] 9)) hg9 (fun e => by have := (HO8.out.blk e.symm).1; omega))
         have d5 := HM9.out.1.cell 2; have e5 := HM9.out.1.frozen 2
         simp only [List.getElem?_cons_zero, List.getElem?_cons_succ] at d5
         (try (refine hK _ _ ?_; clear hK K))
         (try simp only [Act.put, List.setIfInBounds_toArray, List.set_cons_zero, List.set_cons_succ])
         refine wpAny_ready (rs := [8]) (by kernel_rfl) (by simp) ?_
         refine AllReady.cons (o := _) rfl (fun K hK => ?_) (AllReady.nil)
         go_simp
         (try (refine hK _ _ ?_; clear hK K))
         (try simp only [Act.put, List.setIfInBounds_toArray, List.set_cons_zero, List.set_cons_succ])
         refine wpAny_ready (rs := [9]) (by kernel_rfl) (by simp) ?_
         refine AllReady.cons (o := _) rfl (fun K hK => ?_) (AllReady.nil)
         go_simp
         (try (refine hK _ _ ?_; clear hK K))
         (try simp only [Act.put, List.setIfInBounds_toArray, List.set_cons_zero, List.set_cons_succ])
         refine wpAny_done (by kernel_rfl) ?_ _
         (try simp only [Act.put, List.setIfInBounds_toArray, List.set_cons_zero, List.set_cons_succ])
         have HZ9 := Lib.hid (good_snoc HZ.out gy)
         have HMF := Lib.hid (HM9.out.put (v' := .slice A3 (m + 1 + q + 1) c3))
         have HOF := Lib.hid (own_put (b := w3.heap.size) (v' := .slice A3 (m + 1 + q + 1) c3) ho9 (by omega))
         have HRF := Lib.hid (strs_grown HR9.out (only_set w9 (p := ⟨w3.heap.size, 2, none⟩) (.slice A3 (m + 1 + q + 1) c3)) (fun e => by injection e with e; dsimp only at e; omega))
         have hs12 : wb ≤ (w9.setCell ⟨w3.heap.size, 2, none⟩ (.slice A3 (m + 1 + q + 1) c3)).heap.size := by have := hg9.size; simp at this ⊢; omega
         clear d2 d4 d5 e2 e5
         go_wp2
         go_roundw
         case rel => exact ⟨k, q + 1, A3, c3, L ++ [y], by omega, by go_num, HMF, HOF, HZ9, HRF, hs12⟩
         case measure => simp [intOf] <;> omega
        ·go_simp
         (try (refine hK _ _ ?_; clear hK K))
         (try simp only [Act.put, List.setIfInBounds_toArray, List.set_cons_zero, List.set_cons_succ])
         refine wpAny_ready (rs := [1]) (by kernel_rfl) (by simp) ?_
         refine AllReady.cons (o := _) rfl (fun K hK => ?_) (AllReady.nil)
         go_simp
         (try (refine hK _ _ ?_; clear hK K))
         (try simp only [Act.put, List.setIfInBounds_toArray, List.set_cons_zero, List.set_cons_succ])
         refine wpAny_ready (rs := [7]) (by kernel_rfl) (by simp) ?_
         refine AllReady.cons (o := _) rfl (fun K hK => ?_) (AllReady.nil)
         refine step_append_rec Tryz.elStr (by rfl) _ _ (by rfl) (by rfl) (HO8.out.alloc _) y (by rfl) (Box.at_ _ [.string y] _ (by rfl)) (strE_one _) (by omega) (by decide) (by simp; omega) ?_
         intro A3 c3 w9 ho9 hg9 hb9
         have HM9 := Lib.hid ((HM.out.drew.alloc (.cells #[.string y] 9)).grown hg9 (fun k hk => by have := (HO8.out.blk hk).1; omega))
         have HR9 := Lib.hid (strs_grown ((HR.out.up (below_drewN (Below.refl _ _) 1)).alloc (.cells #[.string y] 9)) hg9 (fun e => by have := (HO8.out.blk e.symm).1; omega))
         have d5 := HM9.out.1.cell 2; have e5 := HM9.out.1.frozen 2
         simp only [List.getElem?_cons_zero, List.getElem?_cons_succ] at d5
         (try (refine hK _ _ ?_; clear hK K))
         (try simp only [Act.put, List.setIfInBounds_toArray, List.set_cons_zero, List.set_cons_succ])
         refine wpAny_ready (rs := [8]) (by kernel_rfl) (by simp) ?_
         refine AllReady.cons (o := _) rfl (fun K hK => ?_) (AllReady.nil)
         go_simp
         (try (refine hK _ _ ?_; clear hK K))
         (try simp only [Act.put, List.setIfInBounds_toArray, List.set_cons_zero, List.set_cons_succ])
         refine wpAny_ready (rs := [9]) (by kernel_rfl) (by simp) ?_
         refine AllReady.cons (o := _) rfl (fun K hK => ?_) (AllReady.nil)
         go_simp
         (try (refine hK _ _ ?_; clear hK K))
         (try simp only [Act.put, List.setIfInBounds_toArray, List.set_cons_zero, List.set_cons_succ])
         refine wpAny_done (by kernel_rfl) ?_ _
         (try simp only [Act.put, List.setIfInBounds_toArray, List.set_cons_zero, List.set_cons_succ])
         have HZ9 := Lib.hid (good_snoc HZ.out gy)
         have HMF := Lib.hid (HM9.out.put (v' := .slice A3 (m + 1 + q + 1) c3))
         have HOF := Lib.hid (own_put (b := w3.heap.size) (v' := .slice A3 (m + 1 + q + 1) c3) ho9 (by omega))
         have HRF := Lib.hid (strs_grown HR9.out (only_set w9 (p := ⟨w3.heap.size, 2, none⟩) (.slice A3 (m + 1 + q + 1) c3)) (fun e => by injection e with e; dsimp only at e; omega))
         have hs12 : wb ≤ (w9.setCell ⟨w3.heap.size, 2, none⟩ (.slice A3 (m + 1 + q + 1) c3)).heap.size := by have := hg9.size; simp at this ⊢; omega
         clear d2 d4 d5 e2 e5
         go_wp2
         go_roundw
         case rel => exact ⟨k, q + 1, A3, c3, L ++ [y], by omega, by go_num, HMF, HOF, HZ9, HRF, hs12⟩
         case measure => simp [intOf] <;> omega
end Go.Proofs.YtidolgonmimicaaGreat
namespace Go.Proofs.YtidolgonmimicaaGreat
open Go.ChangeShapes Go.WideShapes Go.ChangeAt Go.RowKit Go.Deep
theorem sets3_grown (u : World) (r : Nat) (a b c : Value) : u.grownBy (((u.setCell ⟨r, 0, none⟩ a).setCell ⟨r, 1, none⟩ b).setCell ⟨r, 2, none⟩ c) (some r) :=
 grownBy_trans (grownBy_trans (only_set _ (p := ⟨r, 0, none⟩) _) (only_set _ (p := ⟨r, 1, none⟩) _)) (only_set _ (p := ⟨r, 2, none⟩) _)
theorem sets2_grown (u : World) (r : Nat) (a b : Value) : u.grownBy ((u.setCell ⟨r, 0, none⟩ a).setCell ⟨r, 1, none⟩ b) (some r) :=
 grownBy_trans (only_set _ (p := ⟨r, 0, none⟩) _) (only_set _ (p := ⟨r, 1, none⟩) _)
end Go.Proofs.YtidolgonmimicaaGreat
namespace Go.Proofs.YtidolgonmimicaaGreat
open Go.ChangeShapes Go.WideShapes Go.ChangeAt Go.RowKit Go.Deep
abbrev cutE : Cut3 → List Value := fun c => [.string c.1, .int .i64 c.2.1, .int .i64 c.2.2]
theorem cutE_len (c : Cut3) : (cutE c).length = 3 := rfl
theorem cutE_one (c : Cut3) : ∀ u ∈ cutE c, u.oneCell' = true := fun u hu => by
 simp [cutE] at hu
 rcases hu with rfl | rfl | rfl <;> rfl
theorem Tryz.elCut : ElemOk Tryz.prog 73 29 (.agg #[.string ByteArray.empty, .int .i64 0, .int .i64 0]) 3 32 := ⟨Tryz.underlying73, by kernel_rfl, rfl, by decide⟩
def FdR (R : SS) (ok : Bool) (w : World) (e : Ending) (w' : World) : Prop := ∃ (AT : Option Addr) (nT cT : Nat) (AC : Option Addr) (nC cC : Nat), e = .returned (.tuple #[.agg #[.slice AT nT cT, .slice AC nC cC, .bool R.ok], .bool ok]) ∧ Owned strE 1 9 w' w.heap.size AT nT cT R.T ∧ Owned cutE 3 29 w' w.heap.size AC nC cC R.C ∧ nT ≤ 5000 ∧ nC ≤ 5000 ∧ Below w.heap.size w w'
theorem FdR.mk {R : SS} {ok : Bool} {w w' : World} {e : Ending} (AT : Option Addr) (nT cT : Nat) (AC : Option Addr) (nC cC : Nat) (b b2 : Bool) (he : e = .returned (.tuple #[.agg #[.slice AT nT cT, .slice AC nC cC, .bool b], .bool b2])) (hb : b = R.ok) (hb2 : b2 = ok) (h1 : Owned strE 1 9 w' w.heap.size AT nT cT R.T) (h2 : Owned cutE 3 29 w' w.heap.size AC nC cC R.C) (h3 : nT ≤ 5000) (h4 : nC ≤ 5000) (h5 : Below w.heap.size w w') : FdR R ok w e w' := by
 subst hb hb2; exact ⟨AT, nT, cT, AC, nC, cC, he, h1, h2, h3, h4, h5⟩
structure StS (w u : World) (M : Nat) (nm : ByteArray) (st : Nat) (A : Option Addr) (n c : Nat) (kb ks : ByteArray) (F : Nat) (AT : Option Addr) (nT cT : Nat) (AC : Option Addr) (nC cC : Nat) (AS : Option Addr) (nS cS : Nat) (T : List ByteArray) (C : List Cut3) (S : List ByteArray) : Prop where
 b : Below w.heap.size w u
 m : Blk u M 25 [.string nm, .int .i64 (st : Int), .slice A n c]
 k : Blk u (M + 1) 27 [.string kb, .string ks]
 d : Blk u (M + 1 + 1) 75 [.slice none 0 0, .slice none 0 0, .bool false]
 f : Blk u F 75 [.slice AT nT cT, .slice AC nC cC, .bool false]
 fM : M + 1 + 1 < F ∧ w.heap.size ≤ M
 t : Owned strE 1 9 u w.heap.size AT nT cT T
 c : Owned cutE 3 29 u w.heap.size AC nC cC C
 s : Owned strE 1 9 u w.heap.size AS nS cS S.reverse
 ne : ∀ z, (Value.slice AT nT cT).ownBlock = some z → (Value.slice AS nS cS).ownBlock ≠ some z
section
variable {w u u' : World} {M : Nat} {nm : ByteArray} {st : Nat} {A : Option Addr} {n c : Nat} {kb ks : ByteArray} {F : Nat} {AT : Option Addr} {nT cT : Nat} {AC : Option Addr} {nC cC : Nat} {AS : Option Addr} {nS cS : Nat} {T : List ByteArray} {C : List Cut3} {S : List ByteArray}
theorem StS.up (h : StS w u M nm st A n c kb ks F AT nT cT AC nC cC AS nS cS T C S) (hb : Below u.heap.size u u') : StS w u' M nm st A n c kb ks F AT nT cT AC nC cC AS nS cS T C S :=
 ⟨below_go h.b hb, h.m.up hb, h.k.up hb, h.d.up hb, h.f.up hb, h.fM, h.t.up hb, h.c.up hb, h.s.up hb, h.ne⟩
theorem StS.pop {A' : Option Addr} {n' c' : Nat} {S' : List ByteArray} (h : StS w u M nm st A n c kb ks F AT nT cT AC nC cC AS nS cS T C S) (hb : Below u.heap.size u u') (ho : Owned strE 1 9 u' u.heap.size A' n' c' S'.reverse) : StS w u' M nm st A n c kb ks F AT nT cT AC nC cC A' n' c' T C S' :=
 ⟨below_go h.b hb, h.m.up hb, h.k.up hb, h.d.up hb, h.f.up hb, h.fM, h.t.up hb, h.c.up hb, ho.base_le h.b.size, fun z hz hz' => by
  have h1 := (h.t.blk hz).2
  have h2 := (ho.blk hz').1
  omega⟩
theorem StS.push {A' : Option Addr} {n' c' : Nat} {S' : List ByteArray} (h : StS w u M nm st A n c kb ks F AT nT cT AC nC cC AS nS cS T C S) (hg : u.grownBy u' (Value.slice AS nS cS).ownBlock) (ho : Owned strE 1 9 u' w.heap.size A' n' c' S'.reverse) (hl : ∀ k, (Value.slice A' n' c').ownBlock = some k → (Value.slice AS nS cS).ownBlock = some k ∨ u.heap.size ≤ k) : StS w u' M nm st A n c kb ks F AT nT cT AC nC cC A' n' c' T C S' :=
 ⟨h.b.trans (grown_base hg h.b.size (fun k hk => (h.s.range k hk).1)), h.m.grown hg (blkNe h.s h.m (by decide)), h.k.grown hg (blkNe h.s h.k (by decide)), h.d.grown hg (blkNe h.s h.d (by decide)), h.f.grown hg (blkNe h.s h.f (by decide)), h.fM, h.t.kept hg (fun k hk => h.ne k hk), h.c.kept hg (fun k hk => Owned.ne h.c h.s (by decide) k hk), ho, fun z hz hz' => by
  rcases hl z hz' with q | q
  ·exact h.ne z hz q
  ·have := (h.t.blk hz).2; omega⟩
theorem StS.addC {A' : Option Addr} {n' c' : Nat} {C' : List Cut3} (h : StS w u M nm st A n c kb ks F AT nT cT AC nC cC AS nS cS T C S) (hg : u.grownBy u' (Value.slice AC nC cC).ownBlock) (ho : Owned cutE 3 29 u' w.heap.size A' n' c' C') : StS w (u'.setCell ⟨F, 1, none⟩ (.slice A' n' c')) M nm st A n c kb ks F AT nT cT A' n' c' AS nS cS T C' S := by
 have hF := h.f.grown hg (blkNe h.c h.f (by decide))
 have hs : u'.grownBy (u'.setCell ⟨F, 1, none⟩ (.slice A' n' c')) (some F) := only_set _ (p := ⟨F, 1, none⟩) _
 have hT := h.t.kept hg (fun k hk => Owned.ne h.t h.c (by decide) k hk)
 have hS := h.s.kept hg (fun k hk => Owned.ne h.s h.c (by decide) k hk)
 have hb := h.b.trans (grown_base hg h.b.size (fun k hk => (h.c.range k hk).1))
 have hfM := h.fM
 exact ⟨hb.trans ((Below.refl _ _).grown hs hb.size (fun k hk => by injection hk with hk; omega)), (h.m.grown hg (blkNe h.c h.m (by decide))).grown hs (fun e => by injection e with e; omega), (h.k.grown hg (blkNe h.c h.k (by decide))).grown hs (fun e => by injection e with e; omega), (h.d.grown hg (blkNe h.c h.d (by decide))).grown hs (fun e => by injection e with e; omega), hF.set_ 1 _, hfM, hT.kept hs (fun k hk e => blkNe hT hF (by decide) (e.trans hk.symm)), ho.kept hs (fun k hk e => blkNe ho hF (by decide) (e.trans hk.symm)), hS.kept hs (fun k hk e => blkNe hS hF (by decide) (e.trans hk.symm)), h.ne⟩
theorem StS.addT {A' : Option Addr} {n' c' : Nat} {T' : List ByteArray} (h : StS w u M nm st A n c kb ks F AT nT cT AC nC cC AS nS cS T C S) (hg : u.grownBy u' (Value.slice AT nT cT).ownBlock) (ho : Owned strE 1 9 u' w.heap.size A' n' c' T') (hl : ∀ k, (Value.slice A' n' c').ownBlock = some k → (Value.slice AT nT cT).ownBlock = some k ∨ u.heap.size ≤ k) : StS w (u'.setCell ⟨F, 0, none⟩ (.slice A' n' c')) M nm st A n c kb ks F A' n' c' AC nC cC AS nS cS T' C S := by
 have hF := h.f.grown hg (blkNe h.t h.f (by decide))
 have hs : u'.grownBy (u'.setCell ⟨F, 0, none⟩ (.slice A' n' c')) (some F) := only_set _ (p := ⟨F, 0, none⟩) _
 have hC := h.c.kept hg (fun k hk => Owned.ne h.c h.t (by decide) k hk)
 have hS := h.s.kept hg (fun k hk e => h.ne k e hk)
 have hb := h.b.trans (grown_base hg h.b.size (fun k hk => (h.t.range k hk).1))
 have hfM := h.fM
 exact ⟨hb.trans ((Below.refl _ _).grown hs hb.size (fun k hk => by injection hk with hk; omega)), (h.m.grown hg (blkNe h.t h.m (by decide))).grown hs (fun e => by injection e with e; omega), (h.k.grown hg (blkNe h.t h.k (by decide))).grown hs (fun e => by injection e with e; omega), (h.d.grown hg (blkNe h.t h.d (by decide))).grown hs (fun e => by injection e with e; omega), hF.set_ 0 _, hfM, ho.kept hs (fun k hk e => blkNe ho hF (by decide) (e.trans hk.symm)), hC.kept hs (fun k hk e => blkNe hC hF (by decide) (e.trans hk.symm)), hS.kept hs (fun k hk e => blkNe hS hF (by decide) (e.trans hk.symm)), fun z hz hz' => by
  rcases hl z hz with q | q
  ·exact h.ne z q hz'
  ·have := (h.s.blk hz').2; omega⟩
end
end Go.Proofs.YtidolgonmimicaaGreat
namespace Go.Proofs.YtidolgonmimicaaGreat
open Go.ChangeShapes Go.WideShapes Go.ChangeAt Go.RowKit Go.Deep
def p3 (k : Nat) : Nat := 3 ^ k
theorem p3_le {j : Nat} (h : j ≤ 6) : p3 j ≤ 729 := by
 have h1 : 3 ^ j ≤ 3 ^ 6 := Nat.pow_le_pow_right (by omega) h
 exact h1
theorem p3_wrap {j : Nat} (h : j < 6) : IntKind.i64.wrap ((p3 j : Int) * 3) = (p3 (j + 1) : Int) := by
 have h1 := p3_le (j := j) (by omega)
 have h2 : p3 (j + 1) = p3 j * 3 := Nat.pow_succ ..
 rw [wrap_id (by omega), h2]
 omega
theorem impl_power3 {k : Nat} {w : World} (hk : k ≤ 6) :
  Calls Tryz.prog 160 #[.int .i64 (k : Int)] w fun e w' => e = .returned (.int .i64 (p3 k : Int)) ∧ w = w' := by
 go_in
 go_wp2
 go_loopw [3, 5] (fun v i wr => ∃ j : Nat, j ≤ k ∧ v = .int .i64 (p3 j : Int) ∧ i = .int .i64 j ∧ w = wr) (fun _ i _ => k - (intOf i).toNat)
 case atStart => exact ⟨0, Nat.zero_le _, rfl, rfl, rfl⟩
 case round =>
  obtain ⟨j, hj, rfl, rfl, rfl⟩ := hrel
  by_cases hlt : j < k
  ·have hlI : (j : Int) < (k : Int) := by omega
   have hw := p3_wrap (j := j) (by omega)
   go_wp2
   go_roundw
   case rel => exact ⟨j + 1, by omega, rfl, by go_num, trivial⟩
   case measure => simp [intOf]; omega
  ·obtain rfl : j = k := by omega
   go_wp2
   go_ret
   exact ⟨rfl, rfl⟩
theorem spec_l13Power {k : Nat} {w : World} (hk : k ≤ 6) :
  Calls Tryz.prog 164 #[.int .i64 (k : Int)] w fun e w' => e = .returned (.int .i64 (p3 k : Int)) ∧ w = w' := by
 go_in
 go_wp2
 go_loopw [0, 3] (fun i v wr => ∃ j : Nat, j ≤ k ∧ v = .int .i64 (p3 j : Int) ∧ i = .int .i64 ((k : Int) - (j : Int)) ∧ w = wr) (fun i _ _ => (intOf i).toNat)
 case atStart => exact ⟨0, Nat.zero_le _, rfl, by simp, rfl⟩
 case round =>
  obtain ⟨j, hj, rfl, rfl, rfl⟩ := hrel
  by_cases hlt : j < k
  ·have hlI : (0 : Int) < (k : Int) - (j : Int) := by omega
   have hw := p3_wrap (j := j) (by omega)
   have hwp : IntKind.i64.wrap ((k : Int) - (j : Int) - 1) = (k : Int) - ((j + 1 : Nat) : Int) := by rw [wrap_id (by omega)]; omega
   go_wp2
   go_roundw
   case rel => exact ⟨j + 1, by omega, rfl, rfl, trivial⟩
   case measure => simp [intOf]; omega
  ·obtain rfl : j = k := by omega
   go_wp2
   go_ret
   exact ⟨rfl, rfl⟩
def preB (a b : ByteArray) : Bool := decide (a.size ≤ b.size) && ((b.extract 0 a.size).toList == a.toList)
theorem sl_HasPrefix {s p : ByteArray} {w : World} (hs : s.size ≤ 16777216) (hp : p.size ≤ 16777216) :
  Calls Tryz.prog 219 #[.string s, .string p] w fun e w' => e = .returned (.bool (preB p s)) ∧ w = w' := by
 have HQ : Hid (preB p s = (decide (p.size ≤ s.size) && ((s.extract 0 p.size).toList == p.toList))) := Lib.hid rfl
 go_in
 by_cases h : p.size ≤ s.size
 ·have hI : (p.size : Int) ≤ (s.size : Int) := by omega
  have e1 := Lib.hid (decide_eq_true h)
  go_wp2
  go_ret
  rw [HQ.out, e1.out]
  exact ⟨rfl, rfl⟩
 ·have hI : ¬ (p.size : Int) ≤ (s.size : Int) := by omega
  have e1 := Lib.hid (decide_eq_false h)
  go_wp2
  go_ret
  rw [HQ.out, e1.out]
  exact ⟨rfl, rfl⟩
theorem sl_HasPrefixS {s p : ByteArray} {w : World} (hs : s.size ≤ 16777216) (hp : p.size ≤ 16777216) :
  Calls Tryz.prog 172 #[.string s, .string p] w fun e w' => e = .returned (.bool (preB p s)) ∧ w = w' := by
 have HS := Lib.hid (sl_HasPrefix (w := w) hs hp)
 go_in
 go_wp2_with fail
 refine HS.out.mono ?_; rintro e w' ⟨rfl, rfl⟩
 go_wp2
 go_ret
 exact ⟨rfl, rfl⟩
theorem spec_l13Own {A : Option Addr} {N c : Nat} {l : List Cut3} {w : World} (hN : l.length = N) (h : Recs cutE 3 w A l) (hz : N ≤ 10000) :
  Calls Tryz.prog 153 #[.slice A N c] w fun e w' => ∃ A' c', e = .returned (.slice A' N c') ∧ Owned cutE 3 29 w' w.heap.size A' N c' l ∧ Below w.heap.size w w' := by
 go_in
 go_wp2_with (first | (at_builtin; go_must ((refine wpList_append_recs Tryz.elCut cutE_one rfl (.tmp 3) (.tmp 4) rfl rfl (Owned.empty (E := 29) cutE_len w (Nat.le_refl _)) rfl (h.up (by (repeat' (first | (with_reducible exact Below.refl _ _) | (with_reducible assumption) | (with_reducible refine below_drewN ?_ _) | (with_reducible refine Below.drew ?_) | (with_reducible refine below_alloc ?_ _) | (with_reducible refine Below.alloc ?_ ?_ _) | (with_reducible refine Below.setCell ?_ ?_ _) | (with_reducible refine below_go ?_ (by with_reducible assumption)) | (with_reducible refine below_then (by with_reducible assumption) ?_ ?_) | go_size)))) hN ?_ (by decide) ?_ ?_; (focus (first | omega | (simp only [World.size_alloc]; done) | (simp only [World.size_alloc]; omega) | (simp; done) | (simp; omega))); (focus (first | omega | (simp only [World.size_alloc]; done) | (simp only [World.size_alloc]; omega) | (simp; done) | (simp; omega))); intro A2 c2 w2 ho2 hg2 hl2))))
 go_ret
 have hb := lit_app hg2
 rw [Nat.zero_add, List.nil_append] at ho2
 exact ⟨_, _, rfl, ho2, hb⟩
end Go.Proofs.YtidolgonmimicaaGreat
namespace Go.Proofs.YtidolgonmimicaaGreat
open Go.ChangeShapes Go.WideShapes Go.ChangeAt Go.RowKit Go.Deep
def okA (l : List ByteArray) (k j : Nat) : Bool := !(!(k == j) && preB (l.getD k ⟨#[]⟩) (l.getD j ⟨#[]⟩))
def rowA (l : List ByteArray) (k : Nat) : Bool := (List.range l.length).all (okA l k)
def apS (l : List ByteArray) : Bool := (List.range l.length).all (rowA l)
theorem rng_f {n j : Nat} {f : Nat → Bool} (hj : j < n) (h : f j = false) : (List.range n).all f = false := by
 rw [List.all_eq_false]; exact ⟨j, List.mem_range.2 hj, by rw [h]; simp⟩
theorem rng_t {n : Nat} {f : Nat → Bool} (h : ∀ j, j < n → f j = true) : (List.range n).all f = true := by
 rw [List.all_eq_true]; exact fun j hj => h j (List.mem_range.1 hj)
theorem okA_at {l : List ByteArray} {k j : Nat} {x y : ByteArray} (hx : l[k]? = some x) (hy : l[j]? = some y) : okA l k j = !(!(k == j) && preB x y) := by
 simp [okA, List.getD, hx, hy]
theorem okA_same (l : List ByteArray) (k : Nat) : okA l k k = true := by simp [okA]
theorem okA_long {l : List ByteArray} {k j : Nat} {x y : ByteArray} (hx : l[k]? = some x) (hy : l[j]? = some y) (h : ¬ x.size ≤ y.size) : okA l k j = true := by
 rw [okA_at hx hy, preB, decide_eq_false h]; simp
theorem okA_cmp {l : List ByteArray} {k j : Nat} {x y : ByteArray} (hx : l[k]? = some x) (hy : l[j]? = some y) (hn : k ≠ j) (h : x.size ≤ y.size) : okA l k j = !((y.extract 0 x.size).toList == x.toList) := by
 rw [okA_at hx hy, preB, decide_eq_true h, beq_false_of_ne hn]; simp
set_option maxRecDepth 100000 in
theorem spec_l13Apart {A : Option Addr} {N c : Nat} {l : List ByteArray} {w : World} (hN : l.length = N) (h : Strs w A l) (hz : N ≤ 16777216) (hs : ∀ s ∈ l, s.size ≤ 16777216) :
  Calls Tryz.prog 165 #[.slice A N c] w fun e w' => e = .returned (.bool (apS l)) ∧ w = w' := by
 subst hN
 have HQ : Hid (apS l = (List.range l.length).all (rowA l)) := Lib.hid rfl
 have HR : Hid (∀ k, rowA l k = (List.range l.length).all (okA l k)) := Lib.hid (fun _ => rfl)
 have HS := Lib.hid hs
 have HH := Lib.hid h
 clear h hs
 go_in
 go_wp2
 go_loopw [9] (fun i wr => ∃ k : Nat, k ≤ l.length ∧ i = .int .i64 k ∧ Hid (∀ j, j < k → rowA l j = true) ∧ w = wr) (fun i _ => l.length - (intOf i).toNat)
 case atStart => exact ⟨0, Nat.zero_le _, rfl, Lib.hid (fun j hj => absurd hj (by omega)), rfl⟩
 case round =>
  obtain ⟨k, hk, rfl, HK, rfl⟩ := hrel
  by_cases hlt : k < l.length
  ·obtain ⟨b1, o1, x, rfl, hbb, hx, hcx⟩ := HH.out.at_str hlt
   have HX := Lib.hid hx
   have hxz := HS.out x (List.mem_of_getElem? hx)
   clear hx
   go_wp2
   go_loopw [16] (fun i wr => ∃ j : Nat, j ≤ l.length ∧ i = .int .i64 j ∧ Hid (∀ m, m < j → okA l k m = true) ∧ w = wr) (fun i _ => l.length - (intOf i).toNat)
   case atStart => exact ⟨0, Nat.zero_le _, rfl, Lib.hid (fun j hj => absurd hj (by omega)), rfl⟩
   case round =>
    clear hcx
    obtain ⟨j, hj, rfl, HJ, rfl⟩ := hrel
    by_cases hlt2 : j < l.length
    ·obtain ⟨b2, o2, y, e, _, hy, hcy⟩ := HH.out.at_str hlt2
     injection e with e
     injection e with e1 e2
     subst e1 e2
     have hyz := HS.out y (List.mem_of_getElem? hy)
     have HY := Lib.hid hy
     clear hy
     by_cases hkj : k = j
     ·subst hkj
      have HE := Lib.hid (okA_same l k)
      go_wp2
      go_roundw
      case rel => exact ⟨k + 1, by omega, by go_num, Lib.hid (upto_succ HJ.out HE.out), trivial⟩
      case measure => simp [intOf]; omega
     ·have hII : ((k : Int) == (j : Int)) = false := by rw [beq_eq_false_iff_ne]; omega
      have hIJ : ¬ (k : Int) = (j : Int) := by omega
      by_cases hle : x.size ≤ y.size
      ·have hlI : (x.size : Int) ≤ (y.size : Int) := by omega
       have HE := Lib.hid (okA_cmp HX.out HY.out hkj hle)
       rcases hq : ((y.extract 0 x.size).toList == x.toList)
       ·have HE2 : Hid (okA l k j = true) := Lib.hid (by rw [HE.out, hq]; rfl)
        go_wp2
        go_roundw
        case rel => exact ⟨j + 1, by omega, by go_num, Lib.hid (upto_succ HJ.out HE2.out), trivial⟩
        case measure => simp [intOf]; omega
       ·have HE2 : Hid (apS l = false) := Lib.hid (by rw [HQ.out]; exact rng_f hlt (by rw [HR.out]; exact rng_f hlt2 (by rw [HE.out, hq]; rfl)))
        go_wp2
        go_ret
        rw [HE2.out]
        exact ⟨rfl, rfl⟩
      ·have hlI : ¬ (x.size : Int) ≤ (y.size : Int) := by omega
       have HE := Lib.hid (okA_long HX.out HY.out hle)
       go_wp2
       go_roundw
       case rel => exact ⟨j + 1, by omega, by go_num, Lib.hid (upto_succ HJ.out HE.out), trivial⟩
       case measure => simp [intOf]; omega
    ·obtain rfl : j = l.length := by omega
     have HE : Hid (rowA l k = true) := Lib.hid (by rw [HR.out]; exact rng_t HJ.out)
     go_wp2
     go_roundw
     case rel => exact ⟨k + 1, by omega, by go_num, Lib.hid (upto_succ HK.out HE.out), trivial⟩
     case measure => simp [intOf]; omega
  ·obtain rfl : k = l.length := by omega
   have HE : Hid (apS l = true) := Lib.hid (by rw [HQ.out]; exact rng_t HK.out)
   go_wp2
   go_ret
   rw [HE.out]
   exact ⟨rfl, rfl⟩
end Go.Proofs.YtidolgonmimicaaGreat
namespace Go.Proofs.YtidolgonmimicaaGreat
open Go.ChangeShapes Go.WideShapes Go.ChangeAt Go.RowKit Go.Deep
def txC (C : List Cut3) : List ByteArray := C.map (·.1)
theorem txC_at {C : List Cut3} {k : Nat} {x : Cut3} (h : C[k]? = some x) : (txC C)[k]? = some x.1 := by simp [txC, h]
theorem txC_len (C : List Cut3) : (txC C).length = C.length := by simp [txC]
def okT (T : List ByteArray) (D : List ByteArray) (k j : Nat) : Bool := !preB (D.getD k ⟨#[]⟩) (T.getD j ⟨#[]⟩)
theorem okT_at {T D : List ByteArray} {k j : Nat} {x y : ByteArray} (hx : D[k]? = some x) (hy : T[j]? = some y) : okT T D k j = !preB x y := by
 simp [okT, List.getD, hx, hy]
theorem okA_ne {l : List ByteArray} {k j : Nat} {x y : ByteArray} (hx : l[k]? = some x) (hy : l[j]? = some y) (hn : k ≠ j) : okA l k j = !preB x y := by
 rw [okA_at hx hy, beq_false_of_ne hn]; simp
def rowI (T D : List ByteArray) (k : Nat) : Bool := (List.range D.length).all (okA D k) && (List.range T.length).all (okT T D k)
def apI (T D : List ByteArray) : Bool := (List.range D.length).all (rowI T D)
set_option maxHeartbeats 1000000 in
set_option maxRecDepth 100000 in
theorem impl_apart {AT AC : Option Addr} {nT cT nC cC : Nat} {T : List ByteArray} {C : List Cut3} {ok : Bool} {w : World} (hnT : T.length = nT) (hT : Strs w AT T) (hnC : C.length = nC) (hC : Recs cutE 3 w AC C) (hzT : nT ≤ 16777216) (hzC : nC ≤ 16777216) (hsT : ∀ s ∈ T, s.size ≤ 16777216) (hsC : ∀ x ∈ C, x.1.size ≤ 16777216) :
  Calls Tryz.prog 163 #[.agg #[.slice AT nT cT, .slice AC nC cC, .bool ok]] w fun e w' => e = .returned (.bool (apI T (txC C))) ∧ Below w.heap.size w w' := by
 subst hnT hnC
 have HQ : Hid (apI T (txC C) = (List.range C.length).all (rowI T (txC C))) := Lib.hid (by rw [← txC_len]; rfl)
 have HR : Hid (∀ k, rowI T (txC C) k = ((List.range C.length).all (okA (txC C) k) && (List.range T.length).all (okT T (txC C) k))) := Lib.hid (fun _ => by rw [← txC_len]; rfl)
 have HST := Lib.hid hsT
 have HSC := Lib.hid hsC
 have b0 : Below w.heap.size w (w.alloc (.cells #[.slice AT T.length cT, .slice AC C.length cC, .bool ok] 75)) := by (repeat' (first | (with_reducible exact Below.refl _ _) | (with_reducible assumption) | (with_reducible refine below_drewN ?_ _) | (with_reducible refine Below.drew ?_) | (with_reducible refine below_alloc ?_ _) | (with_reducible refine Below.alloc ?_ ?_ _) | (with_reducible refine Below.setCell ?_ ?_ _) | (with_reducible refine below_go ?_ (by with_reducible assumption)) | (with_reducible refine below_then (by with_reducible assumption) ?_ ?_) | go_size))
 have HT := Lib.hid (hT.up b0)
 have HC := Lib.hid (hC.up b0)
 have KF := Lib.hid (Blk.at_ w 75 [.slice AT T.length cT, .slice AC C.length cC, .bool ok] (b := w.heap.size) rfl)
 have d1 := KF.out.cell 1
 simp only [List.getElem?_cons_zero, List.getElem?_cons_succ] at d1
 clear hT hC hsT hsC
 go_in
 go_wp2
 obtain ⟨w0, hw0⟩ : ∃ u, u = (w.alloc (.cells #[.slice AT T.length cT, .slice AC C.length cC, .bool ok] 75)) := ⟨_, rfl⟩
 rw [← hw0] at b0 HT HC KF ⊢
 clear hw0 d1
 have HB0 := Lib.hid b0
 clear b0
 obtain ⟨M, hM⟩ : ∃ u, u = w.heap.size := ⟨_, rfl⟩
 rw [← hM] at KF ⊢
 have HMW := Lib.hid hM
 clear hM
 go_loopw [12] (fun i wr => ∃ k : Nat, k ≤ C.length ∧ i = .int .i64 k ∧ Hid (∀ j, j < k → rowI T (txC C) j = true) ∧ Hid (Below w0.heap.size w0 wr)) (fun i _ => C.length - (intOf i).toNat)
 case atStart => exact ⟨0, Nat.zero_le _, rfl, Lib.hid (fun j hj => absurd hj (by omega)), Lib.hid (Below.refl _ _)⟩
 case round =>
  obtain ⟨k, hk, rfl, HK, HB⟩ := hrel
  rename World => wr
  by_cases hlt : k < C.length
  ·obtain ⟨x, hx⟩ : ∃ x, C[k]? = some x := ⟨_, List.getElem?_eq_getElem hlt⟩
   have HX := Lib.hid (txC_at hx)
   have hxz := HSC.out x (List.mem_of_getElem? hx)
   obtain ⟨b1, o1, hA, hbb, hc0, hc1, hc2⟩ := (HC.out.up HB.out).at_3 hx
   have HCS := Lib.hid HC.out
   obtain ⟨t, a, b⟩ := x
   subst hA
   dsimp only at hc0 hc1 hc2 hxz HX
   have hb2 : Below wr.heap.size wr (wr.alloc (.cells ⟨[.string t, .int .i64 a, .int .i64 b]⟩ 29)) := by (repeat' (first | (with_reducible exact Below.refl _ _) | (with_reducible assumption) | (with_reducible refine below_drewN ?_ _) | (with_reducible refine Below.drew ?_) | (with_reducible refine below_alloc ?_ _) | (with_reducible refine Below.alloc ?_ ?_ _) | (with_reducible refine Below.setCell ?_ ?_ _) | (with_reducible refine below_go ?_ (by with_reducible assumption)) | (with_reducible refine below_then (by with_reducible assumption) ?_ ?_) | go_size))
   have KX := Lib.hid (Blk.at_ wr 29 [.string t, .int .i64 a, .int .i64 b] (b := wr.heap.size) rfl)
   have K2 := (KF.out.up HB.out).up hb2
   have d1 := K2.cell 1
   simp only [List.getElem?_cons_zero, List.getElem?_cons_succ] at d1
   have HB2 := Lib.hid (below_go HB.out hb2)
   clear hx K2 hb2
   go_wp2
   obtain ⟨w2, hw2⟩ : ∃ u, u = (wr.alloc (.cells #[.string t, .int .i64 a, .int .i64 b] 29)) := ⟨_, rfl⟩
   rw [← hw2] at HB2 KX ⊢
   clear hw2 d1 hc0 hc1 hc2
   obtain ⟨X, hX⟩ : ∃ u, u = wr.heap.size := ⟨_, rfl⟩
   rw [← hX] at KX ⊢
   clear hX
   go_loopw [20] (fun i wr => ∃ j : Nat, j ≤ C.length ∧ i = .int .i64 j ∧ Hid (∀ m, m < j → okA (txC C) k m = true) ∧ Hid (Below w2.heap.size w2 wr)) (fun i _ => C.length - (intOf i).toNat)
   case atStart => exact ⟨0, Nat.zero_le _, rfl, Lib.hid (fun j hj => absurd hj (by omega)), Lib.hid (Below.refl _ _)⟩
   case round =>
    obtain ⟨j, hj, rfl, HJ, HBj⟩ := hrel
    rename World => wj
    by_cases hlt2 : j < C.length
    ·obtain ⟨y, hy⟩ : ∃ y, C[j]? = some y := ⟨_, List.getElem?_eq_getElem hlt2⟩
     have HY := Lib.hid (txC_at hy)
     have hyz := HSC.out y (List.mem_of_getElem? hy)
     obtain ⟨b3, o3, e, hbb3, hy0, hy1, hy2⟩ := (HC.out.up (below_go HB2.out HBj.out)).at_3 hy
     injection e with e
     injection e with e1 e2
     subst e1 e2
     obtain ⟨t2, a2, c2⟩ := y
     dsimp only at hy0 hy1 hy2 hyz HY
     have hb3 : Below wj.heap.size wj (wj.alloc (.cells ⟨[.string t2, .int .i64 a2, .int .i64 c2]⟩ 29)) := by (repeat' (first | (with_reducible exact Below.refl _ _) | (with_reducible assumption) | (with_reducible refine below_drewN ?_ _) | (with_reducible refine Below.drew ?_) | (with_reducible refine below_alloc ?_ _) | (with_reducible refine Below.alloc ?_ ?_ _) | (with_reducible refine Below.setCell ?_ ?_ _) | (with_reducible refine below_go ?_ (by with_reducible assumption)) | (with_reducible refine below_then (by with_reducible assumption) ?_ ?_) | go_size))
     have x0 := ((KX.out.up HBj.out).up hb3).cell 0
     have y0 := (Blk.at_ wj 29 [.string t2, .int .i64 a2, .int .i64 c2] (b := wj.heap.size) rfl).cell 0
     simp only [List.getElem?_cons_zero, List.getElem?_cons_succ] at x0 y0
     have HB3 := Lib.hid (below_go HBj.out hb3)
     clear hy hb3
     by_cases hkj : k = j
     ·subst hkj
      have HE := Lib.hid (okA_same (txC C) k)
      go_wp2
      go_roundw
      case rel => exact ⟨k + 1, by omega, by go_num, Lib.hid (upto_succ HJ.out HE.out), HB3⟩
      case measure => simp [intOf]; omega
     ·have hII : ((k : Int) == (j : Int)) = false := by rw [beq_eq_false_iff_ne]; omega
      have hIJ : ¬ (k : Int) = (j : Int) := by omega
      have HE := Lib.hid (okA_ne HX.out HY.out hkj)
      go_wp2_with fail
      refine (sl_HasPrefixS hyz hxz).mono ?_; rintro e w5 ⟨rfl, rfl⟩
      rcases hq : preB t t2
      ·have HE2 : Hid (okA (txC C) k j = true) := Lib.hid (by rw [HE.out, hq]; rfl)
       go_wp2
       go_roundw
       case rel => exact ⟨j + 1, by omega, by go_num, Lib.hid (upto_succ HJ.out HE2.out), HB3⟩
       case measure => simp [intOf]; omega
      ·have HE2 : Hid (apI T (txC C) = false) := Lib.hid (by rw [HQ.out]; exact rng_f hlt (by rw [HR.out, rng_f hlt2 (by rw [HE.out, hq]; rfl), Bool.false_and]))
       go_wp2
       go_ret
       rw [HE2.out]
       exact ⟨rfl, below_go (below_go HB0.out HB2.out) HB3.out⟩
    ·obtain rfl : j = C.length := by omega
     have HEC : Hid ((List.range C.length).all (okA (txC C) k) = true) := Lib.hid (rng_t HJ.out)
     have d0 := (KF.out.up (below_go HB2.out HBj.out)).cell 0
     simp only [List.getElem?_cons_zero, List.getElem?_cons_succ] at d0
     go_wp2
     clear d0
     go_loopw [39] (fun i wr => ∃ j : Nat, j ≤ T.length ∧ i = .int .i64 j ∧ Hid (∀ m, m < j → okT T (txC C) k m = true) ∧ wj = wr) (fun i _ => T.length - (intOf i).toNat)
     case atStart => exact ⟨0, Nat.zero_le _, rfl, Lib.hid (fun j hj => absurd hj (by omega)), rfl⟩
     case round =>
      obtain ⟨j, hj3, rfl, HJ3, rfl⟩ := hrel
      by_cases hlt3 : j < T.length
      ·obtain ⟨b3, o3, y, hAT, hbb3, hy, hcy⟩ := (HT.out.up (below_go HB2.out HBj.out)).at_str hlt3
       subst hAT
       have hyz := HST.out y (List.mem_of_getElem? hy)
       have HE := Lib.hid (okT_at HX.out hy)
       have x0 := (KX.out.up HBj.out).cell 0
       simp only [List.getElem?_cons_zero, List.getElem?_cons_succ] at x0
       clear hy
       go_wp2_with fail
       refine (sl_HasPrefixS hyz hxz).mono ?_; rintro e w5 ⟨rfl, rfl⟩
       rcases hq : preB t y
       ·have HE2 : Hid (okT T (txC C) k j = true) := Lib.hid (by rw [HE.out, hq]; rfl)
        go_wp2
        go_roundw
        case rel => exact ⟨j + 1, by omega, by go_num, Lib.hid (upto_succ HJ3.out HE2.out), trivial⟩
        case measure => simp [intOf]; omega
       ·have HE2 : Hid (apI T (txC C) = false) := Lib.hid (by rw [HQ.out]; exact rng_f hlt (by rw [HR.out, rng_f hlt3 (by rw [HE.out, hq]; rfl), Bool.and_false]))
        go_wp2
        go_ret
        rw [HE2.out]
        exact ⟨rfl, below_go (below_go HB0.out HB2.out) HBj.out⟩
      ·obtain rfl : j = T.length := by omega
       have HE : Hid (rowI T (txC C) k = true) := Lib.hid (by rw [HR.out, HEC.out, rng_t HJ3.out]; rfl)
       go_wp2
       go_roundw
       case rel => exact ⟨k + 1, by omega, by go_num, Lib.hid (upto_succ HK.out HE.out), Lib.hid (below_go HB2.out HBj.out)⟩
       case measure => simp [intOf]; omega
  ·obtain rfl : k = C.length := by omega
   have HE : Hid (apI T (txC C) = true) := Lib.hid (by rw [HQ.out]; exact rng_t HK.out)
   go_wp2
   go_ret
   rw [HE.out]
   exact ⟨rfl, below_go HB0.out HB.out⟩
end Go.Proofs.YtidolgonmimicaaGreat
namespace Go.Proofs.YtidolgonmimicaaGreat
open Go.ChangeShapes Go.WideShapes Go.ChangeAt Go.RowKit Go.Deep
set_option maxHeartbeats 1000000 in
theorem spec_l9EndP {A : Option Addr} {n c st : Nat} {nm : ByteArray} {l : List ByteArray} {kb ks : ByteArray} {t : ByteArray} {w : World} (hn : l.length = n) (h : Strs w A l) (hk : goodK nm (st : Int) l kb ks = true) (hg : goodT t = true) (hcap : n ≤ c) :
  Calls Tryz.prog 89 #[.agg #[.string nm, .int .i64 st, .slice A n c], .agg #[.string kb, .string ks], .string t] w fun e w' => e = .returned (.string (hdAt st l kb ks t t.size)) ∧ Below w.heap.size w w' := by
 have b0 : Below w.heap.size w ((w.alloc (.cells ⟨[.string nm, .int .i64 st, .slice A n c]⟩ 25)).alloc (.cells ⟨[.string kb, .string ks]⟩ 27)) := by (repeat' (first | (with_reducible exact Below.refl _ _) | (with_reducible assumption) | (with_reducible refine below_drewN ?_ _) | (with_reducible refine Below.drew ?_) | (with_reducible refine below_alloc ?_ _) | (with_reducible refine Below.alloc ?_ ?_ _) | (with_reducible refine Below.setCell ?_ ?_ _) | (with_reducible refine below_go ?_ (by with_reducible assumption)) | (with_reducible refine below_then (by with_reducible assumption) ?_ ?_) | go_size))
 have hH := Lib.hid (hdsL_at (st := st) (l := l) (b := kb) (s := ks) (t := t) (k := t.size + 1) (j := t.size) (by omega))
 have hts : t.size ≤ 60 := (goodT_t hg).2.1
 go_in
 go_wp2_with fail
 refine (spec_l9Heads hn (h.up b0) hk hg hcap).mono ?_; rintro e w1 ⟨A1, c1, rfl, ho, hb1⟩
 obtain ⟨g, rfl, _, _, gc, _⟩ := ho.at_ (by omega)
 have cg := gc t.size _ 0 _ hH.out rfl
 simp only [Nat.mul_one, Nat.add_zero] at cg
 have hI : (t.size : Int) < ((t.size + 1 : Nat) : Int) := by omega
 clear gc
 go_wp2
 go_ret
 exact ⟨rfl, below_go b0 hb1⟩
end Go.Proofs.YtidolgonmimicaaGreat
namespace Go.Proofs.YtidolgonmimicaaGreat
open Go.ChangeShapes Go.WideShapes Go.ChangeAt Go.RowKit Go.Deep
end Go.Proofs.YtidolgonmimicaaGreat
namespace Go.Proofs.YtidolgonmimicaaGreat
open Go.ChangeShapes Go.WideShapes Go.ChangeAt Go.RowKit Go.Deep
theorem dec_str (x y : ByteArray) : decide (x = y) = (x.toList == y.toList) := by
 rcases h : (x.toList == y.toList)
 ·exact decide_eq_false (fun e => by subst e; simp at h)
 ·have h1 : x.toList = y.toList := by simpa using h
  exact decide_eq_true (ba_ext (by rw [← ByteArray.toList_eq, ← ByteArray.toList_eq]; exact h1))
set_option maxHeartbeats 1000000 in
set_option maxRecDepth 100000 in
theorem impl_comesRound {A : Option Addr} {n c st : Nat} {nm : ByteArray} {l : List ByteArray} {kb ks : ByteArray} {t : ByteArray} {w : World} (hn : l.length = n) (h : Strs w A l) (hk : goodK nm (st : Int) l kb ks = true) (hg : goodT t = true) :
  Calls Tryz.prog 142 #[.agg #[.string nm, .int .i64 st, .slice A n c], .agg #[.string kb, .string ks], .string t] w fun e w' => e = .returned (.bool (decide (hdAt st l kb ks t t.size = roundsS st))) ∧ Below w.heap.size w w' := by
 have b0 : Below w.heap.size w ((w.alloc (.cells ⟨[.string nm, .int .i64 st, .slice A n c]⟩ 25)).alloc (.cells ⟨[.string kb, .string ks]⟩ 27)) := by (repeat' (first | (with_reducible exact Below.refl _ _) | (with_reducible assumption) | (with_reducible refine below_drewN ?_ _) | (with_reducible refine Below.drew ?_) | (with_reducible refine below_alloc ?_ _) | (with_reducible refine Below.alloc ?_ ?_ _) | (with_reducible refine Below.setCell ?_ ?_ _) | (with_reducible refine below_go ?_ (by with_reducible assumption)) | (with_reducible refine below_then (by with_reducible assumption) ?_ ?_) | go_size))
 have K0 := (Blk.at_ w 25 [.string nm, .int .i64 st, .slice A n c] (b := w.heap.size) rfl).alloc (.cells ⟨[.string kb, .string ks]⟩ 27)
 have K1 := Blk.at_ (w.alloc (.cells ⟨[.string nm, .int .i64 st, .slice A n c]⟩ 25)) 27 [.string kb, .string ks] (b := w.heap.size + 1) (by simp)
 have h8 := (goodK_all hk).1.2
 go_in
 go_wp2_with fail
 obtain ⟨w0, hw0⟩ : ∃ u, u = ((w.alloc (.cells #[.string nm, .int .i64 st, .slice A n c] 25)).alloc (.cells #[.string kb, .string ks] 27)) := ⟨_, rfl⟩
 rw [← hw0] at b0 K0 K1 ⊢
 clear hw0
 have H0 := Lib.hid (h.up b0)
 have carry : Hid (∀ u : World, Below w0.heap.size w0 u → (u.cell? ⟨w.heap.size, 0, none⟩ = some (.string nm) ∧ u.cell? ⟨w.heap.size, 1, none⟩ = some (.int .i64 st) ∧ u.cell? ⟨w.heap.size, 2, none⟩ = some (.slice A n c)) ∧ u.cell? ⟨w.heap.size + 1, 0, none⟩ = some (.string kb) ∧ u.cell? ⟨w.heap.size + 1, 1, none⟩ = some (.string ks)) := Lib.hid (fun u hu => by
  have L0 := K0.up hu; have L1 := K1.up hu
  exact ⟨⟨by simpa using L0.cell 0, by simpa using L0.cell 1, by simpa using L0.cell 2⟩, by simpa using L1.cell 0, by simpa using L1.cell 1⟩)
 clear h K0 K1
 go_region_held3 (fun u => (u.cell? ⟨w.heap.size, 0, none⟩ = some (.string nm) ∧ u.cell? ⟨w.heap.size, 1, none⟩ = some (.int .i64 st) ∧ u.cell? ⟨w.heap.size, 2, none⟩ = some (.slice A n c)) ∧ u.cell? ⟨w.heap.size + 1, 0, none⟩ = some (.string kb) ∧ u.cell? ⟨w.heap.size + 1, 1, none⟩ = some (.string ks)) (first | exact carry.out _ hb1 | exact carry.out _ (Below.refl _ _) | exact carry.out _ (Below.refl _ _).drew) (first | (go_at_call 140; ((refine (impl_touchEnd hn H0.out.drew hk hg).mono ?_); rintro e w1 ⟨rfl, hbd⟩; have hb1 := below_of_drew hbd)) | (go_at_call 105; ((refine (impl_rounds h8).mono ?_); rintro e w' ⟨rfl, rfl⟩)))
 all_goals
  go_wp2
  go_ret
  rw [dec_str]
  exact ⟨rfl, below_go b0 hb1⟩
set_option maxHeartbeats 1000000 in
theorem impl_IsRound {A : Option Addr} {n c st : Nat} {nm : ByteArray} {l : List ByteArray} {kb ks t : ByteArray} {w : World} (hn : l.length = n) (h : Strs w A l) (hz : n ≤ 1048576) (hs : ∀ s ∈ l, s.size ≤ 16777216) (hnm : nm.size ≤ 16777216) (h9 : st ≤ 1000) (hkb : kb.size ≤ 16777216) (hks : ks.size ≤ 16777216) (ht : t.size ≤ 16777216) :
  Calls Tryz.prog 51 #[.agg #[.string nm, .int .i64 st, .slice A n c], .agg #[.string kb, .string ks], .string t] w fun e w' => e = .returned (.tuple #[.bool (goodF nm (st : Int) l kb ks t && decide (hdAt st l kb ks t t.size = roundsS st)), .bool (goodF nm (st : Int) l kb ks t)]) ∧ Below w.heap.size w w' := by
 have b0 : Below w.heap.size w ((w.alloc (.cells ⟨[.string nm, .int .i64 st, .slice A n c]⟩ 25)).alloc (.cells ⟨[.string kb, .string ks]⟩ 27)) := by (repeat' (first | (with_reducible exact Below.refl _ _) | (with_reducible assumption) | (with_reducible refine below_drewN ?_ _) | (with_reducible refine Below.drew ?_) | (with_reducible refine below_alloc ?_ _) | (with_reducible refine Below.alloc ?_ ?_ _) | (with_reducible refine Below.setCell ?_ ?_ _) | (with_reducible refine below_go ?_ (by with_reducible assumption)) | (with_reducible refine below_then (by with_reducible assumption) ?_ ?_) | go_size))
 have K0 := (Blk.at_ w 25 [.string nm, .int .i64 st, .slice A n c] (b := w.heap.size) rfl).alloc (.cells ⟨[.string kb, .string ks]⟩ 27)
 have J0 := Blk.at_ (w.alloc (.cells ⟨[.string nm, .int .i64 st, .slice A n c]⟩ 25)) 27 [.string kb, .string ks] (b := w.heap.size + 1) (by simp)
 have hI : I64 (st : Int) := ⟨by omega, by omega⟩
 have H0 := h.up b0
 have HG : Hid (goodF nm st l kb ks t = (goodK nm (st : Int) l kb ks && goodT t)) := Lib.hid rfl
 go_in
 go_wp2_with fail
 refine (impl_goodFor (nm := nm) (st := (st : Int)) hn H0 hz hs hnm hI hkb hks ht).mono ?_; rintro e w1 ⟨rfl, hb1⟩
 have K1 := K0.up hb1
 have J1 := J0.up hb1
 have H1 := H0.up hb1
 have B1 := below_go b0 hb1
 clear K0 J0 H0 h b0 hb1
 rcases hg : goodF nm st l kb ks t
 ·have e2 := Lib.hid hg
  go_wp2
  go_ret2
  rw [e2.out]
  exact ⟨rfl, B1⟩
 ·have e2 := Lib.hid hg
  have hgg := hg
  rw [HG.out, Bool.and_eq_true] at hgg
  have k0 := K1.cell 0; have k1 := K1.cell 1; have k2 := K1.cell 2; have j0 := J1.cell 0; have j1 := J1.cell 1
  simp only [List.getElem?_cons_zero, List.getElem?_cons_succ] at k0 k1 k2 j0 j1
  go_wp2_with fail
  refine (impl_comesRound (t := t) hn H1 hgg.1 hgg.2).mono ?_; rintro e w2 ⟨rfl, hb2⟩
  go_wp2
  go_ret2
  rw [e2.out, Bool.true_and]
  exact ⟨rfl, below_go B1 hb2⟩
end Go.Proofs.YtidolgonmimicaaGreat
namespace Go.Proofs.YtidolgonmimicaaGreat
open Go.ChangeShapes Go.WideShapes Go.ChangeAt Go.RowKit Go.Deep
open Go.Maps (Keyed string_keyed)
def cP (f : Nat → Nat → Bool) (m i : Nat) : Prop := ∀ a k, a < i → a < k → k < m → f k a = false
def cQ2 (f : Nat → Nat → Bool) (m i k : Nat) : Prop := cP f m i ∧ ∀ j, i < j → j < k → f j i = false
section
variable {f : Nat → Nat → Bool} {m i k : Nat}
theorem cP_zero : cP f m 0 := fun a k h => absurd h (by omega)
theorem cQ2_start : cQ2 f m i (i + 1) ↔ cP f m i := ⟨fun h => h.1, fun h => ⟨h, fun j h1 h2 => absurd h1 (by omega)⟩⟩
theorem cQ2_end : cQ2 f m i m ↔ cP f m (i + 1) := by
 constructor
 ·rintro ⟨h1, h2⟩ a k ha hk hm
  rcases Nat.lt_or_ge a i with z | z
  ·exact h1 a k z hk hm
  ·obtain rfl : a = i := by omega
   exact h2 k hk hm
 ·intro h
  exact ⟨fun a k ha hk hm => h a k (by omega) hk hm, fun j h1 h2 => h i j (by omega) h1 h2⟩
theorem cQ2_no (h : f k i = false) (hk : i < k) : cQ2 f m i (k + 1) ↔ cQ2 f m i k := by
 constructor
 ·rintro ⟨h1, h2⟩
  exact ⟨h1, fun j a b => h2 j a (by omega)⟩
 ·rintro ⟨h1, h2⟩
  refine ⟨h1, fun j a b => ?_⟩
  rcases Nat.lt_or_ge j k with z | z
  ·exact h2 j a z
  ·obtain rfl : j = k := by omega
   exact h
theorem cQ2_yes (h : f k i = true) (hk : i < k) : ¬ cQ2 f m i (k + 1) := fun q => by
 have := q.2 k hk (by omega)
 rw [h] at this; cases this
end
theorem free_cP {st : Nat} {l : List ByteArray} {b s t : ByteArray} {m : Nat} : cP (clsAt st l b s t) m m ↔ FreeH st l b s t m :=
 ⟨fun h i k hik hk => h i k (by omega) hik hk, fun h a k _ hk hm => h a k hk hm⟩
def ClR (st : Nat) (l : List ByteArray) (b s t : ByteArray) (m : Nat) (w : World) (e : Ending) (w' : World) : Prop := ∃ (A' : Option Addr) (q c' : Nat), e = .returned (.slice A' q c') ∧ q ≤ 3600 ∧ (q = 0 ↔ FreeH st l b s t m) ∧ Below w.heap.size w w'
theorem ClR.mk {st : Nat} {l : List ByteArray} {b s t : ByteArray} {m : Nat} {w w' : World} {e : Ending} (A' : Option Addr) (q c' : Nat) (he : e = .returned (.slice A' q c')) (h1 : q ≤ 3600) (h2 : q = 0 ↔ FreeH st l b s t m) (h3 : Below w.heap.size w w') : ClR st l b s t m w e w' := ⟨A', q, c', he, h1, h2, h3⟩
set_option maxHeartbeats 4000000 in
set_option maxRecDepth 100000 in
theorem spec_l11Clashes {A : Option Addr} {n c st : Nat} {nm : ByteArray} {l : List ByteArray} {kb ks t : ByteArray} {B : Option Addr} {m d : Nat} {w : World} (hn : l.length = n) (h : Strs w A l) (hz : n ≤ 1048576) (hs : ∀ s ∈ l, s.size ≤ 16777216) (hnm : nm.size ≤ 16777216) (h9 : st ≤ 1000) (hk : goodK nm (st : Int) l kb ks = true) (hB : Strs w B (hdsL st l kb ks t m)) (hm : m ≤ 60) :
  Calls Tryz.prog 179 #[.agg #[.string nm, .int .i64 st, .slice A n c], .slice B m d] w fun e w' => ClR st l kb ks t m w e w' := by
 have h38 := (goodK_all hk).1
 have hGM := (goodK_t hk).1
 have h40 := (goodK_all hk).2.1
 have b0 : Below w.heap.size w (w.alloc (.cells ⟨[.string nm, .int .i64 st, .slice A n c]⟩ 25)) := by (repeat' (first | (with_reducible exact Below.refl _ _) | (with_reducible assumption) | (with_reducible refine below_drewN ?_ _) | (with_reducible refine Below.drew ?_) | (with_reducible refine below_alloc ?_ _) | (with_reducible refine Below.alloc ?_ ?_ _) | (with_reducible refine Below.setCell ?_ ?_ _) | (with_reducible refine below_go ?_ (by with_reducible assumption)) | (with_reducible refine below_then (by with_reducible assumption) ?_ ?_) | go_size))
 have KSS := string_keyed (P := Tryz.prog) (k := 9) Tryz.underlying9
 have HRN := Lib.hid (fun j => hdAt_good h38.1 h38.2 l kb ks t j)
 have HFR := Lib.hid (@free_cP st l kb ks t m)
 have HCL := Lib.hid (fun (k i : Nat) => show clsAt st l kb ks t k i = inL (falL (leadL st l)) (timesS (turnS (hdAt st l kb ks t i)) (hdAt st l kb ks t k)) from rfl)
 have HBW := Lib.hid hB
 go_in
 go_wp2_with fail
 refine (spec_l11Heads (nm := nm) hn (h.up b0) hz hs hnm h9 hGM).mono ?_; rintro e w1 ⟨A1, n1, c1, rfl, ho1, hn1, hb1⟩
 have hn1p : 0 < n1 := by
  rw [← ho1.len]
  refine List.length_pos_iff.2 (fun e => ?_)
  have hr := falS_mem.2 (falL_rounds (leadL_row h38.1 h38.2 l) (fun e2 => by
   have h5 := leadL_len st l
   rw [e2] at h5
   have h6 := (goodM_t hGM).2.2.1.1
   simp at h5; omega))
  rw [e] at hr
  cases hr
 obtain ⟨g, rfl, g0, g1, _⟩ := ho1.at_ hn1p
 have HLF := Lib.hid ho1.recs
 have HN1 := Lib.hid ho1.len
 have HFM := Lib.hid (fun x => show inL (falS (leadL st l)) x = inL (falL (leadL st l)) x from by rw [Bool.eq_iff_iff, inL_iff, inL_iff, falS_mem])
 have B1 := below_go b0 hb1
 have HE := Lib.hid (Owned.nil (α := Hd) slcE_len 134 w1 w.heap.size)
 have HKS : Hid (∀ z, (Value.slice none 0 0).ownBlock = some z → w1.heap.size ≤ z) := Lib.hid (fun z hz => by simp [Value.ownBlock] at hz)
 have HS1 := Lib.hid (Nat.le_refl w1.heap.size)
 clear ho1 hb1 b0 h hB
 go_wp2
 have HB1W := Lib.hid B1
 clear B1
 go_loopw [6, 13] (fun v i wr => ∃ (a : Nat) (A' : Option Addr) (q c' : Nat) (vs : List Hd), a ≤ m ∧ q ≤ 60 * a ∧ v = .slice A' q c' ∧ i = .int .i64 a ∧ Hid (q = 0 ↔ cP (clsAt st l kb ks t) m a) ∧ Hid (Owned slcE 1 134 wr w.heap.size A' q c' vs) ∧ Hid (Below w.heap.size w wr) ∧ Hid (Strs wr (some ⟨g, 0, none⟩) (falS (leadL st l))) ∧ Hid (∀ z, (Value.slice A' q c').ownBlock = some z → w1.heap.size ≤ z) ∧ Hid (w1.heap.size ≤ wr.heap.size)) (fun _ i _ => m - (intOf i).toNat)
 case atStart => exact ⟨0, _, 0, _, [], Nat.zero_le _, Nat.zero_le _, rfl, rfl, Lib.hid (by simp; exact cP_zero), HE, HB1W, HLF, HKS, HS1⟩
 case round =>
  obtain ⟨a, A3, q, c3, vs, ha, hq, rfl, rfl, HQ, HO, HB, HL3, HK3, HZ3⟩ := hrel
  rename World => wo
  by_cases hlt : a < m
  ·have hI : (a : Int) < (m : Int) := by omega
   have hwa : IntKind.i64.wrap ((a : Int) + 1) = ((a + 1 : Nat) : Int) := by rw [wrap_id (by omega)]; omega
   obtain ⟨b3, o3, x, e3, hb3l, hx, hcx⟩ := (HBW.out.up HB.out).at_str (k := a) (by rw [hdsL_len]; exact hlt)
   subst e3
   rw [hdsL_at hlt] at hx
   injection hx with hx
   subst hx
   have HCA := Lib.hid (fun (u : World) (hu : Below w.heap.size w u) (k : Nat) (hk : k < m) => show u.cell? ⟨b3, o3 + k, none⟩ = some (.string (hdAt st l kb ks t k)) from by
    obtain ⟨b4, o4, y, e4, _, hy, hcy⟩ := (HBW.out.up hu).at_str (k := k) (by rw [hdsL_len]; exact hk)
    injection e4 with e4
    injection e4 with e4 e5
    subst e4 e5
    rw [hdsL_at hk] at hy
    injection hy with hy
    rw [hcy, hy])
   have HQ2 := Lib.hid (HQ.out.trans cQ2_start.symm)
   go_wp2
   go_loopw [6, 8] (fun v i wr => ∃ (k : Nat) (A' : Option Addr) (q c' : Nat) (vs : List Hd), a < k ∧ k ≤ m ∧ q ≤ 60 * a + k ∧ v = .slice A' q c' ∧ i = .int .i64 k ∧ Hid (q = 0 ↔ cQ2 (clsAt st l kb ks t) m a k) ∧ Hid (Owned slcE 1 134 wr w.heap.size A' q c' vs) ∧ Hid (Below w.heap.size w wr) ∧ Hid (Strs wr (some ⟨g, 0, none⟩) (falS (leadL st l))) ∧ Hid (∀ z, (Value.slice A' q c').ownBlock = some z → w1.heap.size ≤ z) ∧ Hid (w1.heap.size ≤ wr.heap.size)) (fun _ i _ => m - (intOf i).toNat)
   case atStart => exact ⟨a + 1, A3, q, c3, vs, Nat.lt_succ_self _, hlt, by omega, rfl, by go_num, HQ2, HO, HB, HL3, HK3, HZ3⟩
   case round =>
    obtain ⟨k, A4, q4, c4, vs4, hak, hkm, hq4, rfl, rfl, HQ4, HO4, HB4, HL4, HK4, HZ4⟩ := hrel
    rename World => wi
    by_cases hlk : k < m
    ·have hI2 : (k : Int) < (m : Int) := by omega
     have hwk : IntKind.i64.wrap ((k : Int) + 1) = ((k + 1 : Nat) : Int) := by rw [wrap_id (by omega)]; omega
     have hRa := HRN.out a
     have hRk := HRN.out k
     have haz : (hdAt st l kb ks t a).size ≤ 16777216 := by rw [hRa.2]; omega
     have hkz : (hdAt st l kb ks t k).size ≤ 16777216 := by rw [hRk.2]; omega
     go_upto_region 9 with fail
     have C0 : Below wi.heap.size wi wi.drew := (Below.refl _ _).drew
     have CA : Hid (∀ u : World, Below wi.heap.size wi u → u.cell? ⟨b3, o3 + a, none⟩ = some (.string (hdAt st l kb ks t a)) ∧ u.cell? ⟨b3, o3 + k, none⟩ = some (.string (hdAt st l kb ks t k))) := Lib.hid (fun u hu => ⟨HCA.out u (below_go HB4.out hu) a hlt, HCA.out u (below_go HB4.out hu) k hlk⟩)
     refine wp_region_held_drew (S := fun u => u.cell? ⟨b3, o3 + a, none⟩ = some (.string (hdAt st l kb ks t a)) ∧ u.cell? ⟨b3, o3 + k, none⟩ = some (.string (hdAt st l kb ks t k))) (by kernel_rfl) (CA.out _ C0) (fun hHeld => ?_)
     refine takeH 0 24 (v := ?_) rfl (by kernel_rfl) (by kernel_rfl) (by kernel_rfl) (fun _ _ _ h => h) (Or.inl ⟨by rfl, ?_⟩) (by assumption) ?_
     rotate_left
     ·(intro w hSw; (try dsimp only at hSw); go_simp) <;> with_reducible rfl
     (try simp only [Act.put, List.setIfInBounds_toArray, List.set_cons_zero, List.set_cons_succ])
     refine takeH 1 25 (v := ?_) rfl (by kernel_rfl) (by kernel_rfl) (by kernel_rfl) (fun _ _ _ h => h) (Or.inl ⟨by rfl, ?_⟩) (by assumption) ?_
     rotate_left
     ·(intro w hSw; (try dsimp only at hSw); go_simp) <;> with_reducible rfl
     (try simp only [Act.put, List.setIfInBounds_toArray, List.set_cons_zero, List.set_cons_succ])
     refine takeH 2 26 (v := ?_) rfl (by kernel_rfl) (by kernel_rfl) (by kernel_rfl) (fun _ _ _ h => h) (Or.inl ⟨by rfl, ?_⟩) (by assumption) ?_
     rotate_left
     ·(intro w hSw; (try dsimp only at hSw); go_simp) <;> with_reducible rfl
     (try simp only [Act.put, List.setIfInBounds_toArray, List.set_cons_zero, List.set_cons_succ])
     refine takeH 3 27 (v := ?_) rfl (by kernel_rfl) (by kernel_rfl) (by kernel_rfl) (fun _ _ _ h => h) (Or.inl ⟨by rfl, ?_⟩) (by assumption) ?_
     rotate_left
     ·(intro w hSw; (try dsimp only at hSw); go_simp) <;> with_reducible rfl
     (try simp only [Act.put, List.setIfInBounds_toArray, List.set_cons_zero, List.set_cons_succ])
     refine takeH 4 28 (v := ?_) rfl (by kernel_rfl) (by kernel_rfl) (by kernel_rfl) (fun _ _ _ h => h) (Or.inl ⟨by rfl, ?_⟩) (by assumption) ?_
     rotate_left
     ·(intro w hSw; (try dsimp only at hSw); go_simp) <;> with_reducible rfl
     (try simp only [Act.put, List.setIfInBounds_toArray, List.set_cons_zero, List.set_cons_succ])
     refine takeH 6 30 (v := ?_) rfl (by kernel_rfl) (by kernel_rfl) (by kernel_rfl) (fun _ _ _ h => h) (Or.inl ⟨by rfl, ?_⟩) (by assumption) ?_
     rotate_left
     ·(intro w hSw; (try dsimp only at hSw); go_simp) <;> with_reducible rfl
     (try simp only [Act.put, List.setIfInBounds_toArray, List.set_cons_zero, List.set_cons_succ])
     refine takeH 7 31 (v := ?_) rfl (by kernel_rfl) (by kernel_rfl) (by kernel_rfl) (fun _ _ _ h => h) (Or.inl ⟨by rfl, ?_⟩) (by assumption) ?_
     rotate_left
     ·(intro w hSw; (try dsimp only at hSw); go_simp) <;> with_reducible rfl
     (try simp only [Act.put, List.setIfInBounds_toArray, List.set_cons_zero, List.set_cons_succ])
     refine takeH 8 32 (v := ?_) rfl (by kernel_rfl) (by kernel_rfl) (by kernel_rfl) (fun _ _ _ h => h) (Or.inl ⟨by rfl, ?_⟩) (by assumption) ?_
     rotate_left
     ·(intro w hSw; (try dsimp only at hSw); go_simp) <;> with_reducible rfl
     (try simp only [Act.put, List.setIfInBounds_toArray, List.set_cons_zero, List.set_cons_succ])
     refine takeH 9 33 (v := ?_) rfl (by kernel_rfl) (by kernel_rfl) (by kernel_rfl) (fun _ _ _ h => h) (Or.inl ⟨by rfl, ?_⟩) (by assumption) ?_
     rotate_left
     ·(intro w hSw; (try dsimp only at hSw); go_simp) <;> with_reducible rfl
     (try simp only [Act.put, List.setIfInBounds_toArray, List.set_cons_zero, List.set_cons_succ])
     refine wpAnyH_ready (rs := [5]) (by kernel_rfl) (by simp) ?_
     refine AllReadyH.cons (o := _) rfl (fun K hK => ?_) AllReadyH.nil
     go_simp
     refine (spec_l1Turn hRa.1).mono ?_; rintro e w3 ⟨rfl, hb3, hrt⟩
     have C1 := below_go C0 hb3
     rw [hRa.2] at hrt
     have hft := rowN_fits hrt hRk
     have htz : (turnS (hdAt st l kb ks t a)).size ≤ 16777216 := by rw [hrt.2]; omega
     have hRR := hrt.times hRk
     try go_wp2_with fail
     refine hK.out _ _ (CA.out _ C1) (fun hHeld => ?_)
     clear hK K
     (try simp only [Act.put, List.setIfInBounds_toArray, List.set_cons_zero, List.set_cons_succ])
     refine wpAnyH_ready (rs := [10]) (by kernel_rfl) (by simp) ?_
     refine AllReadyH.cons (o := _) rfl (fun K hK => ?_) AllReadyH.nil
     go_simp
     refine (spec_l1Times htz hkz hft).mono ?_; rintro e w4 ⟨rfl, hw4⟩
     have C2 : Below wi.heap.size wi w4 := by rw [← hw4]; exact C1
     try go_wp2_with fail
     refine hK.out _ _ (CA.out _ C2) (fun hHeld => ?_)
     clear hK K
     (try simp only [Act.put, List.setIfInBounds_toArray, List.set_cons_zero, List.set_cons_succ])
     refine wpAnyH_ready (rs := [11]) (by kernel_rfl) (by simp) ?_
     refine AllReadyH.cons (o := _) rfl (fun K hK => ?_) AllReadyH.nil
     go_simp
     refine (spec_l1HasS HN1.out (HL4.out.up C2) (by omega)).mono ?_; rw [HFM.out, ← HCL.out k a]; rintro e w5 ⟨rfl, hw5⟩
     have C3 : Below wi.heap.size wi w5 := by rw [← hw5]; exact C2
     try go_wp2_with fail
     refine hK.out _ _ (CA.out _ C3) (fun hHeld => ?_)
     clear hK K
     (try simp only [Act.put, List.setIfInBounds_toArray, List.set_cons_zero, List.set_cons_succ])
     refine wpAnyH_done (by kernel_rfl) ?_ _
     (try simp only [Act.put, List.setIfInBounds_toArray, List.set_cons_zero, List.set_cons_succ])
     have HO5 := Lib.hid (HO4.out.up C3)
     have HB5 := Lib.hid (below_go HB4.out C3)
     have HL5 := Lib.hid (HL4.out.up C3)
     have HZ5 := Lib.hid (Nat.le_trans HZ4.out C3.size)
     have hs5 := HB5.out.size
     rcases hcl : clsAt st l kb ks t k a
     ·have HQ5 := Lib.hid (HQ4.out.trans (cQ2_no hcl hak).symm)
      clear hcl
      go_wp2
      go_roundw
      case rel => exact ⟨k + 1, A4, q4, c4, vs4, by omega, by omega, by omega, rfl, by go_num, HQ5, HO5, HB5, HL5, HK4, HZ5⟩
      case measure => simp [intOf]; omega
     ·have HQ5 := Lib.hid (show q4 + 1 = 0 ↔ cQ2 (clsAt st l kb ks t) m a (k + 1) from ⟨fun e => absurd e (by omega), fun e => absurd e (cQ2_yes hcl hak)⟩)
      clear hcl
      go_wp2_with (first | (at_builtin; go_must ((refine wpList_append_recs Tryz.elInts slcE_one rfl (.tmp 36) (.tmp 40) rfl rfl ((HO5.out.alloc _).alloc _) rfl (own_lit1_at' slcE_len (w5.alloc (.cells #[.int .i64 (a : Int), .int .i64 (k : Int)] 3)) 134 (some ⟨w5.heap.size, 0, none⟩, 2, 2) (by simp) (Nat.le_refl _)).recs rfl ?_ (by decide) ?_ ?_; (focus (first | omega | (simp only [World.size_alloc]; done) | (simp only [World.size_alloc]; omega) | (simp; done) | (simp; omega))); (focus (first | omega | (simp only [World.size_alloc]; done) | (simp only [World.size_alloc]; omega) | (simp; done) | (simp; omega))); intro A6 c6 w6 ho6 hg6 hl6))))
      have hb6 : Below w.heap.size w w6 := ((HB5.out.alloc hs5 (.cells #[.int .i64 (a : Int), .int .i64 (k : Int)] 3)).alloc (by simp; omega) (.cells ⟨slcE (some ⟨w5.heap.size, 0, none⟩, 2, 2)⟩ 134)).trans (grown_base hg6 (by simp; omega) (fun z hz => (HO5.out.range z hz).1))
      have hzz := HZ5.out
      have HL6 : Hid (Strs w6 (some ⟨g, 0, none⟩) (falS (leadL st l))) := Lib.hid (recs_grown12 ((HL5.out.alloc (.cells #[.int .i64 (a : Int), .int .i64 (k : Int)] 3)).alloc (.cells ⟨slcE (some ⟨w5.heap.size, 0, none⟩, 2, 2)⟩ 134)) hg6 (fun e => by have := HK4.out _ e.symm; omega))
      have hs6 := hg6.size
      simp at hs6
      go_roundw
      case rel => exact ⟨k + 1, A6, q4 + 1, c6, _, by omega, by omega, by omega, rfl, by go_num, HQ5, Lib.hid ho6, Lib.hid hb6, HL6, Lib.hid (fun z hz => by
       rcases hl6 z hz with q | q
       ·exact HK4.out z q
       ·simp at q; omega), Lib.hid (by omega)⟩
      case measure => simp [intOf]; omega
    ·obtain rfl : k = m := by omega
     have hI2 : ¬ (k : Int) < (k : Int) := by omega
     have HQ5 := Lib.hid (HQ4.out.trans cQ2_end)
     go_wp2
     go_roundw
     case rel => exact ⟨a + 1, A4, q4, c4, vs4, by omega, by omega, rfl, by go_num, HQ5, HO4, HB4, HL4, HK4, HZ4⟩
     case measure => simp [intOf]; omega
  ·obtain rfl : a = m := by omega
   have hI : ¬ (a : Int) < (a : Int) := by omega
   have HQ5 := Lib.hid (HQ.out.trans HFR.out)
   go_wp2
   go_ret
   exact ClR.mk _ _ _ rfl (by omega) HQ5.out HB.out
set_option maxHeartbeats 4000000 in
set_option maxRecDepth 100000 in
theorem impl_clashes {A : Option Addr} {n c st : Nat} {nm : ByteArray} {l : List ByteArray} {kb ks t : ByteArray} {B : Option Addr} {m d : Nat} {w : World} (hn : l.length = n) (h : Strs w A l) (hz : n ≤ 1048576) (hs : ∀ s ∈ l, s.size ≤ 16777216) (hnm : nm.size ≤ 16777216) (h9 : st ≤ 1000) (hk : goodK nm (st : Int) l kb ks = true) (hB : Strs w B (hdsL st l kb ks t m)) (hm : m ≤ 60) :
  Calls Tryz.prog 245 #[.agg #[.string nm, .int .i64 st, .slice A n c], .slice B m d] w fun e w' => ClR st l kb ks t m w e w' := by
 have h38 := (goodK_all hk).1
 have hGM := (goodK_t hk).1
 have h40 := (goodK_all hk).2.1
 have b0 : Below w.heap.size w (w.alloc (.cells ⟨[.string nm, .int .i64 st, .slice A n c]⟩ 25)) := by (repeat' (first | (with_reducible exact Below.refl _ _) | (with_reducible assumption) | (with_reducible refine below_drewN ?_ _) | (with_reducible refine Below.drew ?_) | (with_reducible refine below_alloc ?_ _) | (with_reducible refine Below.alloc ?_ ?_ _) | (with_reducible refine Below.setCell ?_ ?_ _) | (with_reducible refine below_go ?_ (by with_reducible assumption)) | (with_reducible refine below_then (by with_reducible assumption) ?_ ?_) | go_size))
 have KSS := string_keyed (P := Tryz.prog) (k := 9) Tryz.underlying9
 have HRN := Lib.hid (fun j => hdAt_good h38.1 h38.2 l kb ks t j)
 have HFR := Lib.hid (@free_cP st l kb ks t m)
 have HCL := Lib.hid (fun (k i : Nat) => show clsAt st l kb ks t k i = inL (falL (leadL st l)) (timesS (turnS (hdAt st l kb ks t i)) (hdAt st l kb ks t k)) from rfl)
 have HBW := Lib.hid hB
 go_in
 go_wp2_with fail
 refine (impl_falseSet (nm := nm) hn (h.up b0) hz hs hnm h9 hGM).mono ?_; rintro e w1 ⟨b, rfl, hm1, _, hb1⟩
 have hblt := hm1.lt
 have HLF := Lib.hid (hm1.alloc (.cells #[] 134))
 have b1 : Below w1.heap.size w1 (w1.alloc (.cells #[] 134)) := by (repeat' (first | (with_reducible exact Below.refl _ _) | (with_reducible assumption) | (with_reducible refine below_drewN ?_ _) | (with_reducible refine Below.drew ?_) | (with_reducible refine below_alloc ?_ _) | (with_reducible refine Below.alloc ?_ ?_ _) | (with_reducible refine Below.setCell ?_ ?_ _) | (with_reducible refine below_go ?_ (by with_reducible assumption)) | (with_reducible refine below_then (by with_reducible assumption) ?_ ?_) | go_size))
 have B0 := below_go b0 hb1
 have HE := Lib.hid (Owned.empty (α := Hd) (e := slcE) (s := 1) (base := w.heap.size) slcE_len 134 w1 B0.size)
 have B1 := below_go B0 b1
 have HKS : Hid (∀ z, (Value.slice (some ⟨w1.heap.size, 0, none⟩) 0 0).ownBlock = some z → w1.heap.size ≤ z) := Lib.hid (fun z hz => by simp [Value.ownBlock] at hz; omega)
 have HS1 := Lib.hid (show w1.heap.size ≤ (w1.alloc (.cells #[] 134)).heap.size by simp)
 clear hm1 hb1 b0 b1 B0 h hB
 go_wp2
 have HB1W := Lib.hid B1
 clear B1
 go_loopw [6, 16] (fun v i wr => ∃ (a : Nat) (A' : Option Addr) (q c' : Nat) (vs : List Hd), a ≤ m ∧ q ≤ 60 * a ∧ v = .slice A' q c' ∧ i = .int .i64 a ∧ Hid (q = 0 ↔ cP (clsAt st l kb ks t) m a) ∧ Hid (Owned slcE 1 134 wr w.heap.size A' q c' vs) ∧ Hid (Below w.heap.size w wr) ∧ Hid (SetX Tryz.prog wr 9 4 b (falL (leadL st l))) ∧ Hid (∀ z, (Value.slice A' q c').ownBlock = some z → w1.heap.size ≤ z) ∧ Hid (w1.heap.size ≤ wr.heap.size)) (fun _ i _ => m - (intOf i).toNat)
 case atStart => exact ⟨0, _, 0, _, [], Nat.zero_le _, Nat.zero_le _, rfl, rfl, Lib.hid (by simp; exact cP_zero), HE, HB1W, HLF, HKS, HS1⟩
 case round =>
  obtain ⟨a, A3, q, c3, vs, ha, hq, rfl, rfl, HQ, HO, HB, HL3, HK3, HZ3⟩ := hrel
  rename World => wo
  by_cases hlt : a < m
  ·have hI : (a : Int) < (m : Int) := by omega
   have hwa : IntKind.i64.wrap ((a : Int) + 1) = ((a + 1 : Nat) : Int) := by rw [wrap_id (by omega)]; omega
   obtain ⟨b3, o3, x, e3, hb3l, hx, hcx⟩ := (HBW.out.up HB.out).at_str (k := a) (by rw [hdsL_len]; exact hlt)
   subst e3
   rw [hdsL_at hlt] at hx
   injection hx with hx
   subst hx
   have HCA := Lib.hid (fun (u : World) (hu : Below w.heap.size w u) (k : Nat) (hk : k < m) => show u.cell? ⟨b3, o3 + k, none⟩ = some (.string (hdAt st l kb ks t k)) from by
    obtain ⟨b4, o4, y, e4, _, hy, hcy⟩ := (HBW.out.up hu).at_str (k := k) (by rw [hdsL_len]; exact hk)
    injection e4 with e4
    injection e4 with e4 e5
    subst e4 e5
    rw [hdsL_at hk] at hy
    injection hy with hy
    rw [hcy, hy])
   have HQ2 := Lib.hid (HQ.out.trans cQ2_start.symm)
   go_wp2
   go_loopw [6, 9] (fun v i wr => ∃ (k : Nat) (A' : Option Addr) (q c' : Nat) (vs : List Hd), a < k ∧ k ≤ m ∧ q ≤ 60 * a + k ∧ v = .slice A' q c' ∧ i = .int .i64 k ∧ Hid (q = 0 ↔ cQ2 (clsAt st l kb ks t) m a k) ∧ Hid (Owned slcE 1 134 wr w.heap.size A' q c' vs) ∧ Hid (Below w.heap.size w wr) ∧ Hid (SetX Tryz.prog wr 9 4 b (falL (leadL st l))) ∧ Hid (∀ z, (Value.slice A' q c').ownBlock = some z → w1.heap.size ≤ z) ∧ Hid (w1.heap.size ≤ wr.heap.size)) (fun _ i _ => m - (intOf i).toNat)
   case atStart => exact ⟨a + 1, A3, q, c3, vs, Nat.lt_succ_self _, hlt, by omega, rfl, by go_num, HQ2, HO, HB, HL3, HK3, HZ3⟩
   case round =>
    obtain ⟨k, A4, q4, c4, vs4, hak, hkm, hq4, rfl, rfl, HQ4, HO4, HB4, HL4, HK4, HZ4⟩ := hrel
    rename World => wi
    by_cases hlk : k < m
    ·have hI2 : (k : Int) < (m : Int) := by omega
     have hwk : IntKind.i64.wrap ((k : Int) + 1) = ((k + 1 : Nat) : Int) := by rw [wrap_id (by omega)]; omega
     have hRa := HRN.out a
     have hRk := HRN.out k
     have haz : (hdAt st l kb ks t a).size ≤ 16777216 := by rw [hRa.2]; omega
     have hkz : (hdAt st l kb ks t k).size ≤ 16777216 := by rw [hRk.2]; omega
     go_upto_region 9 with fail
     have C0 : Below wi.heap.size wi wi.drew := (Below.refl _ _).drew
     have CA : Hid (∀ u : World, Below wi.heap.size wi u → u.cell? ⟨b3, o3 + a, none⟩ = some (.string (hdAt st l kb ks t a)) ∧ u.cell? ⟨b3, o3 + k, none⟩ = some (.string (hdAt st l kb ks t k))) := Lib.hid (fun u hu => ⟨HCA.out u (below_go HB4.out hu) a hlt, HCA.out u (below_go HB4.out hu) k hlk⟩)
     refine wp_region_held_drew (S := fun u => u.cell? ⟨b3, o3 + a, none⟩ = some (.string (hdAt st l kb ks t a)) ∧ u.cell? ⟨b3, o3 + k, none⟩ = some (.string (hdAt st l kb ks t k))) (by kernel_rfl) (CA.out _ C0) (fun hHeld => ?_)
     refine takeH 0 29 (v := ?_) rfl (by kernel_rfl) (by kernel_rfl) (by kernel_rfl) (fun _ _ _ h => h) (Or.inl ⟨by rfl, ?_⟩) (by assumption) ?_
     rotate_left
     ·(intro w hSw; (try dsimp only at hSw); go_simp) <;> with_reducible rfl
     (try simp only [Act.put, List.setIfInBounds_toArray, List.set_cons_zero, List.set_cons_succ])
     refine takeH 1 30 (v := ?_) rfl (by kernel_rfl) (by kernel_rfl) (by kernel_rfl) (fun _ _ _ h => h) (Or.inl ⟨by rfl, ?_⟩) (by assumption) ?_
     rotate_left
     ·(intro w hSw; (try dsimp only at hSw); go_simp) <;> with_reducible rfl
     (try simp only [Act.put, List.setIfInBounds_toArray, List.set_cons_zero, List.set_cons_succ])
     refine takeH 3 32 (v := ?_) rfl (by kernel_rfl) (by kernel_rfl) (by kernel_rfl) (fun _ _ _ h => h) (Or.inl ⟨by rfl, ?_⟩) (by assumption) ?_
     rotate_left
     ·(intro w hSw; (try dsimp only at hSw); go_simp) <;> with_reducible rfl
     (try simp only [Act.put, List.setIfInBounds_toArray, List.set_cons_zero, List.set_cons_succ])
     refine takeH 4 33 (v := ?_) rfl (by kernel_rfl) (by kernel_rfl) (by kernel_rfl) (fun _ _ _ h => h) (Or.inl ⟨by rfl, ?_⟩) (by assumption) ?_
     rotate_left
     ·(intro w hSw; (try dsimp only at hSw); go_simp) <;> with_reducible rfl
     (try simp only [Act.put, List.setIfInBounds_toArray, List.set_cons_zero, List.set_cons_succ])
     refine takeH 5 34 (v := ?_) rfl (by kernel_rfl) (by kernel_rfl) (by kernel_rfl) (fun _ _ _ h => h) (Or.inl ⟨by rfl, ?_⟩) (by assumption) ?_
     rotate_left
     ·(intro w hSw; (try dsimp only at hSw); go_simp) <;> with_reducible rfl
     (try simp only [Act.put, List.setIfInBounds_toArray, List.set_cons_zero, List.set_cons_succ])
     refine takeH 6 35 (v := ?_) rfl (by kernel_rfl) (by kernel_rfl) (by kernel_rfl) (fun _ _ _ h => h) (Or.inl ⟨by rfl, ?_⟩) (by assumption) ?_
     rotate_left
     ·(intro w hSw; (try dsimp only at hSw); go_simp) <;> with_reducible rfl
     (try simp only [Act.put, List.setIfInBounds_toArray, List.set_cons_zero, List.set_cons_succ])
     refine wpAnyH_ready (rs := [2]) (by kernel_rfl) (by simp) ?_
     refine AllReadyH.cons (o := _) rfl (fun K hK => ?_) AllReadyH.nil
     go_simp
     refine (impl_turned hRa.1).mono ?_; rintro e w3 ⟨rfl, hb3, hrt⟩
     have C1 := below_go C0 hb3
     rw [hRa.2] at hrt
     have hft := rowN_fits hrt hRk
     have htz : (turnS (hdAt st l kb ks t a)).size ≤ 16777216 := by rw [hrt.2]; omega
     have hRR := hrt.times hRk
     try go_wp2_with fail
     refine hK.out _ _ (CA.out _ C1) (fun hHeld => ?_)
     clear hK K
     (try simp only [Act.put, List.setIfInBounds_toArray, List.set_cons_zero, List.set_cons_succ])
     refine wpAnyH_ready (rs := [7]) (by kernel_rfl) (by simp) ?_
     refine AllReadyH.cons (o := _) rfl (fun K hK => ?_) AllReadyH.nil
     go_simp
     refine (impl_times htz hkz hft).mono ?_; rintro e w4 ⟨rfl, hb4⟩
     have C3 := below_go C1 hb4
     try go_wp2_with fail
     refine hK.out _ _ (CA.out _ C3) (fun hHeld => ?_)
     clear hK K
     (try simp only [Act.put, List.setIfInBounds_toArray, List.set_cons_zero, List.set_cons_succ])
     have hyz : (timesS (turnS (hdAt st l kb ks t a)) (hdAt st l kb ks t k)).size ≤ 16777216 := by rw [hRR.2]; omega
     have lk := (HL4.out.up C3).look (t := 110) KSS Tryz.underlying110 Tryz.underlying9 Tryz.underlying4 (by kernel_rfl) hyz
     rw [← HCL.out k a] at lk
     refine wpAnyH_ready (rs := [8]) (by kernel_rfl) (by simp) ?_
     refine AllReadyH.cons (o := _) rfl (fun K hK => ?_) AllReadyH.nil
     go_simp
     refine hK.out _ _ (CA.out _ C3) (fun hHeld => ?_)
     clear hK K lk
     (try simp only [Act.put, List.setIfInBounds_toArray, List.set_cons_zero, List.set_cons_succ])
     refine wpAnyH_done (by kernel_rfl) ?_ _
     (try simp only [Act.put, List.setIfInBounds_toArray, List.set_cons_zero, List.set_cons_succ])
     have HO5 := Lib.hid (HO4.out.up C3)
     have HB5 := Lib.hid (below_go HB4.out C3)
     have HL5 := Lib.hid (HL4.out.up C3)
     have HZ5 := Lib.hid (Nat.le_trans HZ4.out C3.size)
     have hs5 := HB5.out.size
     rcases hcl : clsAt st l kb ks t k a
     ·have HQ5 := Lib.hid (HQ4.out.trans (cQ2_no hcl hak).symm)
      clear hcl
      go_wp2
      go_roundw
      case rel => exact ⟨k + 1, A4, q4, c4, vs4, by omega, by omega, by omega, rfl, by go_num, HQ5, HO5, HB5, HL5, HK4, HZ5⟩
      case measure => simp [intOf]; omega
     ·have HQ5 := Lib.hid (show q4 + 1 = 0 ↔ cQ2 (clsAt st l kb ks t) m a (k + 1) from ⟨fun e => absurd e (by omega), fun e => absurd e (cQ2_yes hcl hak)⟩)
      clear hcl
      go_wp2_with (first | (at_builtin; go_must ((refine wpList_append_recs Tryz.elInts slcE_one rfl (.tmp 38) (.tmp 42) rfl rfl ((HO5.out.alloc _).alloc _) rfl (own_lit1_at' slcE_len (w4.alloc (.cells #[.int .i64 (a : Int), .int .i64 (k : Int)] 3)) 134 (some ⟨w4.heap.size, 0, none⟩, 2, 2) (by simp) (Nat.le_refl _)).recs rfl ?_ (by decide) ?_ ?_; (focus (first | omega | (simp only [World.size_alloc]; done) | (simp only [World.size_alloc]; omega) | (simp; done) | (simp; omega))); (focus (first | omega | (simp only [World.size_alloc]; done) | (simp only [World.size_alloc]; omega) | (simp; done) | (simp; omega))); intro A6 c6 w6 ho6 hg6 hl6))))
      have hb6 : Below w.heap.size w w6 := ((HB5.out.alloc hs5 (.cells #[.int .i64 (a : Int), .int .i64 (k : Int)] 3)).alloc (by simp; omega) (.cells ⟨slcE (some ⟨w4.heap.size, 0, none⟩, 2, 2)⟩ 134)).trans (grown_base hg6 (by simp; omega) (fun z hz => (HO5.out.range z hz).1))
      have hzz := HZ5.out
      have HL6 : Hid (SetX Tryz.prog w6 9 4 b (falL (leadL st l))) := Lib.hid (((HL5.out.alloc (.cells #[.int .i64 (a : Int), .int .i64 (k : Int)] 3)).alloc (.cells ⟨slcE (some ⟨w4.heap.size, 0, none⟩, 2, 2)⟩ 134)).kept hg6 (fun e => by have := HK4.out _ e.symm; omega))
      have hs6 := hg6.size
      simp at hs6
      go_roundw
      case rel => exact ⟨k + 1, A6, q4 + 1, c6, _, by omega, by omega, by omega, rfl, by go_num, HQ5, Lib.hid ho6, Lib.hid hb6, HL6, Lib.hid (fun z hz => by
       rcases hl6 z hz with q | q
       ·exact HK4.out z q
       ·simp at q; omega), Lib.hid (by omega)⟩
      case measure => simp [intOf]; omega
    ·obtain rfl : k = m := by omega
     have hI2 : ¬ (k : Int) < (k : Int) := by omega
     have HQ5 := Lib.hid (HQ4.out.trans cQ2_end)
     go_wp2
     go_roundw
     case rel => exact ⟨a + 1, A4, q4, c4, vs4, by omega, by omega, rfl, by go_num, HQ5, HO4, HB4, HL4, HK4, HZ4⟩
     case measure => simp [intOf]; omega
  ·obtain rfl : a = m := by omega
   have hI : ¬ (a : Int) < (a : Int) := by omega
   have HQ5 := Lib.hid (HQ.out.trans HFR.out)
   go_wp2
   go_ret
   exact ClR.mk _ _ _ rfl (by omega) HQ5.out HB.out
end Go.Proofs.YtidolgonmimicaaGreat
