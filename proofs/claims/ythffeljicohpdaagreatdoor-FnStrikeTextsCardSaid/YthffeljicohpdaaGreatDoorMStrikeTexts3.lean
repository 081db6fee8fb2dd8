/- Texts 3 of 5 that the claim leans on: plain laws and the walks' contracts, in order. -/
import Derived.Test.YthffeljicohpdaaGreatDoorMStrikeTexts2
import Derived.Deep.Cut
import Derived.StillTailTactics
import Derived.Test.YthffeljicohpdaaGreatDoorRows
/- The walk through the generator of methods. -/
namespace Go.Proofs.YthffeljicohpdaaGreatDoor
set_option linter.unusedVariables false
set_option linter.unusedSimpArgs false
open Go.ChangeShapes Go.WideShapes Go.ChangeAt Go.RowKit Go.Deep
/-- The state of a method that is being made in block b: p is the cursor's block, the result's block comes first. -/
def MSt (w u : World) (p : Nat) (A : Option Addr) (n c a b : Nat) (nm : ByteArray) (st : Int) (v : Value) : Prop :=
  Blk u b 99 [.string nm, .int .i64 st, v] ∧ Cur u p A n c a ∧ (∃ x y z, Blk u w.heap.size 99 [x, y, z]) ∧ w.grownBy u (some p) ∧ p < w.heap.size ∧ w.heap.size < b
section
variable {w u u' : World} {p n c a a' b : Nat} {A : Option Addr} {nm : ByteArray} {st : Int} {v v' : Value}
theorem MSt.mono (h : MSt w u p A n c a b nm st v) (ha : a ≤ a') : MSt w u p A n c a' b nm st v := ⟨h.1, h.2.1.mono ha, h.2.2⟩
theorem MSt.draw (h : MSt w u p A n c a b nm st v) (hg : u.grownBy u' (some p)) (hc : Cur u' p A n c a') : MSt w u' p A n c a' b nm st v := by
  obtain ⟨h1, _, ⟨x, y, z, h3⟩, h4, h5, h6⟩ := h
  exact ⟨h1.grown hg (fun e => by injection e with e; omega), hc, ⟨x, y, z, h3.grown hg (fun e => by injection e with e; omega)⟩, grownBy_trans h4 hg, h5, h6⟩
theorem MSt.grown {row : Option Nat} (h : MSt w u p A n c a b nm st v) (hg : u.grownBy u' row) (hr : ∀ k, row = some k → b < k) : MSt w u' p A n c a b nm st v := by
  obtain ⟨h1, h2, ⟨x, y, z, h3⟩, h4, h5, h6⟩ := h
  exact ⟨h1.grown hg (fun e => by have := hr b e.symm; omega), h2.grown hg (fun e => by have := hr p e.symm; omega), ⟨x, y, z, h3.grown hg (fun e => by have := hr _ e.symm; omega)⟩, grow_own h4 hg (fun k e => by have := hr k e; omega), h5, h6⟩
theorem MSt.up (h : MSt w u p A n c a b nm st v) (hb : Below u.heap.size u u') : MSt w u' p A n c a b nm st v := h.grown (grown_of_below hb) (fun k e => by cases e)
theorem MSt.alloc (h : MSt w u p A n c a b nm st v) (o : Obj) : MSt w (u.alloc o) p A n c a b nm st v := h.up ((Below.refl _ _).alloc (Nat.le_refl _) o)
theorem MSt.drew (h : MSt w u p A n c a b nm st v) : MSt w u.drew p A n c a b nm st v := h.up (below_drewN (Below.refl _ _) 1)
theorem MSt.put (h : MSt w u p A n c a b nm st v) : MSt w (u.setCell ⟨b, 2, none⟩ v') p A n c a b nm st v' := by
  obtain ⟨h1, h2, ⟨x, y, z, h3⟩, h4, h5, h6⟩ := h
  have hg : u.grownBy (u.setCell ⟨b, 2, none⟩ v') (some b) := only_set u (p := ⟨b, 2, none⟩) v'
  exact ⟨h1.set_ 2 v', h2.grown hg (fun e => by injection e with e; omega), ⟨x, y, z, h3.grown hg (fun e => by injection e with e; omega)⟩, grow_own h4 hg (fun k e => by injection e with e; omega), h5, h6⟩
theorem own_put {u : World} {b base m d : Nat} {B : Option Addr} {l : List ByteArray} {v' : Value} (ho : Owned strE 1 9 u base B m d l) (hb : b < base) : Owned strE 1 9 (u.setCell ⟨b, 2, none⟩ v') base B m d l :=
  ho.past (only_set u (p := ⟨b, 2, none⟩) v') hb
theorem strs_grown {w w' : World} {b o : Nat} {l : List ByteArray} {row : Option Nat} (h : Strs w (some ⟨b, o, none⟩) l) (hg : w.grownBy w' row) (hne : some b ≠ row) : Strs w' (some ⟨b, o, none⟩) l := by
  refine ⟨h.1, h.2.1, fun hn => ?_⟩
  obtain ⟨b', o', hA, hb, hc⟩ := h.2.2 hn
  injection hA with hA
  injection hA with e1 e2 _
  subst e1 e2
  exact ⟨b, o, rfl, Nat.lt_of_lt_of_le hb hg.size, fun j u hu => (hg.cell_far ⟨b, o + j, none⟩ hb hne).trans (hc j u hu)⟩
end
theorem good_snoc {st : Int} {L : List ByteArray} {x : ByteArray} (h : ∀ y ∈ L, goodChange st y = true) (hx : goodChange st x = true) : ∀ y ∈ L ++ [x], goodChange st y = true := fun y hy => by
  rcases List.mem_append.1 hy with hy | hy
  · exact h y hy
  · rw [List.mem_singleton.1 hy]; exact hx
set_option maxHeartbeats 4000000 in
set_option maxRecDepth 100000 in
theorem cur_method {A : Option Addr} {n c a p : Nat} {w0 w : World} (hS : Src w0 A n) (hb : Below w0.heap.size w0 w) (hp : w0.heap.size ≤ p) (hc : Cur w p A n c a) (ha : a ≤ 1000000) :
    Calls Tryz.prog 72 #[.pointer (some ⟨p, 0, none⟩)] w fun e w' => ∃ (nm : ByteArray) (st : Nat) (A' : Option Addr) (m c' : Nat) (L : List ByteArray), e = .returned (.agg #[.string nm, .int .i64 st, .slice A' m c']) ∧ goodM nm st L = true ∧ 3 ≤ st ∧ st ≤ 6 ∧ m ≤ 12 ∧ Owned strE 1 9 w' w.heap.size A' m c' L ∧ Cur w' p A n c (a + 100) ∧ w.grownBy w' (some p) := by
  have hpw := hc.lt
  have R0 := Blk.at_ w 99 [.string ⟨#[]⟩, .int .i64 0, .slice none 0 0] (b := w.heap.size) rfl
  have b0 : Below w.heap.size w (w.alloc (.cells #[.string ⟨#[]⟩, .int .i64 0, .slice none 0 0] 99)) := by (repeat' (first | (with_reducible exact Below.refl _ _) | (with_reducible assumption) | (with_reducible refine below_drewN ?_ _) | (with_reducible refine Below.drew ?_) | (with_reducible refine below_alloc ?_ _) | (with_reducible refine Below.alloc ?_ ?_ _) | (with_reducible refine Below.setCell ?_ ?_ _) | (with_reducible refine below_go ?_ (by with_reducible assumption)) | (with_reducible refine below_then (by with_reducible assumption) ?_ ?_) | go_size))
  have G : Hid (∀ u : World, w.grownBy u (some p) → Below w0.heap.size w0 u) := Lib.hid (fun u hg => grown_below hb hp hg)
  have HS := Lib.hid hS
  clear hS hb
  go_in
  go_wp2_with fail
  obtain ⟨w1, hw1⟩ : ∃ u, u = w.alloc (.cells #[.string ⟨#[]⟩, .int .i64 0, .slice none 0 0] 99) := ⟨_, rfl⟩
  have z1 : w1.heap.size = w.heap.size + 1 := by rw [hw1]; simp
  rw [← hw1] at b0 ⊢
  have R1 : Blk w1 w.heap.size 99 [.string ⟨#[]⟩, .int .i64 0, .slice none 0 0] := by rw [hw1]; exact R0
  clear hw1 R0
  have hl1 := lit_ints w1 3 [4, 4, 5, 6, 6, 3]
  rw [z1] at hl1
  have a1 : ∀ o : Obj, Below w1.heap.size w1 (w1.alloc o) := fun o => (Below.refl _ _).alloc (Nat.le_refl _) o
  refine (cur_among HS.out (G.out _ (grown_any (below_go b0 (a1 _)) _)) hp ((hc.up b0).up (a1 _)) (by omega) rfl hl1 (by decide) (by decide) (fun b o e => by injection e with e; injection e with e; omega)).mono ?_; rintro e w2 ⟨x, hx, rfl, hc2, hg2⟩
  have g2 : w.grownBy w2 (some p) := grownBy_trans (grown_any (below_go b0 (a1 _)) _) hg2
  have R2 := (R1.up (a1 _)).grown hg2 (fun e => by injection e with e; omega)
  have s2 : w.heap.size + 1 ≤ w2.heap.size := by have := hg2.size; simp at this; omega
  simp only [List.mem_cons, List.not_mem_nil, or_false] at hx
  obtain ⟨st, rfl⟩ : ∃ st : Nat, x = (st : Int) := ⟨x.toNat, by omega⟩
  have hst : 3 ≤ st ∧ st ≤ 6 := by omega
  clear hx hl1 a1 hg2 R1 hc b0
  go_wp2_with fail
  have hl2 := lit_strs2 w2 9 [⟨#[97]⟩, ⟨#[112, 108, 97, 105, 110]⟩, ⟨#[98, 111, 98]⟩, ⟨#[108, 105, 116, 116, 108, 101]⟩]
  have a2 : ∀ o : Obj, Below w2.heap.size w2 (w2.alloc o) := fun o => (Below.refl _ _).alloc (Nat.le_refl _) o
  refine (cur_of HS.out (G.out _ (grownBy_trans g2 (grown_any (a2 _) _))) hp (hc2.up (a2 _)) (by omega) rfl hl2 (by decide) (by decide) (fun b o e => by injection e with e; injection e with e; omega)).mono ?_; rintro e w3 ⟨nm, hnm, rfl, hc3, hg3⟩
  have g3 : w.grownBy w3 (some p) := grownBy_trans (grownBy_trans g2 (grown_any (a2 _) _)) hg3
  have R3 := (R2.up (a2 _)).grown hg3 (fun e => by injection e with e; omega)
  have s3 : w.heap.size + 1 ≤ w3.heap.size := by have := hg3.size; simp at this; omega
  have hok : nameOk nm = true := by
    simp only [List.mem_cons, List.not_mem_nil, or_false] at hnm
    rcases hnm with rfl | rfl | rfl | rfl <;> decide +kernel
  clear hnm hl2 a2 hg3 R2 hc2 g2
  have K3 := Blk.at_ w3 99 [.string nm, .int .i64 (st : Int), .slice none 0 0] (b := w3.heap.size) rfl
  have a3 : Below w3.heap.size w3 (w3.alloc (.cells #[.string nm, .int .i64 (st : Int), .slice none 0 0] 99)) := by (repeat' (first | (with_reducible exact Below.refl _ _) | (with_reducible assumption) | (with_reducible refine below_drewN ?_ _) | (with_reducible refine Below.drew ?_) | (with_reducible refine below_alloc ?_ _) | (with_reducible refine Below.alloc ?_ ?_ _) | (with_reducible refine Below.setCell ?_ ?_ _) | (with_reducible refine below_go ?_ (by with_reducible assumption)) | (with_reducible refine below_then (by with_reducible assumption) ?_ ?_) | go_size))
  have M3 : MSt w (w3.alloc (.cells #[.string nm, .int .i64 (st : Int), .slice none 0 0] 99)) p A n c (a + 1 + 1) w3.heap.size nm st (.slice none 0 0) := ⟨K3, hc3.up a3, ⟨_, _, _, R3.up a3⟩, grownBy_trans g3 (grown_any a3 _), hpw, by omega⟩
  have fin : Hid (∀ (u v : World) (A' : Option Addr) (m c' : Nat) (L : List ByteArray), w.grownBy u (some p) → Cur u p A n c (a + 90) → Owned strE 1 9 u (w3.heap.size + 1) A' m c' L → 1 ≤ m → m ≤ 12 → (∀ x ∈ L, goodChange st x = true) → u.grownBy v (some w.heap.size) → ∃ (nm' : ByteArray) (st' : Nat) (A'' : Option Addr) (m' c'' : Nat) (L' : List ByteArray), Ending.returned (Value.agg #[.string nm, .int .i64 (st : Int), .slice A' m c']) = .returned (.agg #[.string nm', .int .i64 (st' : Int), .slice A'' m' c'']) ∧ goodM nm' st' L' = true ∧ 3 ≤ st' ∧ st' ≤ 6 ∧ m' ≤ 12 ∧ Owned strE 1 9 v w.heap.size A'' m' c'' L' ∧ Cur v p A n c (a + 100) ∧ w.grownBy v (some p)) := Lib.hid (fun u v A' m c' L h1 h2 h3 h4 h5 h6 h7 =>
    ⟨nm, st, A', m, c', L, rfl, goodM_of hok hst.1 (by omega) (by rw [h3.len]; exact h4) (by rw [h3.len]; omega) h6, hst.1, hst.2, h5, (h3.past h7 (by omega)).base_le (by omega), (h2.grown h7 (fun e => by injection e with e; omega)).mono (by omega), grow_own h1 h7 (fun k e => by injection e with e; omega)⟩)
  clear K3 a3 R3 g3 hc3
  by_cases h4 : 4 ≤ st
  · have hI4 : (4 : Int) ≤ (st : Int) := by omega
    go_wp2_with fail
    obtain ⟨w4, hw4⟩ : ∃ u, u = w3.alloc (.cells #[.string nm, .int .i64 (st : Int), .slice none 0 0] 99) := ⟨_, rfl⟩
    rw [← hw4] at M3 ⊢
    clear hw4
    refine (cur_one HS.out (G.out _ M3.2.2.2.1) hp M3.2.1 (by omega) (by decide) (by decide)).mono ?_; rintro e w5 ⟨b1, rfl, hc5, hg5⟩
    have HM5 := Lib.hid (M3.draw hg5 hc5)
    clear hc5 hg5 M3
    rcases b1
    · skip
      go_wp2_with fail
      refine (cur_one HS.out (G.out _ HM5.out.2.2.2.1) hp HM5.out.2.1 (by omega) (by decide) (by decide)).mono ?_; rintro e w6 ⟨b2, rfl, hc6, hg6⟩
      have HM6 := Lib.hid (HM5.out.draw hg6 hc6)
      clear hc6 hg6
      rcases b2
      · go_wp2_with fail
        refine (cur_pick HS.out (G.out _ HM6.out.2.2.2.1) hp HM6.out.2.1 (by omega) (by decide) (by decide)).mono ?_; rintro e w7 ⟨x, rfl, ⟨x0, x1⟩, hc7, hg7⟩
        have HM7 := Lib.hid (HM6.out.draw hg7 hc7)
        obtain ⟨X, rfl⟩ := Int.eq_ofNat_of_zero_le x0
        have hX : X ≤ 7 := by omega
        clear hc7 hg7 x0 x1
        go_wp2
        go_loopw [9] (fun i wr => ∃ (k m : Nat) (A' : Option Addr) (c' : Nat) (L : List ByteArray), k + m = X + 1 ∧ i = .int .i64 k ∧ Hid (MSt w wr p A n c (a + 10 + m) w3.heap.size nm st (.slice A' m c')) ∧ Hid (Owned strE 1 9 wr (w3.heap.size + 1) A' m c' L) ∧ Hid (∀ x ∈ L, goodChange st x = true) ∧ w3.heap.size < wr.heap.size) (fun i _ => (intOf i).toNat)
        case atStart => exact ⟨X + 1, 0, none, 0, [], rfl, by go_num, Lib.hid (HM7.out.mono (by omega)), Lib.hid (Owned.nil strE_len _ _ _), Lib.hid (fun s hs => by cases hs), HM7.out.1.lt⟩
        case round =>
          obtain ⟨k, m, A2, c2, L, hkm, rfl, HM, HO, HZ, hbr⟩ := hrel
          rename World => wr
          by_cases h0 : 0 < k
          · have hI : (0 : Int) < (k : Int) := by omega
            have hOl := HO.out.len
            go_upto_region 6 with fail
            obtain ⟨K1, _, _, _, K5, K6⟩ := HM.out
            have d2 := K1.cell 2; have e2 := K1.frozen 2
            simp only [List.getElem?_cons_zero, List.getElem?_cons_succ] at d2
            clear K1
            refine wp_region_any (by kernel_rfl) ?_
            (try (change wpAny _ _ _ _ _ _ _ (World.drew _)))
            refine wpAny_take (i := 0) (oi := { dst := some 25, op := _, type := _, pos := _, after := _, guard := _ }) (v := ?_) rfl (by kernel_rfl) (by kernel_rfl) (by kernel_rfl) (fun _ _ _ h => h) (Or.inl ⟨by rfl, ?_⟩) ?_
            rotate_left
            · (intro w; go_simp) <;> with_reducible rfl
            (try simp only [Act.put, List.setIfInBounds_toArray, List.set_cons_zero, List.set_cons_succ])
            refine wpAny_take (i := 2) (oi := { dst := some 27, op := _, type := _, pos := _, after := _, guard := _ }) (v := ?_) rfl (by kernel_rfl) (by kernel_rfl) (by kernel_rfl) (fun _ _ _ h => h) (Or.inl ⟨by rfl, ?_⟩) ?_
            rotate_left
            · (intro w; go_simp) <;> with_reducible rfl
            (try simp only [Act.put, List.setIfInBounds_toArray, List.set_cons_zero, List.set_cons_succ])
            refine wpAny_take (i := 3) (oi := { dst := some 28, op := _, type := _, pos := _, after := _, guard := _ }) (v := ?_) rfl (by kernel_rfl) (by kernel_rfl) (by kernel_rfl) (fun _ _ _ h => h) (Or.inl ⟨by rfl, ?_⟩) ?_
            rotate_left
            · (intro w; go_simp) <;> with_reducible rfl
            (try simp only [Act.put, List.setIfInBounds_toArray, List.set_cons_zero, List.set_cons_succ])
            refine wpAny_ready (rs := [1, 4]) (by kernel_rfl) (by simp) ?_
            refine AllReady.cons (o := _) rfl (fun K hK => ?_) (AllReady.cons (o := _) rfl (fun K hK => ?_) (AllReady.nil))
            · go_simp
              (try (refine hK _ _ ?_; clear hK K))
              (try simp only [Act.put, List.setIfInBounds_toArray, List.set_cons_zero, List.set_cons_succ])
              refine wpAny_ready (rs := [4]) (by kernel_rfl) (by simp) ?_
              refine AllReady.cons (o := _) rfl (fun K hK => ?_) (AllReady.nil)
              go_simp
              refine (cur_change HS.out (G.out _ HM.out.drew.2.2.2.1) hp HM.out.drew.2.1 (by omega) (by omega) (by omega)).mono ?_; rintro e w8 ⟨x8, rfl, gx8, zx8, hc8, hg8⟩
              have HM8 := Lib.hid (HM.out.drew.draw hg8 hc8)
              have HO8 := Lib.hid ((HO.out.up (below_drewN (Below.refl _ _) 1)).past hg8 (by omega))
              have d3 := HM8.out.1.cell 2
              simp only [List.getElem?_cons_zero, List.getElem?_cons_succ] at d3
              have d4 := (HM8.out.alloc (.cells #[.string x8] 9)).1.cell 2
              simp only [List.getElem?_cons_zero, List.getElem?_cons_succ] at d4
              try go_wp2_with fail
              (try (refine hK _ _ ?_; clear hK K))
              (try simp only [Act.put, List.setIfInBounds_toArray, List.set_cons_zero, List.set_cons_succ])
              refine wpAny_ready (rs := [5]) (by kernel_rfl) (by simp) ?_
              refine AllReady.cons (o := _) rfl (fun K hK => ?_) (AllReady.nil)
              go_simp
              (try (refine hK _ _ ?_; clear hK K))
              (try simp only [Act.put, List.setIfInBounds_toArray, List.set_cons_zero, List.set_cons_succ])
              refine wpAny_ready (rs := [6]) (by kernel_rfl) (by simp) ?_
              refine AllReady.cons (o := _) rfl (fun K hK => ?_) (AllReady.nil)
              refine step_append_rec Tryz.elStr (by rfl) _ _ (by rfl) (by rfl) (HO8.out.alloc _) x8 (by rfl) (Box.at_ _ [.string x8] _ (by rfl)) (strE_one _) (by omega) (by decide) (by have h1 := HM8.out.1.lt; have h2 := hg8.size; simp at h2 ⊢; omega) ?_
              intro A3 c3 w9 ho9 hg9 hb9
              have HM9 := Lib.hid ((HM8.out.alloc (.cells #[.string x8] 9)).grown hg9 (fun k hk => by have := (HO8.out.blk hk).1; omega))
              have d5 := HM9.out.1.cell 2; have e5 := HM9.out.1.frozen 2
              simp only [List.getElem?_cons_zero, List.getElem?_cons_succ] at d5
              (try (refine hK _ _ ?_; clear hK K))
              (try simp only [Act.put, List.setIfInBounds_toArray, List.set_cons_zero, List.set_cons_succ])
              refine wpAny_ready (rs := [7]) (by kernel_rfl) (by simp) ?_
              refine AllReady.cons (o := _) rfl (fun K hK => ?_) (AllReady.nil)
              go_simp
              (try (refine hK _ _ ?_; clear hK K))
              (try simp only [Act.put, List.setIfInBounds_toArray, List.set_cons_zero, List.set_cons_succ])
              refine wpAny_ready (rs := [8]) (by kernel_rfl) (by simp) ?_
              refine AllReady.cons (o := _) rfl (fun K hK => ?_) (AllReady.nil)
              go_simp
              (try (refine hK _ _ ?_; clear hK K))
              (try simp only [Act.put, List.setIfInBounds_toArray, List.set_cons_zero, List.set_cons_succ])
              refine wpAny_done (by kernel_rfl) ?_ _
              (try simp only [Act.put, List.setIfInBounds_toArray, List.set_cons_zero, List.set_cons_succ])
              have HZ9 := Lib.hid (good_snoc HZ.out gx8)
              have HMF := Lib.hid (HM9.out.put (v' := .slice A3 (m + 1) c3))
              have HOF := Lib.hid (own_put (b := w3.heap.size) (v' := .slice A3 (m + 1) c3) ho9 (by omega))
              clear d2 d3 d4 d5 e2 e5
              go_wp2
              go_roundw
              case rel => exact ⟨k - 1, m + 1, A3, c3, L ++ [x8], by omega, by go_num, Lib.hid (HMF.out.mono (by omega)), HOF, HZ9, HMF.out.1.lt⟩
              case measure => simp [intOf]; omega
            · go_simp
              refine (cur_change HS.out (G.out _ HM.out.drew.2.2.2.1) hp HM.out.drew.2.1 (by omega) (by omega) (by omega)).mono ?_; rintro e w8 ⟨x8, rfl, gx8, zx8, hc8, hg8⟩
              have HM8 := Lib.hid (HM.out.drew.draw hg8 hc8)
              have HO8 := Lib.hid ((HO.out.up (below_drewN (Below.refl _ _) 1)).past hg8 (by omega))
              have d3 := HM8.out.1.cell 2
              simp only [List.getElem?_cons_zero, List.getElem?_cons_succ] at d3
              have d4 := (HM8.out.alloc (.cells #[.string x8] 9)).1.cell 2
              simp only [List.getElem?_cons_zero, List.getElem?_cons_succ] at d4
              try go_wp2_with fail
              (try (refine hK _ _ ?_; clear hK K))
              (try simp only [Act.put, List.setIfInBounds_toArray, List.set_cons_zero, List.set_cons_succ])
              refine wpAny_ready (rs := [1, 5]) (by kernel_rfl) (by simp) ?_
              refine AllReady.cons (o := _) rfl (fun K hK => ?_) (AllReady.cons (o := _) rfl (fun K hK => ?_) (AllReady.nil))
              · go_simp
                (try (refine hK _ _ ?_; clear hK K))
                (try simp only [Act.put, List.setIfInBounds_toArray, List.set_cons_zero, List.set_cons_succ])
                refine wpAny_ready (rs := [5]) (by kernel_rfl) (by simp) ?_
                refine AllReady.cons (o := _) rfl (fun K hK => ?_) (AllReady.nil)
                go_simp
                (try (refine hK _ _ ?_; clear hK K))
                (try simp only [Act.put, List.setIfInBounds_toArray, List.set_cons_zero, List.set_cons_succ])
                refine wpAny_ready (rs := [6]) (by kernel_rfl) (by simp) ?_
                refine AllReady.cons (o := _) rfl (fun K hK => ?_) (AllReady.nil)
                refine step_append_rec Tryz.elStr (by rfl) _ _ (by rfl) (by rfl) (HO8.out.alloc _) x8 (by rfl) (Box.at_ _ [.string x8] _ (by rfl)) (strE_one _) (by omega) (by decide) (by have h1 := HM8.out.1.lt; have h2 := hg8.size; simp at h2 ⊢; omega) ?_
                intro A3 c3 w9 ho9 hg9 hb9
                have HM9 := Lib.hid ((HM8.out.alloc (.cells #[.string x8] 9)).grown hg9 (fun k hk => by have := (HO8.out.blk hk).1; omega))
                have d5 := HM9.out.1.cell 2; have e5 := HM9.out.1.frozen 2
                simp only [List.getElem?_cons_zero, List.getElem?_cons_succ] at d5
                (try (refine hK _ _ ?_; clear hK K))
                (try simp only [Act.put, List.setIfInBounds_toArray, List.set_cons_zero, List.set_cons_succ])
                refine wpAny_ready (rs := [7]) (by kernel_rfl) (by simp) ?_
                refine AllReady.cons (o := _) rfl (fun K hK => ?_) (AllReady.nil)
                go_simp
                (try (refine hK _ _ ?_; clear hK K))
                (try simp only [Act.put, List.setIfInBounds_toArray, List.set_cons_zero, List.set_cons_succ])
                refine wpAny_ready (rs := [8]) (by kernel_rfl) (by simp) ?_
                refine AllReady.cons (o := _) rfl (fun K hK => ?_) (AllReady.nil)
                go_simp
                (try (refine hK _ _ ?_; clear hK K))
                (try simp only [Act.put, List.setIfInBounds_toArray, List.set_cons_zero, List.set_cons_succ])
                refine wpAny_done (by kernel_rfl) ?_ _
                (try simp only [Act.put, List.setIfInBounds_toArray, List.set_cons_zero, List.set_cons_succ])
                have HZ9 := Lib.hid (good_snoc HZ.out gx8)
                have HMF := Lib.hid (HM9.out.put (v' := .slice A3 (m + 1) c3))
                have HOF := Lib.hid (own_put (b := w3.heap.size) (v' := .slice A3 (m + 1) c3) ho9 (by omega))
                clear d2 d3 d4 d5 e2 e5
                go_wp2
                go_roundw
                case rel => exact ⟨k - 1, m + 1, A3, c3, L ++ [x8], by omega, by go_num, Lib.hid (HMF.out.mono (by omega)), HOF, HZ9, HMF.out.1.lt⟩
                case measure => simp [intOf]; omega
              · go_simp
                (try (refine hK _ _ ?_; clear hK K))
                (try simp only [Act.put, List.setIfInBounds_toArray, List.set_cons_zero, List.set_cons_succ])
                refine wpAny_ready (rs := [1]) (by kernel_rfl) (by simp) ?_
                refine AllReady.cons (o := _) rfl (fun K hK => ?_) (AllReady.nil)
                go_simp
                (try (refine hK _ _ ?_; clear hK K))
                (try simp only [Act.put, List.setIfInBounds_toArray, List.set_cons_zero, List.set_cons_succ])
                refine wpAny_ready (rs := [6]) (by kernel_rfl) (by simp) ?_
                refine AllReady.cons (o := _) rfl (fun K hK => ?_) (AllReady.nil)
                refine step_append_rec Tryz.elStr (by rfl) _ _ (by rfl) (by rfl) (HO8.out.alloc _) x8 (by rfl) (Box.at_ _ [.string x8] _ (by rfl)) (strE_one _) (by omega) (by decide) (by have h1 := HM8.out.1.lt; have h2 := hg8.size; simp at h2 ⊢; omega) ?_
                intro A3 c3 w9 ho9 hg9 hb9
                have HM9 := Lib.hid ((HM8.out.alloc (.cells #[.string x8] 9)).grown hg9 (fun k hk => by have := (HO8.out.blk hk).1; omega))
                have d5 := HM9.out.1.cell 2; have e5 := HM9.out.1.frozen 2
                simp only [List.getElem?_cons_zero, List.getElem?_cons_succ] at d5
                (try (refine hK _ _ ?_; clear hK K))
                (try simp only [Act.put, List.setIfInBounds_toArray, List.set_cons_zero, List.set_cons_succ])
                refine wpAny_ready (rs := [7]) (by kernel_rfl) (by simp) ?_
                refine AllReady.cons (o := _) rfl (fun K hK => ?_) (AllReady.nil)
                go_simp
                (try (refine hK _ _ ?_; clear hK K))
                (try simp only [Act.put, List.setIfInBounds_toArray, List.set_cons_zero, List.set_cons_succ])
                refine wpAny_ready (rs := [8]) (by kernel_rfl) (by simp) ?_
                refine AllReady.cons (o := _) rfl (fun K hK => ?_) (AllReady.nil)
                go_simp
                (try (refine hK _ _ ?_; clear hK K))
                (try simp only [Act.put, List.setIfInBounds_toArray, List.set_cons_zero, List.set_cons_succ])
                refine wpAny_done (by kernel_rfl) ?_ _
                (try simp only [Act.put, List.setIfInBounds_toArray, List.set_cons_zero, List.set_cons_succ])
                have HZ9 := Lib.hid (good_snoc HZ.out gx8)
                have HMF := Lib.hid (HM9.out.put (v' := .slice A3 (m + 1) c3))
                have HOF := Lib.hid (own_put (b := w3.heap.size) (v' := .slice A3 (m + 1) c3) ho9 (by omega))
                clear d2 d3 d4 d5 e2 e5
                go_wp2
                go_roundw
                case rel => exact ⟨k - 1, m + 1, A3, c3, L ++ [x8], by omega, by go_num, Lib.hid (HMF.out.mono (by omega)), HOF, HZ9, HMF.out.1.lt⟩
                case measure => simp [intOf]; omega
          · obtain rfl : k = 0 := by omega
            have hOl := HO.out.len
            obtain ⟨K1, K2, ⟨rx, ry, rz, K3⟩, K4, K5, K6⟩ := HM.out
            have kc0 := K1.cell 0; have kc1 := K1.cell 1; have kc2 := K1.cell 2
            have kd0 := K3.cell 0; have kd1 := K3.cell 1; have kd2 := K3.cell 2
            have kf0 := K3.frozen 0; have kf1 := K3.frozen 1; have kf2 := K3.frozen 2
            simp only [List.getElem?_cons_zero, List.getElem?_cons_succ] at kc0 kc1 kc2 kd0 kd1 kd2
            have Z := ((K3.set_ 0 (.string nm)).set_ 1 (.int .i64 (st : Int))).set_ 2 (.slice A2 (m) c2)
            have y0 := Z.cell 0; have y1 := Z.cell 1; have y2 := Z.cell 2
            simp only [List.set_cons_zero, List.set_cons_succ, List.getElem?_cons_zero, List.getElem?_cons_succ] at y0 y1 y2
            have HK := Lib.hid K2; have HGR := Lib.hid K4
            clear K1 K2 K3 K4 Z
            go_wp2_with fail
            refine bodyPost_ret (v := .agg #[.string nm, .int .i64 (st : Int), .slice A2 (m) c2]) (by simp [results, Tryz.results72, go_sem, y0, y1, y2]) rfl ?_
            exact fin.out _ _ _ _ _ _ HGR.out (HK.out.mono (by omega)) HO.out (by omega) (by omega) HZ.out (grownBy_trans (grownBy_trans (only_set _ (p := ⟨w.heap.size, 0, none⟩) _) (only_set _ (p := ⟨w.heap.size, 1, none⟩) _)) (only_set _ (p := ⟨w.heap.size, 2, none⟩) _))
      · go_wp2_with fail
        refine (cur_pick HS.out (G.out _ HM6.out.2.2.2.1) hp HM6.out.2.1 (by omega) (by decide) (by decide)).mono ?_; rintro e w7 ⟨x, rfl, ⟨x0, x1⟩, hc7, hg7⟩
        have HM7 := Lib.hid (HM6.out.draw hg7 hc7)
        obtain ⟨X, rfl⟩ := Int.eq_ofNat_of_zero_le x0
        have hX : X ≤ 3 := by omega
        clear hc7 hg7 x0 x1
        go_wp2
        go_loopw [6, 7] (fun v i wr => ∃ (k m : Nat) (A' : Option Addr) (c' : Nat) (H : List ByteArray), k + m = X + 1 ∧ i = .int .i64 k ∧ v = .slice A' m c' ∧ Hid (MSt w wr p A n c (a + 10 + m) w3.heap.size nm st (.slice none 0 0)) ∧ Hid (Owned strE 1 9 wr (w3.heap.size + 1) A' m c' H) ∧ Hid (∀ x ∈ H, goodChange st x = true) ∧ w3.heap.size < wr.heap.size) (fun _ i _ => (intOf i).toNat)
        case atStart => exact ⟨X + 1, 0, none, 0, [], rfl, by go_num, rfl, Lib.hid (HM7.out.mono (by omega)), Lib.hid (Owned.nil strE_len _ _ _), Lib.hid (fun s hs => by cases hs), HM7.out.1.lt⟩
        case round =>
          obtain ⟨k, m, A2, c2, H, hkm, rfl, rfl, HM, HO, HZ, hbr⟩ := hrel
          rename World => wr
          by_cases h0 : 0 < k
          · have hI : (0 : Int) < (k : Int) := by omega
            have hOl := HO.out.len
            go_wp2_with fail
            refine (cur_change HS.out (G.out _ HM.out.2.2.2.1) hp HM.out.2.1 (by omega) (by omega) (by omega)).mono ?_; rintro e w8 ⟨x8, rfl, gx8, zx8, hc8, hg8⟩
            have HM8 := Lib.hid (HM.out.draw hg8 hc8)
            have HO8 := Lib.hid (HO.out.past hg8 (by have := HM.out.2.2.2.2; omega))
            have hs8 := HM8.out.1.lt
            have HZ9 := Lib.hid (good_snoc HZ.out gx8)
            clear hc8 hg8
            go_wp2_with (first | (at_builtin; go_must ((refine wpList_append_recs Tryz.elStr strE_one rfl (.tmp 60) (.tmp 64) rfl rfl (HO8.out.alloc _) rfl (own_lit1_at' strE_len _ 9 x8 rfl (Nat.le_refl _)).recs rfl ?_ (by decide) ?_ ?_; (focus (first | omega | (simp only [World.size_alloc]; done) | (simp only [World.size_alloc]; omega) | (simp; done) | (simp; omega))); (simp; omega); intro A3 c3 w9 ho9 hg9 hl9; have HM9 := Lib.hid ((HM8.out.alloc (.cells ⟨[Value.string x8]⟩ 9)).grown hg9 (fun k hk => by have := (HO8.out.blk hk).1; omega))))))
            go_roundw
            case rel => exact ⟨k - 1, m + 1, A3, c3, H ++ [x8], by omega, by go_num, rfl, Lib.hid (HM9.out.mono (by omega)), Lib.hid ho9, HZ9, HM9.out.1.lt⟩
            case measure => simp [intOf]; omega
          · obtain rfl : k = 0 := by omega
            have hHl := HO.out.len
            obtain ⟨gH, rfl, gH0, gH1, _, _⟩ := HO.out.at_ (by omega)
            have HR := Lib.hid HO.out.recs
            have HG := Lib.hid HZ.out
            go_wp2_with fail
            refine (spec_l1OwnS hHl HR.out (by omega)).mono ?_; rintro e w8 ⟨A3, c3, rfl, ho3, hb3⟩
            have HM3 := Lib.hid (HM.out.up hb3)
            have HR3 := Lib.hid (HR.out.up hb3)
            have hs3 := hb3.size
            clear hb3
            go_wp2_with fail
            refine (cur_change HS.out (G.out _ HM3.out.2.2.2.1) hp HM3.out.2.1 (by omega) (by omega) (by omega)).mono ?_; rintro e w9 ⟨x9, rfl, gx9, zx9, hc9, hg9⟩
            have hpb := HM3.out.2.2.2.2
            have HM4 := Lib.hid (HM3.out.draw hg9 hc9)
            have HO4 := Lib.hid (ho3.past hg9 (by omega))
            have HR4 := Lib.hid (strs_grown HR3.out hg9 (fun e => by injection e with e; omega))
            have hs9 := hg9.size
            have HZ4 := Lib.hid (good_snoc HZ.out gx9)
            have HML := Lib.hid (HM4.out.alloc (.cells ⟨[Value.string x9]⟩ 9))
            have HRL := Lib.hid (HR4.out.alloc (.cells ⟨[Value.string x9]⟩ 9))
            have hs9' : wr.heap.size ≤ (w9.alloc (.cells ⟨[Value.string x9]⟩ 9)).heap.size := by simp; omega
            obtain ⟨wb, hwb⟩ : ∃ b, b = wr.heap.size := ⟨_, rfl⟩
            rw [← hwb] at ho3 HO4 gH1 hs3 hs9' 
            clear hc9 hg9 ho3 HM3 HR3
            go_wp2_with (first | (at_builtin; go_must ((refine wpList_append_recs Tryz.elStr strE_one rfl (.tmp 67) (.tmp 71) rfl rfl (HO4.out.alloc _) rfl (own_lit1_at' strE_len _ 9 x9 rfl (Nat.le_refl _)).recs rfl ?_ (by decide) ?_ ?_; (focus (first | omega | (simp only [World.size_alloc]; done) | (simp only [World.size_alloc]; omega) | (simp; done) | (simp; omega))); (simp; omega); intro A5 c5 w10 ho5 hg5 hl5; have HM5 := Lib.hid (HML.out.grown hg5 (fun k hk => by have := (HO4.out.blk hk).1; omega)); have HR5 := Lib.hid (strs_grown HRL.out hg5 (fun e => by have := (HO4.out.blk e.symm).1; omega)); have g2 := HM5.out.1.cell 2; have e2 := HM5.out.1.frozen 2; simp only [List.getElem?_cons_zero, List.getElem?_cons_succ] at g2; have HMF := Lib.hid (HM5.out.put (v' := .slice A5 (m + 1) c5)); have HOF := Lib.hid (own_put (b := w3.heap.size) (v' := .slice A5 (m + 1) c5) ho5 (by omega)); have HRF := Lib.hid (strs_grown HR5.out (only_set w10 (p := ⟨w3.heap.size, 2, none⟩) (.slice A5 (m + 1) c5)) (fun e => by injection e with e; dsimp only at e; omega))))))
            obtain ⟨w11, hw11⟩ : ∃ u, u = w10.setCell ⟨w3.heap.size, 2, none⟩ (.slice A5 (m + 1) c5) := ⟨_, rfl⟩
            rw [← hw11] at HMF HOF HRF ⊢
            have hB4 : w3.heap.size < wb := by omega
            have hs11 : wb ≤ w11.heap.size := by have := hg5.size; rw [hw11]; simp at this ⊢; omega
            clear hw11 ho5 hg5 hl5 HM5 HR5 g2 e2 HM4 HO4 HR4 HML HRL
            go_wp2
            go_loopw [8] (fun i wr => ∃ (k q : Nat) (A' : Option Addr) (c' : Nat) (L : List ByteArray), k + q = m ∧ i = .int .i64 ((k : Int) - 1) ∧ Hid (MSt w wr p A n c (a + 20 + m) w3.heap.size nm st (.slice A' (m + 1 + q) c')) ∧ Hid (Owned strE 1 9 wr wb A' (m + 1 + q) c' L) ∧ Hid (∀ x ∈ L, goodChange st x = true) ∧ Hid (Strs wr (some ⟨gH, 0, none⟩) H) ∧ wb ≤ wr.heap.size) (fun i _ => (intOf i + 1).toNat)
            case atStart => exact ⟨m, 0, A5, c5, H ++ [x9], rfl, by go_num, Lib.hid (HMF.out.mono (by omega)), HOF, HZ4, HRF, hs11⟩
            case round =>
              obtain ⟨k, q, A2, c2, L, hkq, rfl, HM, HO, HZ, HR, hsr⟩ := hrel
              rename World => wr
              have hOl := HO.out.len
              rcases k with _ | k
              · rw [show (((0 : Nat) : Int) - 1) = -1 by omega]
                obtain rfl : q = m := by omega
                go_upto_region 23 with fail
                obtain ⟨K1, _, _, _, K5, K6⟩ := HM.out
                have d2 := K1.cell 2; have e2 := K1.frozen 2
                simp only [List.getElem?_cons_zero, List.getElem?_cons_succ] at d2
                clear K1
                refine wp_region_any (by kernel_rfl) ?_
                (try (change wpAny _ _ _ _ _ _ _ (World.drew _)))
                refine wpAny_take (i := 0) (oi := { dst := some 90, op := _, type := _, pos := _, after := _, guard := _ }) (v := ?_) rfl (by kernel_rfl) (by kernel_rfl) (by kernel_rfl) (fun _ _ _ h => h) (Or.inl ⟨by rfl, ?_⟩) ?_
                rotate_left
                · (intro w; go_simp) <;> with_reducible rfl
                (try simp only [Act.put, List.setIfInBounds_toArray, List.set_cons_zero, List.set_cons_succ])
                refine wpAny_take (i := 2) (oi := { dst := some 92, op := _, type := _, pos := _, after := _, guard := _ }) (v := ?_) rfl (by kernel_rfl) (by kernel_rfl) (by kernel_rfl) (fun _ _ _ h => h) (Or.inl ⟨by rfl, ?_⟩) ?_
                rotate_left
                · (intro w; go_simp) <;> with_reducible rfl
                (try simp only [Act.put, List.setIfInBounds_toArray, List.set_cons_zero, List.set_cons_succ])
                refine wpAny_take (i := 3) (oi := { dst := some 93, op := _, type := _, pos := _, after := _, guard := _ }) (v := ?_) rfl (by kernel_rfl) (by kernel_rfl) (by kernel_rfl) (fun _ _ _ h => h) (Or.inl ⟨by rfl, ?_⟩) ?_
                rotate_left
                · (intro w; go_simp) <;> with_reducible rfl
                (try simp only [Act.put, List.setIfInBounds_toArray, List.set_cons_zero, List.set_cons_succ])
                refine wpAny_ready (rs := [1, 4]) (by kernel_rfl) (by simp) ?_
                refine AllReady.cons (o := _) rfl (fun K hK => ?_) (AllReady.cons (o := _) rfl (fun K hK => ?_) (AllReady.nil))
                · go_simp
                  (try (refine hK _ _ ?_; clear hK K))
                  (try simp only [Act.put, List.setIfInBounds_toArray, List.set_cons_zero, List.set_cons_succ])
                  refine wpAny_ready (rs := [4]) (by kernel_rfl) (by simp) ?_
                  refine AllReady.cons (o := _) rfl (fun K hK => ?_) (AllReady.nil)
                  go_simp
                  refine (cur_change HS.out (G.out _ HM.out.drew.2.2.2.1) hp HM.out.drew.2.1 (by omega) (by omega) (by omega)).mono ?_; rintro e w8 ⟨x8, rfl, gx8, zx8, hc8, hg8⟩
                  have HM8 := Lib.hid (HM.out.drew.draw hg8 hc8)
                  have HO8 := Lib.hid ((HO.out.up (below_drewN (Below.refl _ _) 1)).past hg8 (by omega))
                  have d3 := HM8.out.1.cell 2
                  simp only [List.getElem?_cons_zero, List.getElem?_cons_succ] at d3
                  have d4 := (HM8.out.alloc (.cells #[.string x8] 9)).1.cell 2
                  simp only [List.getElem?_cons_zero, List.getElem?_cons_succ] at d4
                  try go_wp2_with fail
                  (try (refine hK _ _ ?_; clear hK K))
                  (try simp only [Act.put, List.setIfInBounds_toArray, List.set_cons_zero, List.set_cons_succ])
                  refine wpAny_ready (rs := [5]) (by kernel_rfl) (by simp) ?_
                  refine AllReady.cons (o := _) rfl (fun K hK => ?_) (AllReady.nil)
                  go_simp
                  (try (refine hK _ _ ?_; clear hK K))
                  (try simp only [Act.put, List.setIfInBounds_toArray, List.set_cons_zero, List.set_cons_succ])
                  refine wpAny_ready (rs := [6]) (by kernel_rfl) (by simp) ?_
                  refine AllReady.cons (o := _) rfl (fun K hK => ?_) (AllReady.nil)
                  refine step_append_rec Tryz.elStr (by rfl) _ _ (by rfl) (by rfl) (HO8.out.alloc _) x8 (by rfl) (Box.at_ _ [.string x8] _ (by rfl)) (strE_one _) (by omega) (by decide) (by have h1 := HM8.out.1.lt; have h2 := hg8.size; simp at h2 ⊢; omega) ?_
                  intro A3 c3 w9 ho9 hg9 hb9
                  have HM9 := Lib.hid ((HM8.out.alloc (.cells #[.string x8] 9)).grown hg9 (fun k hk => by have := (HO8.out.blk hk).1; omega))
                  have d5 := HM9.out.1.cell 2; have e5 := HM9.out.1.frozen 2
                  simp only [List.getElem?_cons_zero, List.getElem?_cons_succ] at d5
                  (try (refine hK _ _ ?_; clear hK K))
                  (try simp only [Act.put, List.setIfInBounds_toArray, List.set_cons_zero, List.set_cons_succ])
                  refine wpAny_ready (rs := [7]) (by kernel_rfl) (by simp) ?_
                  refine AllReady.cons (o := _) rfl (fun K hK => ?_) (AllReady.nil)
                  go_simp
                  (try (refine hK _ _ ?_; clear hK K))
                  (try simp only [Act.put, List.setIfInBounds_toArray, List.set_cons_zero, List.set_cons_succ])
                  refine wpAny_ready (rs := [8]) (by kernel_rfl) (by simp) ?_
                  refine AllReady.cons (o := _) rfl (fun K hK => ?_) (AllReady.nil)
                  go_simp
                  (try (refine hK _ _ ?_; clear hK K))
                  (try simp only [Act.put, List.setIfInBounds_toArray, List.set_cons_zero, List.set_cons_succ])
                  refine wpAny_done (by kernel_rfl) ?_ _
                  (try simp only [Act.put, List.setIfInBounds_toArray, List.set_cons_zero, List.set_cons_succ])
                  have HZ := Lib.hid (good_snoc HZ.out gx8)
                  have HM := Lib.hid (HM9.out.put (v' := .slice A3 (q + 1 + q + 1) c3))
                  have HO := Lib.hid ((own_put (b := w3.heap.size) (v' := .slice A3 (q + 1 + q + 1) c3) ho9 (by omega)).base_le (show w3.heap.size + 1 ≤ wb by omega))
                  clear d2 d3 d4 d5 e2 e5 HM8 HO8 HM9 ho9 hg9 hb9 hc8 hg8 K5 K6
                  obtain ⟨K1, K2, ⟨rx, ry, rz, K3⟩, K4, K5, K6⟩ := HM.out
                  have kc0 := K1.cell 0; have kc1 := K1.cell 1; have kc2 := K1.cell 2
                  have kd0 := K3.cell 0; have kd1 := K3.cell 1; have kd2 := K3.cell 2
                  have kf0 := K3.frozen 0; have kf1 := K3.frozen 1; have kf2 := K3.frozen 2
                  simp only [List.getElem?_cons_zero, List.getElem?_cons_succ] at kc0 kc1 kc2 kd0 kd1 kd2
                  have Z := ((K3.set_ 0 (.string nm)).set_ 1 (.int .i64 (st : Int))).set_ 2 (.slice A3 (q + 1 + q + 1) c3)
                  have y0 := Z.cell 0; have y1 := Z.cell 1; have y2 := Z.cell 2
                  simp only [List.set_cons_zero, List.set_cons_succ, List.getElem?_cons_zero, List.getElem?_cons_succ] at y0 y1 y2
                  have HK := Lib.hid K2; have HGR := Lib.hid K4
                  clear K1 K2 K3 K4 Z
                  go_wp2_with fail
                  refine bodyPost_ret (v := .agg #[.string nm, .int .i64 (st : Int), .slice A3 (q + 1 + q + 1) c3]) (by simp [results, Tryz.results72, go_sem, y0, y1, y2]) rfl ?_
                  exact fin.out _ _ _ _ _ _ HGR.out (HK.out.mono (by omega)) HO.out (by omega) (by omega) HZ.out (grownBy_trans (grownBy_trans (only_set _ (p := ⟨w.heap.size, 0, none⟩) _) (only_set _ (p := ⟨w.heap.size, 1, none⟩) _)) (only_set _ (p := ⟨w.heap.size, 2, none⟩) _))
                · go_simp
                  refine (cur_change HS.out (G.out _ HM.out.drew.2.2.2.1) hp HM.out.drew.2.1 (by omega) (by omega) (by omega)).mono ?_; rintro e w8 ⟨x8, rfl, gx8, zx8, hc8, hg8⟩
                  have HM8 := Lib.hid (HM.out.drew.draw hg8 hc8)
                  have HO8 := Lib.hid ((HO.out.up (below_drewN (Below.refl _ _) 1)).past hg8 (by omega))
                  have d3 := HM8.out.1.cell 2
                  simp only [List.getElem?_cons_zero, List.getElem?_cons_succ] at d3
                  have d4 := (HM8.out.alloc (.cells #[.string x8] 9)).1.cell 2
                  simp only [List.getElem?_cons_zero, List.getElem?_cons_succ] at d4
                  try go_wp2_with fail
                  (try (refine hK _ _ ?_; clear hK K))
                  (try simp only [Act.put, List.setIfInBounds_toArray, List.set_cons_zero, List.set_cons_succ])
                  refine wpAny_ready (rs := [1, 5]) (by kernel_rfl) (by simp) ?_
                  refine AllReady.cons (o := _) rfl (fun K hK => ?_) (AllReady.cons (o := _) rfl (fun K hK => ?_) (AllReady.nil))
                  · go_simp
                    (try (refine hK _ _ ?_; clear hK K))
                    (try simp only [Act.put, List.setIfInBounds_toArray, List.set_cons_zero, List.set_cons_succ])
                    refine wpAny_ready (rs := [5]) (by kernel_rfl) (by simp) ?_
                    refine AllReady.cons (o := _) rfl (fun K hK => ?_) (AllReady.nil)
                    go_simp
                    (try (refine hK _ _ ?_; clear hK K))
                    (try simp only [Act.put, List.setIfInBounds_toArray, List.set_cons_zero, List.set_cons_succ])
                    refine wpAny_ready (rs := [6]) (by kernel_rfl) (by simp) ?_
                    refine AllReady.cons (o := _) rfl (fun K hK => ?_) (AllReady.nil)
                    refine step_append_rec Tryz.elStr (by rfl) _ _ (by rfl) (by rfl) (HO8.out.alloc _) x8 (by rfl) (Box.at_ _ [.string x8] _ (by rfl)) (strE_one _) (by omega) (by decide) (by have h1 := HM8.out.1.lt; have h2 := hg8.size; simp at h2 ⊢; omega) ?_
                    intro A3 c3 w9 ho9 hg9 hb9
                    have HM9 := Lib.hid ((HM8.out.alloc (.cells #[.string x8] 9)).grown hg9 (fun k hk => by have := (HO8.out.blk hk).1; omega))
                    have d5 := HM9.out.1.cell 2; have e5 := HM9.out.1.frozen 2
                    simp only [List.getElem?_cons_zero, List.getElem?_cons_succ] at d5
                    (try (refine hK _ _ ?_; clear hK K))
                    (try simp only [Act.put, List.setIfInBounds_toArray, List.set_cons_zero, List.set_cons_succ])
                    refine wpAny_ready (rs := [7]) (by kernel_rfl) (by simp) ?_
                    refine AllReady.cons (o := _) rfl (fun K hK => ?_) (AllReady.nil)
                    go_simp
                    (try (refine hK _ _ ?_; clear hK K))
                    (try simp only [Act.put, List.setIfInBounds_toArray, List.set_cons_zero, List.set_cons_succ])
                    refine wpAny_ready (rs := [8]) (by kernel_rfl) (by simp) ?_
                    refine AllReady.cons (o := _) rfl (fun K hK => ?_) (AllReady.nil)
                    go_simp
                    (try (refine hK _ _ ?_; clear hK K))
                    (try simp only [Act.put, List.setIfInBounds_toArray, List.set_cons_zero, List.set_cons_succ])
                    refine wpAny_done (by kernel_rfl) ?_ _
                    (try simp only [Act.put, List.setIfInBounds_toArray, List.set_cons_zero, List.set_cons_succ])
                    have HZ := Lib.hid (good_snoc HZ.out gx8)
                    have HM := Lib.hid (HM9.out.put (v' := .slice A3 (q + 1 + q + 1) c3))
                    have HO := Lib.hid ((own_put (b := w3.heap.size) (v' := .slice A3 (q + 1 + q + 1) c3) ho9 (by omega)).base_le (show w3.heap.size + 1 ≤ wb by omega))
                    clear d2 d3 d4 d5 e2 e5 HM8 HO8 HM9 ho9 hg9 hb9 hc8 hg8 K5 K6
                    obtain ⟨K1, K2, ⟨rx, ry, rz, K3⟩, K4, K5, K6⟩ := HM.out
                    have kc0 := K1.cell 0; have kc1 := K1.cell 1; have kc2 := K1.cell 2
                    have kd0 := K3.cell 0; have kd1 := K3.cell 1; have kd2 := K3.cell 2
                    have kf0 := K3.frozen 0; have kf1 := K3.frozen 1; have kf2 := K3.frozen 2
                    simp only [List.getElem?_cons_zero, List.getElem?_cons_succ] at kc0 kc1 kc2 kd0 kd1 kd2
                    have Z := ((K3.set_ 0 (.string nm)).set_ 1 (.int .i64 (st : Int))).set_ 2 (.slice A3 (q + 1 + q + 1) c3)
                    have y0 := Z.cell 0; have y1 := Z.cell 1; have y2 := Z.cell 2
                    simp only [List.set_cons_zero, List.set_cons_succ, List.getElem?_cons_zero, List.getElem?_cons_succ] at y0 y1 y2
                    have HK := Lib.hid K2; have HGR := Lib.hid K4
                    clear K1 K2 K3 K4 Z
                    go_wp2_with fail
                    refine bodyPost_ret (v := .agg #[.string nm, .int .i64 (st : Int), .slice A3 (q + 1 + q + 1) c3]) (by simp [results, Tryz.results72, go_sem, y0, y1, y2]) rfl ?_
                    exact fin.out _ _ _ _ _ _ HGR.out (HK.out.mono (by omega)) HO.out (by omega) (by omega) HZ.out (grownBy_trans (grownBy_trans (only_set _ (p := ⟨w.heap.size, 0, none⟩) _) (only_set _ (p := ⟨w.heap.size, 1, none⟩) _)) (only_set _ (p := ⟨w.heap.size, 2, none⟩) _))
                  · go_simp
                    (try (refine hK _ _ ?_; clear hK K))
                    (try simp only [Act.put, List.setIfInBounds_toArray, List.set_cons_zero, List.set_cons_succ])
                    refine wpAny_ready (rs := [1]) (by kernel_rfl) (by simp) ?_
                    refine AllReady.cons (o := _) rfl (fun K hK => ?_) (AllReady.nil)
                    go_simp
                    (try (refine hK _ _ ?_; clear hK K))
                    (try simp only [Act.put, List.setIfInBounds_toArray, List.set_cons_zero, List.set_cons_succ])
                    refine wpAny_ready (rs := [6]) (by kernel_rfl) (by simp) ?_
                    refine AllReady.cons (o := _) rfl (fun K hK => ?_) (AllReady.nil)
                    refine step_append_rec Tryz.elStr (by rfl) _ _ (by rfl) (by rfl) (HO8.out.alloc _) x8 (by rfl) (Box.at_ _ [.string x8] _ (by rfl)) (strE_one _) (by omega) (by decide) (by have h1 := HM8.out.1.lt; have h2 := hg8.size; simp at h2 ⊢; omega) ?_
                    intro A3 c3 w9 ho9 hg9 hb9
                    have HM9 := Lib.hid ((HM8.out.alloc (.cells #[.string x8] 9)).grown hg9 (fun k hk => by have := (HO8.out.blk hk).1; omega))
                    have d5 := HM9.out.1.cell 2; have e5 := HM9.out.1.frozen 2
                    simp only [List.getElem?_cons_zero, List.getElem?_cons_succ] at d5
                    (try (refine hK _ _ ?_; clear hK K))
                    (try simp only [Act.put, List.setIfInBounds_toArray, List.set_cons_zero, List.set_cons_succ])
                    refine wpAny_ready (rs := [7]) (by kernel_rfl) (by simp) ?_
                    refine AllReady.cons (o := _) rfl (fun K hK => ?_) (AllReady.nil)
                    go_simp
                    (try (refine hK _ _ ?_; clear hK K))
                    (try simp only [Act.put, List.setIfInBounds_toArray, List.set_cons_zero, List.set_cons_succ])
                    refine wpAny_ready (rs := [8]) (by kernel_rfl) (by simp) ?_
                    refine AllReady.cons (o := _) rfl (fun K hK => ?_) (AllReady.nil)
                    go_simp
                    (try (refine hK _ _ ?_; clear hK K))
                    (try simp only [Act.put, List.setIfInBounds_toArray, List.set_cons_zero, List.set_cons_succ])
                    refine wpAny_done (by kernel_rfl) ?_ _
                    (try simp only [Act.put, List.setIfInBounds_toArray, List.set_cons_zero, List.set_cons_succ])
                    have HZ := Lib.hid (good_snoc HZ.out gx8)
                    have HM := Lib.hid (HM9.out.put (v' := .slice A3 (q + 1 + q + 1) c3))
                    have HO := Lib.hid ((own_put (b := w3.heap.size) (v' := .slice A3 (q + 1 + q + 1) c3) ho9 (by omega)).base_le (show w3.heap.size + 1 ≤ wb by omega))
                    clear d2 d3 d4 d5 e2 e5 HM8 HO8 HM9 ho9 hg9 hb9 hc8 hg8 K5 K6
                    obtain ⟨K1, K2, ⟨rx, ry, rz, K3⟩, K4, K5, K6⟩ := HM.out
                    have kc0 := K1.cell 0; have kc1 := K1.cell 1; have kc2 := K1.cell 2
                    have kd0 := K3.cell 0; have kd1 := K3.cell 1; have kd2 := K3.cell 2
                    have kf0 := K3.frozen 0; have kf1 := K3.frozen 1; have kf2 := K3.frozen 2
                    simp only [List.getElem?_cons_zero, List.getElem?_cons_succ] at kc0 kc1 kc2 kd0 kd1 kd2
                    have Z := ((K3.set_ 0 (.string nm)).set_ 1 (.int .i64 (st : Int))).set_ 2 (.slice A3 (q + 1 + q + 1) c3)
                    have y0 := Z.cell 0; have y1 := Z.cell 1; have y2 := Z.cell 2
                    simp only [List.set_cons_zero, List.set_cons_succ, List.getElem?_cons_zero, List.getElem?_cons_succ] at y0 y1 y2
                    have HK := Lib.hid K2; have HGR := Lib.hid K4
                    clear K1 K2 K3 K4 Z
                    go_wp2_with fail
                    refine bodyPost_ret (v := .agg #[.string nm, .int .i64 (st : Int), .slice A3 (q + 1 + q + 1) c3]) (by simp [results, Tryz.results72, go_sem, y0, y1, y2]) rfl ?_
                    exact fin.out _ _ _ _ _ _ HGR.out (HK.out.mono (by omega)) HO.out (by omega) (by omega) HZ.out (grownBy_trans (grownBy_trans (only_set _ (p := ⟨w.heap.size, 0, none⟩) _) (only_set _ (p := ⟨w.heap.size, 1, none⟩) _)) (only_set _ (p := ⟨w.heap.size, 2, none⟩) _))
              · rw [show (((k + 1 : Nat) : Int) - 1) = (k : Int) by omega]
                have hI : (0 : Int) ≤ (k : Int) := by omega
                obtain ⟨b3, o3, y, hA, hbb, hy, hcy⟩ := HR.out.at_str (k := k) (by omega)
                injection hA with hA
                injection hA with e1 e2 _
                subst e1 e2
                have gy := HG.out y (List.mem_of_getElem? hy)
                obtain ⟨K1, _, _, _, K5, K6⟩ := HM.out
                have d2 := K1.cell 2; have e2 := K1.frozen 2
                have d4 := (HM.out.alloc (.cells #[.string y] 9)).1.cell 2
                have hJ : (k : Int) < (m : Int) := by omega
                simp only [List.getElem?_cons_zero, List.getElem?_cons_succ, Nat.zero_add] at d2 d4 hcy
                have HO8 := Lib.hid (HO.out.up (below_drewN (Below.refl _ _) 1))
                clear K1 hy
                go_upto_region 22 with fail
                refine wp_region_any (by kernel_rfl) ?_
                (try (change wpAny _ _ _ _ _ _ _ (World.drew _)))
                refine wpAny_take (i := 0) (oi := { dst := some 81, op := _, type := _, pos := _, after := _, guard := _ }) (v := ?_) rfl (by kernel_rfl) (by kernel_rfl) (by kernel_rfl) (fun _ _ _ h => h) (Or.inl ⟨by rfl, ?_⟩) ?_
                rotate_left
                · (intro w; go_simp) <;> with_reducible rfl
                (try simp only [Act.put, List.setIfInBounds_toArray, List.set_cons_zero, List.set_cons_succ])
                refine wpAny_take (i := 2) (oi := { dst := some 83, op := _, type := _, pos := _, after := _, guard := _ }) (v := ?_) rfl (by kernel_rfl) (by kernel_rfl) (by kernel_rfl) (fun _ _ _ h => h) (Or.inl ⟨by rfl, ?_⟩) ?_
                rotate_left
                · (intro w; go_simp) <;> with_reducible rfl
                (try simp only [Act.put, List.setIfInBounds_toArray, List.set_cons_zero, List.set_cons_succ])
                refine wpAny_take (i := 3) (oi := { dst := some 84, op := _, type := _, pos := _, after := _, guard := _ }) (v := ?_) rfl (by kernel_rfl) (by kernel_rfl) (by kernel_rfl) (fun _ _ _ h => h) (Or.inl ⟨by rfl, ?_⟩) ?_
                rotate_left
                · (intro w; go_simp) <;> with_reducible rfl
                (try simp only [Act.put, List.setIfInBounds_toArray, List.set_cons_zero, List.set_cons_succ])
                refine wpAny_take (i := 4) (oi := { dst := some 85, op := _, type := _, pos := _, after := _, guard := _ }) (v := ?_) rfl (by kernel_rfl) (by kernel_rfl) (by kernel_rfl) (fun _ _ _ h => h) (Or.inl ⟨by rfl, ?_⟩) ?_
                rotate_left
                · (intro w; go_simp) <;> with_reducible rfl
                (try simp only [Act.put, List.setIfInBounds_toArray, List.set_cons_zero, List.set_cons_succ])
                refine wpAny_ready (rs := [1, 5]) (by kernel_rfl) (by simp) ?_
                refine AllReady.cons (o := _) rfl (fun K hK => ?_) (AllReady.cons (o := _) rfl (fun K hK => ?_) (AllReady.nil))
                · go_simp
                  (try (refine hK _ _ ?_; clear hK K))
                  (try simp only [Act.put, List.setIfInBounds_toArray, List.set_cons_zero, List.set_cons_succ])
                  refine wpAny_ready (rs := [5]) (by kernel_rfl) (by simp) ?_
                  refine AllReady.cons (o := _) rfl (fun K hK => ?_) (AllReady.nil)
                  go_simp
                  (try (refine hK _ _ ?_; clear hK K))
                  (try simp only [Act.put, List.setIfInBounds_toArray, List.set_cons_zero, List.set_cons_succ])
                  refine wpAny_ready (rs := [6]) (by kernel_rfl) (by simp) ?_
                  refine AllReady.cons (o := _) rfl (fun K hK => ?_) (AllReady.nil)
                  go_simp
                  (try (refine hK _ _ ?_; clear hK K))
                  (try simp only [Act.put, List.setIfInBounds_toArray, List.set_cons_zero, List.set_cons_succ])
                  refine wpAny_ready (rs := [7]) (by kernel_rfl) (by simp) ?_
                  refine AllReady.cons (o := _) rfl (fun K hK => ?_) (AllReady.nil)
                  refine step_append_rec Tryz.elStr (by rfl) _ _ (by rfl) (by rfl) (HO8.out.alloc _) y (by rfl) (Box.at_ _ [.string y] _ (by rfl)) (strE_one _) (by omega) (by decide) (by simp; omega) ?_
                  intro A3 c3 w9 ho9 hg9 hb9
                  have HM9 := Lib.hid ((HM.out.drew.alloc (.cells #[.string y] 9)).grown hg9 (fun k hk => by have := (HO8.out.blk hk).1; omega))
                  have HR9 := Lib.hid (strs_grown ((HR.out.up (below_drewN (Below.refl _ _) 1)).alloc (.cells #[.string y] 9)) hg9 (fun e => by have := (HO8.out.blk e.symm).1; omega))
                  have d5 := HM9.out.1.cell 2; have e5 := HM9.out.1.frozen 2
                  simp only [List.getElem?_cons_zero, List.getElem?_cons_succ] at d5
                  (try (refine hK _ _ ?_; clear hK K))
                  (try simp only [Act.put, List.setIfInBounds_toArray, List.set_cons_zero, List.set_cons_succ])
                  refine wpAny_ready (rs := [8]) (by kernel_rfl) (by simp) ?_
                  refine AllReady.cons (o := _) rfl (fun K hK => ?_) (AllReady.nil)
                  go_simp
                  (try (refine hK _ _ ?_; clear hK K))
                  (try simp only [Act.put, List.setIfInBounds_toArray, List.set_cons_zero, List.set_cons_succ])
                  refine wpAny_ready (rs := [9]) (by kernel_rfl) (by simp) ?_
                  refine AllReady.cons (o := _) rfl (fun K hK => ?_) (AllReady.nil)
                  go_simp
                  (try (refine hK _ _ ?_; clear hK K))
                  (try simp only [Act.put, List.setIfInBounds_toArray, List.set_cons_zero, List.set_cons_succ])
                  refine wpAny_done (by kernel_rfl) ?_ _
                  (try simp only [Act.put, List.setIfInBounds_toArray, List.set_cons_zero, List.set_cons_succ])
                  have HZ9 := Lib.hid (good_snoc HZ.out gy)
                  have HMF := Lib.hid (HM9.out.put (v' := .slice A3 (m + 1 + q + 1) c3))
                  have HOF := Lib.hid (own_put (b := w3.heap.size) (v' := .slice A3 (m + 1 + q + 1) c3) ho9 (by omega))
                  have HRF := Lib.hid (strs_grown HR9.out (only_set w9 (p := ⟨w3.heap.size, 2, none⟩) (.slice A3 (m + 1 + q + 1) c3)) (fun e => by injection e with e; dsimp only at e; omega))
                  have hs12 : wb ≤ (w9.setCell ⟨w3.heap.size, 2, none⟩ (.slice A3 (m + 1 + q + 1) c3)).heap.size := by have := hg9.size; simp at this ⊢; omega
                  clear d2 d4 d5 e2 e5
                  go_wp2
                  go_roundw
                  case rel => exact ⟨k, q + 1, A3, c3, L ++ [y], by omega, by go_num, HMF, HOF, HZ9, HRF, hs12⟩
                  case measure => simp [intOf] <;> omega
                · go_simp
                  (try (refine hK _ _ ?_; clear hK K))
                  (try simp only [Act.put, List.setIfInBounds_toArray, List.set_cons_zero, List.set_cons_succ])
                  refine wpAny_ready (rs := [1, 6]) (by kernel_rfl) (by simp) ?_
                  refine AllReady.cons (o := _) rfl (fun K hK => ?_) (AllReady.cons (o := _) rfl (fun K hK => ?_) (AllReady.nil))
                  · go_simp
                    (try (refine hK _ _ ?_; clear hK K))
                    (try simp only [Act.put, List.setIfInBounds_toArray, List.set_cons_zero, List.set_cons_succ])
                    refine wpAny_ready (rs := [6]) (by kernel_rfl) (by simp) ?_
                    refine AllReady.cons (o := _) rfl (fun K hK => ?_) (AllReady.nil)
                    go_simp
                    (try (refine hK _ _ ?_; clear hK K))
                    (try simp only [Act.put, List.setIfInBounds_toArray, List.set_cons_zero, List.set_cons_succ])
                    refine wpAny_ready (rs := [7]) (by kernel_rfl) (by simp) ?_
                    refine AllReady.cons (o := _) rfl (fun K hK => ?_) (AllReady.nil)
                    refine step_append_rec Tryz.elStr (by rfl) _ _ (by rfl) (by rfl) (HO8.out.alloc _) y (by rfl) (Box.at_ _ [.string y] _ (by rfl)) (strE_one _) (by omega) (by decide) (by simp; omega) ?_
                    intro A3 c3 w9 ho9 hg9 hb9
                    have HM9 := Lib.hid ((HM.out.drew.alloc (.cells #[.string y] 9)).grown hg9 (fun k hk => by have := (HO8.out.blk hk).1; omega))
                    have HR9 := Lib.hid (strs_grown ((HR.out.up (below_drewN (Below.refl _ _) 1)).alloc (.cells #[.string y] 9)) hg9 (fun e => by have := (HO8.out.blk e.symm).1; omega))
                    have d5 := HM9.out.1.cell 2; have e5 := HM9.out.1.frozen 2
                    simp only [List.getElem?_cons_zero, List.getElem?_cons_succ] at d5
                    (try (refine hK _ _ ?_; clear hK K))
                    (try simp only [Act.put, List.setIfInBounds_toArray, List.set_cons_zero, List.set_cons_succ])
                    refine wpAny_ready (rs := [8]) (by kernel_rfl) (by simp) ?_
                    refine AllReady.cons (o := _) rfl (fun K hK => ?_) (AllReady.nil)
                    go_simp
                    (try (refine hK _ _ ?_; clear hK K))
                    (try simp only [Act.put, List.setIfInBounds_toArray, List.set_cons_zero, List.set_cons_succ])
                    refine wpAny_ready (rs := [9]) (by kernel_rfl) (by simp) ?_
                    refine AllReady.cons (o := _) rfl (fun K hK => ?_) (AllReady.nil)
                    go_simp
                    (try (refine hK _ _ ?_; clear hK K))
                    (try simp only [Act.put, List.setIfInBounds_toArray, List.set_cons_zero, List.set_cons_succ])
                    refine wpAny_done (by kernel_rfl) ?_ _
                    (try simp only [Act.put, List.setIfInBounds_toArray, List.set_cons_zero, List.set_cons_succ])
                    have HZ9 := Lib.hid (good_snoc HZ.out gy)
                    have HMF := Lib.hid (HM9.out.put (v' := .slice A3 (m + 1 + q + 1) c3))
                    have HOF := Lib.hid (own_put (b := w3.heap.size) (v' := .slice A3 (m + 1 + q + 1) c3) ho9 (by omega))
                    have HRF := Lib.hid (strs_grown HR9.out (only_set w9 (p := ⟨w3.heap.size, 2, none⟩) (.slice A3 (m + 1 + q + 1) c3)) (fun e => by injection e with e; dsimp only at e; omega))
                    have hs12 : wb ≤ (w9.setCell ⟨w3.heap.size, 2, none⟩ (.slice A3 (m + 1 + q + 1) c3)).heap.size := by have := hg9.size; simp at this ⊢; omega
                    clear d2 d4 d5 e2 e5
                    go_wp2
                    go_roundw
                    case rel => exact ⟨k, q + 1, A3, c3, L ++ [y], by omega, by go_num, HMF, HOF, HZ9, HRF, hs12⟩
                    case measure => simp [intOf] <;> omega
                  · go_simp
                    (try (refine hK _ _ ?_; clear hK K))
                    (try simp only [Act.put, List.setIfInBounds_toArray, List.set_cons_zero, List.set_cons_succ])
                    refine wpAny_ready (rs := [1]) (by kernel_rfl) (by simp) ?_
                    refine AllReady.cons (o := _) rfl (fun K hK => ?_) (AllReady.nil)
                    go_simp
                    (try (refine hK _ _ ?_; clear hK K))
                    (try simp only [Act.put, List.setIfInBounds_toArray, List.set_cons_zero, List.set_cons_succ])
                    refine wpAny_ready (rs := [7]) (by kernel_rfl) (by simp) ?_
                    refine AllReady.cons (o := _) rfl (fun K hK => ?_) (AllReady.nil)
                    refine step_append_rec Tryz.elStr (by rfl) _ _ (by rfl) (by rfl) (HO8.out.alloc _) y (by rfl) (Box.at_ _ [.string y] _ (by rfl)) (strE_one _) (by omega) (by decide) (by simp; omega) ?_
                    intro A3 c3 w9 ho9 hg9 hb9
                    have HM9 := Lib.hid ((HM.out.drew.alloc (.cells #[.string y] 9)).grown hg9 (fun k hk => by have := (HO8.out.blk hk).1; omega))
                    have HR9 := Lib.hid (strs_grown ((HR.out.up (below_drewN (Below.refl _ _) 1)).alloc (.cells #[.string y] 9)) hg9 (fun e => by have := (HO8.out.blk e.symm).1; omega))
                    have d5 := HM9.out.1.cell 2; have e5 := HM9.out.1.frozen 2
                    simp only [List.getElem?_cons_zero, List.getElem?_cons_succ] at d5
                    (try (refine hK _ _ ?_; clear hK K))
                    (try simp only [Act.put, List.setIfInBounds_toArray, List.set_cons_zero, List.set_cons_succ])
                    refine wpAny_ready (rs := [8]) (by kernel_rfl) (by simp) ?_
                    refine AllReady.cons (o := _) rfl (fun K hK => ?_) (AllReady.nil)
                    go_simp
                    (try (refine hK _ _ ?_; clear hK K))
                    (try simp only [Act.put, List.setIfInBounds_toArray, List.set_cons_zero, List.set_cons_succ])
                    refine wpAny_ready (rs := [9]) (by kernel_rfl) (by simp) ?_
                    refine AllReady.cons (o := _) rfl (fun K hK => ?_) (AllReady.nil)
                    go_simp
                    (try (refine hK _ _ ?_; clear hK K))
                    (try simp only [Act.put, List.setIfInBounds_toArray, List.set_cons_zero, List.set_cons_succ])
                    refine wpAny_done (by kernel_rfl) ?_ _
                    (try simp only [Act.put, List.setIfInBounds_toArray, List.set_cons_zero, List.set_cons_succ])
                    have HZ9 := Lib.hid (good_snoc HZ.out gy)
                    have HMF := Lib.hid (HM9.out.put (v' := .slice A3 (m + 1 + q + 1) c3))
                    have HOF := Lib.hid (own_put (b := w3.heap.size) (v' := .slice A3 (m + 1 + q + 1) c3) ho9 (by omega))
                    have HRF := Lib.hid (strs_grown HR9.out (only_set w9 (p := ⟨w3.heap.size, 2, none⟩) (.slice A3 (m + 1 + q + 1) c3)) (fun e => by injection e with e; dsimp only at e; omega))
                    have hs12 : wb ≤ (w9.setCell ⟨w3.heap.size, 2, none⟩ (.slice A3 (m + 1 + q + 1) c3)).heap.size := by have := hg9.size; simp at this ⊢; omega
                    clear d2 d4 d5 e2 e5
                    go_wp2
                    go_roundw
                    case rel => exact ⟨k, q + 1, A3, c3, L ++ [y], by omega, by go_num, HMF, HOF, HZ9, HRF, hs12⟩
                    case measure => simp [intOf] <;> omega
    · have hM5 := HM5.out
      rcases Nat.mod_two_eq_zero_or_one st with hpar | hpar
      · have hI : ¬ ((st : Int) % 2 = 1) := by omega
        have hpe : ((st : Int) % 2 == 1) = false := by simpa using hI
        go_wp2_with fail
        refine (spec_l4Hunting (N := st) (by omega) (by omega) (hunt_one st (by omega) (by omega) hpar).2.2).mono ?_; rintro e w6 ⟨A6, c6, L6, rfl, HO6, HZ6, hb6⟩
        have HM6 := hM5.up hb6
        have g2 := HM6.1.cell 2; have e2 := HM6.1.frozen 2
        have hsw : w3.heap.size < w5.heap.size := hM5.1.lt
        simp only [List.getElem?_cons_zero, List.getElem?_cons_succ] at g2
        have HM := Lib.hid (HM6.put (v' := .slice A6 (2 * st) c6))
        have HO := Lib.hid ((own_put (b := w3.heap.size) (v' := .slice A6 (2 * st) c6) HO6 (by omega)).base_le (show w3.heap.size + 1 ≤ w5.heap.size by omega))
        have HZ := Lib.hid HZ6
        obtain ⟨K1, K2, ⟨rx, ry, rz, K3⟩, K4, K5, K6⟩ := HM.out
        have kc0 := K1.cell 0; have kc1 := K1.cell 1; have kc2 := K1.cell 2
        have kd0 := K3.cell 0; have kd1 := K3.cell 1; have kd2 := K3.cell 2
        have kf0 := K3.frozen 0; have kf1 := K3.frozen 1; have kf2 := K3.frozen 2
        simp only [List.getElem?_cons_zero, List.getElem?_cons_succ] at kc0 kc1 kc2 kd0 kd1 kd2
        have Z := ((K3.set_ 0 (.string nm)).set_ 1 (.int .i64 (st : Int))).set_ 2 (.slice A6 (2 * st) c6)
        have y0 := Z.cell 0; have y1 := Z.cell 1; have y2 := Z.cell 2
        simp only [List.set_cons_zero, List.set_cons_succ, List.getElem?_cons_zero, List.getElem?_cons_succ] at y0 y1 y2
        have HK := Lib.hid K2; have HGR := Lib.hid K4
        clear K1 K2 K3 K4 Z
        go_wp2_with fail
        refine bodyPost_ret (v := .agg #[.string nm, .int .i64 (st : Int), .slice A6 (2 * st) c6]) (by simp [results, Tryz.results72, go_sem, y0, y1, y2]) rfl ?_
        exact fin.out _ _ _ _ _ _ HGR.out (HK.out.mono (by omega)) HO.out (by omega) (by omega) HZ.out (grownBy_trans (grownBy_trans (only_set _ (p := ⟨w.heap.size, 0, none⟩) _) (only_set _ (p := ⟨w.heap.size, 1, none⟩) _)) (only_set _ (p := ⟨w.heap.size, 2, none⟩) _))
      · have hI : (st : Int) % 2 = 1 := by omega
        have hpe : ((st : Int) % 2 == 1) = true := by simpa using hI
        have hd1 : (dig1 (st : Int)).size = 1 := rfl
        go_wp2_with fail
        refine (spec_l1Num_1 (by omega) (by omega)).mono ?_; rintro e w7 ⟨rfl, hb7⟩
        have hM7 := hM5.up hb7
        go_wp2_with fail
        refine (spec_l4Hunting (N := st) (by omega) (by omega) (hunt_two st (by omega) (by omega) hpar).2.2).mono ?_; rintro e w6 ⟨A6, c6, L6, rfl, HO6, HZ6, hb6⟩
        have HM6 := hM7.up hb6
        have g2 := HM6.1.cell 2; have e2 := HM6.1.frozen 2
        have hsw : w3.heap.size < w7.heap.size := hM7.1.lt
        simp only [List.getElem?_cons_zero, List.getElem?_cons_succ] at g2
        have HM := Lib.hid (HM6.put (v' := .slice A6 (2 * st) c6))
        have HO := Lib.hid ((own_put (b := w3.heap.size) (v' := .slice A6 (2 * st) c6) HO6 (by omega)).base_le (show w3.heap.size + 1 ≤ w7.heap.size by omega))
        have HZ := Lib.hid HZ6
        obtain ⟨K1, K2, ⟨rx, ry, rz, K3⟩, K4, K5, K6⟩ := HM.out
        have kc0 := K1.cell 0; have kc1 := K1.cell 1; have kc2 := K1.cell 2
        have kd0 := K3.cell 0; have kd1 := K3.cell 1; have kd2 := K3.cell 2
        have kf0 := K3.frozen 0; have kf1 := K3.frozen 1; have kf2 := K3.frozen 2
        simp only [List.getElem?_cons_zero, List.getElem?_cons_succ] at kc0 kc1 kc2 kd0 kd1 kd2
        have Z := ((K3.set_ 0 (.string nm)).set_ 1 (.int .i64 (st : Int))).set_ 2 (.slice A6 (2 * st) c6)
        have y0 := Z.cell 0; have y1 := Z.cell 1; have y2 := Z.cell 2
        simp only [List.set_cons_zero, List.set_cons_succ, List.getElem?_cons_zero, List.getElem?_cons_succ] at y0 y1 y2
        have HK := Lib.hid K2; have HGR := Lib.hid K4
        clear K1 K2 K3 K4 Z
        go_wp2_with fail
        refine bodyPost_ret (v := .agg #[.string nm, .int .i64 (st : Int), .slice A6 (2 * st) c6]) (by simp [results, Tryz.results72, go_sem, y0, y1, y2]) rfl ?_
        exact fin.out _ _ _ _ _ _ HGR.out (HK.out.mono (by omega)) HO.out (by omega) (by omega) HZ.out (grownBy_trans (grownBy_trans (only_set _ (p := ⟨w.heap.size, 0, none⟩) _) (only_set _ (p := ⟨w.heap.size, 1, none⟩) _)) (only_set _ (p := ⟨w.heap.size, 2, none⟩) _))
  · have hI4 : ¬ (4 : Int) ≤ (st : Int) := by omega
    go_wp2_with fail
    obtain ⟨w4, hw4⟩ : ∃ u, u = w3.alloc (.cells #[.string nm, .int .i64 (st : Int), .slice none 0 0] 99) := ⟨_, rfl⟩
    rw [← hw4] at M3 ⊢
    clear hw4
    have HM5 := Lib.hid (M3.mono (show a + 1 + 1 ≤ a + 1 + 1 + 1 by omega))
    clear M3
    refine (cur_one HS.out (G.out _ HM5.out.2.2.2.1) hp HM5.out.2.1 (by omega) (by decide) (by decide)).mono ?_; rintro e w6 ⟨b2, rfl, hc6, hg6⟩
    have HM6 := Lib.hid (HM5.out.draw hg6 hc6)
    clear hc6 hg6
    rcases b2
    · go_wp2_with fail
      refine (cur_pick HS.out (G.out _ HM6.out.2.2.2.1) hp HM6.out.2.1 (by omega) (by decide) (by decide)).mono ?_; rintro e w7 ⟨x, rfl, ⟨x0, x1⟩, hc7, hg7⟩
      have HM7 := Lib.hid (HM6.out.draw hg7 hc7)
      obtain ⟨X, rfl⟩ := Int.eq_ofNat_of_zero_le x0
      have hX : X ≤ 7 := by omega
      clear hc7 hg7 x0 x1
      go_wp2
      go_loopw [9] (fun i wr => ∃ (k m : Nat) (A' : Option Addr) (c' : Nat) (L : List ByteArray), k + m = X + 1 ∧ i = .int .i64 k ∧ Hid (MSt w wr p A n c (a + 10 + m) w3.heap.size nm st (.slice A' m c')) ∧ Hid (Owned strE 1 9 wr (w3.heap.size + 1) A' m c' L) ∧ Hid (∀ x ∈ L, goodChange st x = true) ∧ w3.heap.size < wr.heap.size) (fun i _ => (intOf i).toNat)
      case atStart => exact ⟨X + 1, 0, none, 0, [], rfl, by go_num, Lib.hid (HM7.out.mono (by omega)), Lib.hid (Owned.nil strE_len _ _ _), Lib.hid (fun s hs => by cases hs), HM7.out.1.lt⟩
      case round =>
        obtain ⟨k, m, A2, c2, L, hkm, rfl, HM, HO, HZ, hbr⟩ := hrel
        rename World => wr
        by_cases h0 : 0 < k
        · have hI : (0 : Int) < (k : Int) := by omega
          have hOl := HO.out.len
          go_upto_region 6 with fail
          obtain ⟨K1, _, _, _, K5, K6⟩ := HM.out
          have d2 := K1.cell 2; have e2 := K1.frozen 2
          simp only [List.getElem?_cons_zero, List.getElem?_cons_succ] at d2
          clear K1
          refine wp_region_any (by kernel_rfl) ?_
          (try (change wpAny _ _ _ _ _ _ _ (World.drew _)))
          refine wpAny_take (i := 0) (oi := { dst := some 25, op := _, type := _, pos := _, after := _, guard := _ }) (v := ?_) rfl (by kernel_rfl) (by kernel_rfl) (by kernel_rfl) (fun _ _ _ h => h) (Or.inl ⟨by rfl, ?_⟩) ?_
          rotate_left
          · (intro w; go_simp) <;> with_reducible rfl
          (try simp only [Act.put, List.setIfInBounds_toArray, List.set_cons_zero, List.set_cons_succ])
          refine wpAny_take (i := 2) (oi := { dst := some 27, op := _, type := _, pos := _, after := _, guard := _ }) (v := ?_) rfl (by kernel_rfl) (by kernel_rfl) (by kernel_rfl) (fun _ _ _ h => h) (Or.inl ⟨by rfl, ?_⟩) ?_
          rotate_left
          · (intro w; go_simp) <;> with_reducible rfl
          (try simp only [Act.put, List.setIfInBounds_toArray, List.set_cons_zero, List.set_cons_succ])
          refine wpAny_take (i := 3) (oi := { dst := some 28, op := _, type := _, pos := _, after := _, guard := _ }) (v := ?_) rfl (by kernel_rfl) (by kernel_rfl) (by kernel_rfl) (fun _ _ _ h => h) (Or.inl ⟨by rfl, ?_⟩) ?_
          rotate_left
          · (intro w; go_simp) <;> with_reducible rfl
          (try simp only [Act.put, List.setIfInBounds_toArray, List.set_cons_zero, List.set_cons_succ])
          refine wpAny_ready (rs := [1, 4]) (by kernel_rfl) (by simp) ?_
          refine AllReady.cons (o := _) rfl (fun K hK => ?_) (AllReady.cons (o := _) rfl (fun K hK => ?_) (AllReady.nil))
          · go_simp
            (try (refine hK _ _ ?_; clear hK K))
            (try simp only [Act.put, List.setIfInBounds_toArray, List.set_cons_zero, List.set_cons_succ])
            refine wpAny_ready (rs := [4]) (by kernel_rfl) (by simp) ?_
            refine AllReady.cons (o := _) rfl (fun K hK => ?_) (AllReady.nil)
            go_simp
            refine (cur_change HS.out (G.out _ HM.out.drew.2.2.2.1) hp HM.out.drew.2.1 (by omega) (by omega) (by omega)).mono ?_; rintro e w8 ⟨x8, rfl, gx8, zx8, hc8, hg8⟩
            have HM8 := Lib.hid (HM.out.drew.draw hg8 hc8)
            have HO8 := Lib.hid ((HO.out.up (below_drewN (Below.refl _ _) 1)).past hg8 (by omega))
            have d3 := HM8.out.1.cell 2
            simp only [List.getElem?_cons_zero, List.getElem?_cons_succ] at d3
            have d4 := (HM8.out.alloc (.cells #[.string x8] 9)).1.cell 2
            simp only [List.getElem?_cons_zero, List.getElem?_cons_succ] at d4
            try go_wp2_with fail
            (try (refine hK _ _ ?_; clear hK K))
            (try simp only [Act.put, List.setIfInBounds_toArray, List.set_cons_zero, List.set_cons_succ])
            refine wpAny_ready (rs := [5]) (by kernel_rfl) (by simp) ?_
            refine AllReady.cons (o := _) rfl (fun K hK => ?_) (AllReady.nil)
            go_simp
            (try (refine hK _ _ ?_; clear hK K))
            (try simp only [Act.put, List.setIfInBounds_toArray, List.set_cons_zero, List.set_cons_succ])
            refine wpAny_ready (rs := [6]) (by kernel_rfl) (by simp) ?_
            refine AllReady.cons (o := _) rfl (fun K hK => ?_) (AllReady.nil)
            refine step_append_rec Tryz.elStr (by rfl) _ _ (by rfl) (by rfl) (HO8.out.alloc _) x8 (by rfl) (Box.at_ _ [.string x8] _ (by rfl)) (strE_one _) (by omega) (by decide) (by have h1 := HM8.out.1.lt; have h2 := hg8.size; simp at h2 ⊢; omega) ?_
            intro A3 c3 w9 ho9 hg9 hb9
            have HM9 := Lib.hid ((HM8.out.alloc (.cells #[.string x8] 9)).grown hg9 (fun k hk => by have := (HO8.out.blk hk).1; omega))
            have d5 := HM9.out.1.cell 2; have e5 := HM9.out.1.frozen 2
            simp only [List.getElem?_cons_zero, List.getElem?_cons_succ] at d5
            (try (refine hK _ _ ?_; clear hK K))
            (try simp only [Act.put, List.setIfInBounds_toArray, List.set_cons_zero, List.set_cons_succ])
            refine wpAny_ready (rs := [7]) (by kernel_rfl) (by simp) ?_
            refine AllReady.cons (o := _) rfl (fun K hK => ?_) (AllReady.nil)
            go_simp
            (try (refine hK _ _ ?_; clear hK K))
            (try simp only [Act.put, List.setIfInBounds_toArray, List.set_cons_zero, List.set_cons_succ])
            refine wpAny_ready (rs := [8]) (by kernel_rfl) (by simp) ?_
            refine AllReady.cons (o := _) rfl (fun K hK => ?_) (AllReady.nil)
            go_simp
            (try (refine hK _ _ ?_; clear hK K))
            (try simp only [Act.put, List.setIfInBounds_toArray, List.set_cons_zero, List.set_cons_succ])
            refine wpAny_done (by kernel_rfl) ?_ _
            (try simp only [Act.put, List.setIfInBounds_toArray, List.set_cons_zero, List.set_cons_succ])
            have HZ9 := Lib.hid (good_snoc HZ.out gx8)
            have HMF := Lib.hid (HM9.out.put (v' := .slice A3 (m + 1) c3))
            have HOF := Lib.hid (own_put (b := w3.heap.size) (v' := .slice A3 (m + 1) c3) ho9 (by omega))
            clear d2 d3 d4 d5 e2 e5
            go_wp2
            go_roundw
            case rel => exact ⟨k - 1, m + 1, A3, c3, L ++ [x8], by omega, by go_num, Lib.hid (HMF.out.mono (by omega)), HOF, HZ9, HMF.out.1.lt⟩
            case measure => simp [intOf]; omega
          · go_simp
            refine (cur_change HS.out (G.out _ HM.out.drew.2.2.2.1) hp HM.out.drew.2.1 (by omega) (by omega) (by omega)).mono ?_; rintro e w8 ⟨x8, rfl, gx8, zx8, hc8, hg8⟩
            have HM8 := Lib.hid (HM.out.drew.draw hg8 hc8)
            have HO8 := Lib.hid ((HO.out.up (below_drewN (Below.refl _ _) 1)).past hg8 (by omega))
            have d3 := HM8.out.1.cell 2
            simp only [List.getElem?_cons_zero, List.getElem?_cons_succ] at d3
            have d4 := (HM8.out.alloc (.cells #[.string x8] 9)).1.cell 2
            simp only [List.getElem?_cons_zero, List.getElem?_cons_succ] at d4
            try go_wp2_with fail
            (try (refine hK _ _ ?_; clear hK K))
            (try simp only [Act.put, List.setIfInBounds_toArray, List.set_cons_zero, List.set_cons_succ])
            refine wpAny_ready (rs := [1, 5]) (by kernel_rfl) (by simp) ?_
            refine AllReady.cons (o := _) rfl (fun K hK => ?_) (AllReady.cons (o := _) rfl (fun K hK => ?_) (AllReady.nil))
            · go_simp
              (try (refine hK _ _ ?_; clear hK K))
              (try simp only [Act.put, List.setIfInBounds_toArray, List.set_cons_zero, List.set_cons_succ])
              refine wpAny_ready (rs := [5]) (by kernel_rfl) (by simp) ?_
              refine AllReady.cons (o := _) rfl (fun K hK => ?_) (AllReady.nil)
              go_simp
              (try (refine hK _ _ ?_; clear hK K))
              (try simp only [Act.put, List.setIfInBounds_toArray, List.set_cons_zero, List.set_cons_succ])
              refine wpAny_ready (rs := [6]) (by kernel_rfl) (by simp) ?_
              refine AllReady.cons (o := _) rfl (fun K hK => ?_) (AllReady.nil)
              refine step_append_rec Tryz.elStr (by rfl) _ _ (by rfl) (by rfl) (HO8.out.alloc _) x8 (by rfl) (Box.at_ _ [.string x8] _ (by rfl)) (strE_one _) (by omega) (by decide) (by have h1 := HM8.out.1.lt; have h2 := hg8.size; simp at h2 ⊢; omega) ?_
              intro A3 c3 w9 ho9 hg9 hb9
              have HM9 := Lib.hid ((HM8.out.alloc (.cells #[.string x8] 9)).grown hg9 (fun k hk => by have := (HO8.out.blk hk).1; omega))
              have d5 := HM9.out.1.cell 2; have e5 := HM9.out.1.frozen 2
              simp only [List.getElem?_cons_zero, List.getElem?_cons_succ] at d5
              (try (refine hK _ _ ?_; clear hK K))
              (try simp only [Act.put, List.setIfInBounds_toArray, List.set_cons_zero, List.set_cons_succ])
              refine wpAny_ready (rs := [7]) (by kernel_rfl) (by simp) ?_
              refine AllReady.cons (o := _) rfl (fun K hK => ?_) (AllReady.nil)
              go_simp
              (try (refine hK _ _ ?_; clear hK K))
              (try simp only [Act.put, List.setIfInBounds_toArray, List.set_cons_zero, List.set_cons_succ])
              refine wpAny_ready (rs := [8]) (by kernel_rfl) (by simp) ?_
              refine AllReady.cons (o := _) rfl (fun K hK => ?_) (AllReady.nil)
              go_simp
              (try (refine hK _ _ ?_; clear hK K))
              (try simp only [Act.put, List.setIfInBounds_toArray, List.set_cons_zero, List.set_cons_succ])
              refine wpAny_done (by kernel_rfl) ?_ _
              (try simp only [Act.put, List.setIfInBounds_toArray, List.set_cons_zero, List.set_cons_succ])
              have HZ9 := Lib.hid (good_snoc HZ.out gx8)
              have HMF := Lib.hid (HM9.out.put (v' := .slice A3 (m + 1) c3))
              have HOF := Lib.hid (own_put (b := w3.heap.size) (v' := .slice A3 (m + 1) c3) ho9 (by omega))
              clear d2 d3 d4 d5 e2 e5
              go_wp2
              go_roundw
              case rel => exact ⟨k - 1, m + 1, A3, c3, L ++ [x8], by omega, by go_num, Lib.hid (HMF.out.mono (by omega)), HOF, HZ9, HMF.out.1.lt⟩
              case measure => simp [intOf]; omega
            · go_simp
              (try (refine hK _ _ ?_; clear hK K))
              (try simp only [Act.put, List.setIfInBounds_toArray, List.set_cons_zero, List.set_cons_succ])
              refine wpAny_ready (rs := [1]) (by kernel_rfl) (by simp) ?_
              refine AllReady.cons (o := _) rfl (fun K hK => ?_) (AllReady.nil)
              go_simp
              (try (refine hK _ _ ?_; clear hK K))
              (try simp only [Act.put, List.setIfInBounds_toArray, List.set_cons_zero, List.set_cons_succ])
              refine wpAny_ready (rs := [6]) (by kernel_rfl) (by simp) ?_
              refine AllReady.cons (o := _) rfl (fun K hK => ?_) (AllReady.nil)
              refine step_append_rec Tryz.elStr (by rfl) _ _ (by rfl) (by rfl) (HO8.out.alloc _) x8 (by rfl) (Box.at_ _ [.string x8] _ (by rfl)) (strE_one _) (by omega) (by decide) (by have h1 := HM8.out.1.lt; have h2 := hg8.size; simp at h2 ⊢; omega) ?_
              intro A3 c3 w9 ho9 hg9 hb9
              have HM9 := Lib.hid ((HM8.out.alloc (.cells #[.string x8] 9)).grown hg9 (fun k hk => by have := (HO8.out.blk hk).1; omega))
              have d5 := HM9.out.1.cell 2; have e5 := HM9.out.1.frozen 2
              simp only [List.getElem?_cons_zero, List.getElem?_cons_succ] at d5
              (try (refine hK _ _ ?_; clear hK K))
              (try simp only [Act.put, List.setIfInBounds_toArray, List.set_cons_zero, List.set_cons_succ])
              refine wpAny_ready (rs := [7]) (by kernel_rfl) (by simp) ?_
              refine AllReady.cons (o := _) rfl (fun K hK => ?_) (AllReady.nil)
              go_simp
              (try (refine hK _ _ ?_; clear hK K))
              (try simp only [Act.put, List.setIfInBounds_toArray, List.set_cons_zero, List.set_cons_succ])
              refine wpAny_ready (rs := [8]) (by kernel_rfl) (by simp) ?_
              refine AllReady.cons (o := _) rfl (fun K hK => ?_) (AllReady.nil)
              go_simp
              (try (refine hK _ _ ?_; clear hK K))
              (try simp only [Act.put, List.setIfInBounds_toArray, List.set_cons_zero, List.set_cons_succ])
              refine wpAny_done (by kernel_rfl) ?_ _
              (try simp only [Act.put, List.setIfInBounds_toArray, List.set_cons_zero, List.set_cons_succ])
              have HZ9 := Lib.hid (good_snoc HZ.out gx8)
              have HMF := Lib.hid (HM9.out.put (v' := .slice A3 (m + 1) c3))
              have HOF := Lib.hid (own_put (b := w3.heap.size) (v' := .slice A3 (m + 1) c3) ho9 (by omega))
              clear d2 d3 d4 d5 e2 e5
              go_wp2
              go_roundw
              case rel => exact ⟨k - 1, m + 1, A3, c3, L ++ [x8], by omega, by go_num, Lib.hid (HMF.out.mono (by omega)), HOF, HZ9, HMF.out.1.lt⟩
              case measure => simp [intOf]; omega
        · obtain rfl : k = 0 := by omega
          have hOl := HO.out.len
          obtain ⟨K1, K2, ⟨rx, ry, rz, K3⟩, K4, K5, K6⟩ := HM.out
          have kc0 := K1.cell 0; have kc1 := K1.cell 1; have kc2 := K1.cell 2
          have kd0 := K3.cell 0; have kd1 := K3.cell 1; have kd2 := K3.cell 2
          have kf0 := K3.frozen 0; have kf1 := K3.frozen 1; have kf2 := K3.frozen 2
          simp only [List.getElem?_cons_zero, List.getElem?_cons_succ] at kc0 kc1 kc2 kd0 kd1 kd2
          have Z := ((K3.set_ 0 (.string nm)).set_ 1 (.int .i64 (st : Int))).set_ 2 (.slice A2 (m) c2)
          have y0 := Z.cell 0; have y1 := Z.cell 1; have y2 := Z.cell 2
          simp only [List.set_cons_zero, List.set_cons_succ, List.getElem?_cons_zero, List.getElem?_cons_succ] at y0 y1 y2
          have HK := Lib.hid K2; have HGR := Lib.hid K4
          clear K1 K2 K3 K4 Z
          go_wp2_with fail
          refine bodyPost_ret (v := .agg #[.string nm, .int .i64 (st : Int), .slice A2 (m) c2]) (by simp [results, Tryz.results72, go_sem, y0, y1, y2]) rfl ?_
          exact fin.out _ _ _ _ _ _ HGR.out (HK.out.mono (by omega)) HO.out (by omega) (by omega) HZ.out (grownBy_trans (grownBy_trans (only_set _ (p := ⟨w.heap.size, 0, none⟩) _) (only_set _ (p := ⟨w.heap.size, 1, none⟩) _)) (only_set _ (p := ⟨w.heap.size, 2, none⟩) _))
    · go_wp2_with fail
      refine (cur_pick HS.out (G.out _ HM6.out.2.2.2.1) hp HM6.out.2.1 (by omega) (by decide) (by decide)).mono ?_; rintro e w7 ⟨x, rfl, ⟨x0, x1⟩, hc7, hg7⟩
      have HM7 := Lib.hid (HM6.out.draw hg7 hc7)
      obtain ⟨X, rfl⟩ := Int.eq_ofNat_of_zero_le x0
      have hX : X ≤ 3 := by omega
      clear hc7 hg7 x0 x1
      go_wp2
      go_loopw [6, 7] (fun v i wr => ∃ (k m : Nat) (A' : Option Addr) (c' : Nat) (H : List ByteArray), k + m = X + 1 ∧ i = .int .i64 k ∧ v = .slice A' m c' ∧ Hid (MSt w wr p A n c (a + 10 + m) w3.heap.size nm st (.slice none 0 0)) ∧ Hid (Owned strE 1 9 wr (w3.heap.size + 1) A' m c' H) ∧ Hid (∀ x ∈ H, goodChange st x = true) ∧ w3.heap.size < wr.heap.size) (fun _ i _ => (intOf i).toNat)
      case atStart => exact ⟨X + 1, 0, none, 0, [], rfl, by go_num, rfl, Lib.hid (HM7.out.mono (by omega)), Lib.hid (Owned.nil strE_len _ _ _), Lib.hid (fun s hs => by cases hs), HM7.out.1.lt⟩
      case round =>
        obtain ⟨k, m, A2, c2, H, hkm, rfl, rfl, HM, HO, HZ, hbr⟩ := hrel
        rename World => wr
        by_cases h0 : 0 < k
        · have hI : (0 : Int) < (k : Int) := by omega
          have hOl := HO.out.len
          go_wp2_with fail
          refine (cur_change HS.out (G.out _ HM.out.2.2.2.1) hp HM.out.2.1 (by omega) (by omega) (by omega)).mono ?_; rintro e w8 ⟨x8, rfl, gx8, zx8, hc8, hg8⟩
          have HM8 := Lib.hid (HM.out.draw hg8 hc8)
          have HO8 := Lib.hid (HO.out.past hg8 (by have := HM.out.2.2.2.2; omega))
          have hs8 := HM8.out.1.lt
          have HZ9 := Lib.hid (good_snoc HZ.out gx8)
          clear hc8 hg8
          go_wp2_with (first | (at_builtin; go_must ((refine wpList_append_recs Tryz.elStr strE_one rfl (.tmp 60) (.tmp 64) rfl rfl (HO8.out.alloc _) rfl (own_lit1_at' strE_len _ 9 x8 rfl (Nat.le_refl _)).recs rfl ?_ (by decide) ?_ ?_; (focus (first | omega | (simp only [World.size_alloc]; done) | (simp only [World.size_alloc]; omega) | (simp; done) | (simp; omega))); (simp; omega); intro A3 c3 w9 ho9 hg9 hl9; have HM9 := Lib.hid ((HM8.out.alloc (.cells ⟨[Value.string x8]⟩ 9)).grown hg9 (fun k hk => by have := (HO8.out.blk hk).1; omega))))))
          go_roundw
          case rel => exact ⟨k - 1, m + 1, A3, c3, H ++ [x8], by omega, by go_num, rfl, Lib.hid (HM9.out.mono (by omega)), Lib.hid ho9, HZ9, HM9.out.1.lt⟩
          case measure => simp [intOf]; omega
        · obtain rfl : k = 0 := by omega
          have hHl := HO.out.len
          obtain ⟨gH, rfl, gH0, gH1, _, _⟩ := HO.out.at_ (by omega)
          have HR := Lib.hid HO.out.recs
          have HG := Lib.hid HZ.out
          go_wp2_with fail
          refine (spec_l1OwnS hHl HR.out (by omega)).mono ?_; rintro e w8 ⟨A3, c3, rfl, ho3, hb3⟩
          have HM3 := Lib.hid (HM.out.up hb3)
          have HR3 := Lib.hid (HR.out.up hb3)
          have hs3 := hb3.size
          clear hb3
          go_wp2_with fail
          refine (cur_change HS.out (G.out _ HM3.out.2.2.2.1) hp HM3.out.2.1 (by omega) (by omega) (by omega)).mono ?_; rintro e w9 ⟨x9, rfl, gx9, zx9, hc9, hg9⟩
          have hpb := HM3.out.2.2.2.2
          have HM4 := Lib.hid (HM3.out.draw hg9 hc9)
          have HO4 := Lib.hid (ho3.past hg9 (by omega))
          have HR4 := Lib.hid (strs_grown HR3.out hg9 (fun e => by injection e with e; omega))
          have hs9 := hg9.size
          have HZ4 := Lib.hid (good_snoc HZ.out gx9)
          have HML := Lib.hid (HM4.out.alloc (.cells ⟨[Value.string x9]⟩ 9))
          have HRL := Lib.hid (HR4.out.alloc (.cells ⟨[Value.string x9]⟩ 9))
          have hs9' : wr.heap.size ≤ (w9.alloc (.cells ⟨[Value.string x9]⟩ 9)).heap.size := by simp; omega
          obtain ⟨wb, hwb⟩ : ∃ b, b = wr.heap.size := ⟨_, rfl⟩
          rw [← hwb] at ho3 HO4 gH1 hs3 hs9' 
          clear hc9 hg9 ho3 HM3 HR3
          go_wp2_with (first | (at_builtin; go_must ((refine wpList_append_recs Tryz.elStr strE_one rfl (.tmp 67) (.tmp 71) rfl rfl (HO4.out.alloc _) rfl (own_lit1_at' strE_len _ 9 x9 rfl (Nat.le_refl _)).recs rfl ?_ (by decide) ?_ ?_; (focus (first | omega | (simp only [World.size_alloc]; done) | (simp only [World.size_alloc]; omega) | (simp; done) | (simp; omega))); (simp; omega); intro A5 c5 w10 ho5 hg5 hl5; have HM5 := Lib.hid (HML.out.grown hg5 (fun k hk => by have := (HO4.out.blk hk).1; omega)); have HR5 := Lib.hid (strs_grown HRL.out hg5 (fun e => by have := (HO4.out.blk e.symm).1; omega)); have g2 := HM5.out.1.cell 2; have e2 := HM5.out.1.frozen 2; simp only [List.getElem?_cons_zero, List.getElem?_cons_succ] at g2; have HMF := Lib.hid (HM5.out.put (v' := .slice A5 (m + 1) c5)); have HOF := Lib.hid (own_put (b := w3.heap.size) (v' := .slice A5 (m + 1) c5) ho5 (by omega)); have HRF := Lib.hid (strs_grown HR5.out (only_set w10 (p := ⟨w3.heap.size, 2, none⟩) (.slice A5 (m + 1) c5)) (fun e => by injection e with e; dsimp only at e; omega))))))
          obtain ⟨w11, hw11⟩ : ∃ u, u = w10.setCell ⟨w3.heap.size, 2, none⟩ (.slice A5 (m + 1) c5) := ⟨_, rfl⟩
          rw [← hw11] at HMF HOF HRF ⊢
          have hB4 : w3.heap.size < wb := by omega
          have hs11 : wb ≤ w11.heap.size := by have := hg5.size; rw [hw11]; simp at this ⊢; omega
          clear hw11 ho5 hg5 hl5 HM5 HR5 g2 e2 HM4 HO4 HR4 HML HRL
          go_wp2
          go_loopw [8] (fun i wr => ∃ (k q : Nat) (A' : Option Addr) (c' : Nat) (L : List ByteArray), k + q = m ∧ i = .int .i64 ((k : Int) - 1) ∧ Hid (MSt w wr p A n c (a + 20 + m) w3.heap.size nm st (.slice A' (m + 1 + q) c')) ∧ Hid (Owned strE 1 9 wr wb A' (m + 1 + q) c' L) ∧ Hid (∀ x ∈ L, goodChange st x = true) ∧ Hid (Strs wr (some ⟨gH, 0, none⟩) H) ∧ wb ≤ wr.heap.size) (fun i _ => (intOf i + 1).toNat)
          case atStart => exact ⟨m, 0, A5, c5, H ++ [x9], rfl, by go_num, Lib.hid (HMF.out.mono (by omega)), HOF, HZ4, HRF, hs11⟩
          case round =>
            obtain ⟨k, q, A2, c2, L, hkq, rfl, HM, HO, HZ, HR, hsr⟩ := hrel
            rename World => wr
            have hOl := HO.out.len
            rcases k with _ | k
            · rw [show (((0 : Nat) : Int) - 1) = -1 by omega]
              obtain rfl : q = m := by omega
              go_upto_region 23 with fail
              obtain ⟨K1, _, _, _, K5, K6⟩ := HM.out
              have d2 := K1.cell 2; have e2 := K1.frozen 2
              simp only [List.getElem?_cons_zero, List.getElem?_cons_succ] at d2
              clear K1
              refine wp_region_any (by kernel_rfl) ?_
              (try (change wpAny _ _ _ _ _ _ _ (World.drew _)))
              refine wpAny_take (i := 0) (oi := { dst := some 90, op := _, type := _, pos := _, after := _, guard := _ }) (v := ?_) rfl (by kernel_rfl) (by kernel_rfl) (by kernel_rfl) (fun _ _ _ h => h) (Or.inl ⟨by rfl, ?_⟩) ?_
              rotate_left
              · (intro w; go_simp) <;> with_reducible rfl
              (try simp only [Act.put, List.setIfInBounds_toArray, List.set_cons_zero, List.set_cons_succ])
              refine wpAny_take (i := 2) (oi := { dst := some 92, op := _, type := _, pos := _, after := _, guard := _ }) (v := ?_) rfl (by kernel_rfl) (by kernel_rfl) (by kernel_rfl) (fun _ _ _ h => h) (Or.inl ⟨by rfl, ?_⟩) ?_
              rotate_left
              · (intro w; go_simp) <;> with_reducible rfl
              (try simp only [Act.put, List.setIfInBounds_toArray, List.set_cons_zero, List.set_cons_succ])
              refine wpAny_take (i := 3) (oi := { dst := some 93, op := _, type := _, pos := _, after := _, guard := _ }) (v := ?_) rfl (by kernel_rfl) (by kernel_rfl) (by kernel_rfl) (fun _ _ _ h => h) (Or.inl ⟨by rfl, ?_⟩) ?_
              rotate_left
              · (intro w; go_simp) <;> with_reducible rfl
              (try simp only [Act.put, List.setIfInBounds_toArray, List.set_cons_zero, List.set_cons_succ])
              refine wpAny_ready (rs := [1, 4]) (by kernel_rfl) (by simp) ?_
              refine AllReady.cons (o := _) rfl (fun K hK => ?_) (AllReady.cons (o := _) rfl (fun K hK => ?_) (AllReady.nil))
              · go_simp
                (try (refine hK _ _ ?_; clear hK K))
                (try simp only [Act.put, List.setIfInBounds_toArray, List.set_cons_zero, List.set_cons_succ])
                refine wpAny_ready (rs := [4]) (by kernel_rfl) (by simp) ?_
                refine AllReady.cons (o := _) rfl (fun K hK => ?_) (AllReady.nil)
                go_simp
                refine (cur_change HS.out (G.out _ HM.out.drew.2.2.2.1) hp HM.out.drew.2.1 (by omega) (by omega) (by omega)).mono ?_; rintro e w8 ⟨x8, rfl, gx8, zx8, hc8, hg8⟩
                have HM8 := Lib.hid (HM.out.drew.draw hg8 hc8)
                have HO8 := Lib.hid ((HO.out.up (below_drewN (Below.refl _ _) 1)).past hg8 (by omega))
                have d3 := HM8.out.1.cell 2
                simp only [List.getElem?_cons_zero, List.getElem?_cons_succ] at d3
                have d4 := (HM8.out.alloc (.cells #[.string x8] 9)).1.cell 2
                simp only [List.getElem?_cons_zero, List.getElem?_cons_succ] at d4
                try go_wp2_with fail
                (try (refine hK _ _ ?_; clear hK K))
                (try simp only [Act.put, List.setIfInBounds_toArray, List.set_cons_zero, List.set_cons_succ])
                refine wpAny_ready (rs := [5]) (by kernel_rfl) (by simp) ?_
                refine AllReady.cons (o := _) rfl (fun K hK => ?_) (AllReady.nil)
                go_simp
                (try (refine hK _ _ ?_; clear hK K))
                (try simp only [Act.put, List.setIfInBounds_toArray, List.set_cons_zero, List.set_cons_succ])
                refine wpAny_ready (rs := [6]) (by kernel_rfl) (by simp) ?_
                refine AllReady.cons (o := _) rfl (fun K hK => ?_) (AllReady.nil)
                refine step_append_rec Tryz.elStr (by rfl) _ _ (by rfl) (by rfl) (HO8.out.alloc _) x8 (by rfl) (Box.at_ _ [.string x8] _ (by rfl)) (strE_one _) (by omega) (by decide) (by have h1 := HM8.out.1.lt; have h2 := hg8.size; simp at h2 ⊢; omega) ?_
                intro A3 c3 w9 ho9 hg9 hb9
                have HM9 := Lib.hid ((HM8.out.alloc (.cells #[.string x8] 9)).grown hg9 (fun k hk => by have := (HO8.out.blk hk).1; omega))
                have d5 := HM9.out.1.cell 2; have e5 := HM9.out.1.frozen 2
                simp only [List.getElem?_cons_zero, List.getElem?_cons_succ] at d5
                (try (refine hK _ _ ?_; clear hK K))
                (try simp only [Act.put, List.setIfInBounds_toArray, List.set_cons_zero, List.set_cons_succ])
                refine wpAny_ready (rs := [7]) (by kernel_rfl) (by simp) ?_
                refine AllReady.cons (o := _) rfl (fun K hK => ?_) (AllReady.nil)
                go_simp
                (try (refine hK _ _ ?_; clear hK K))
                (try simp only [Act.put, List.setIfInBounds_toArray, List.set_cons_zero, List.set_cons_succ])
                refine wpAny_ready (rs := [8]) (by kernel_rfl) (by simp) ?_
                refine AllReady.cons (o := _) rfl (fun K hK => ?_) (AllReady.nil)
                go_simp
                (try (refine hK _ _ ?_; clear hK K))
                (try simp only [Act.put, List.setIfInBounds_toArray, List.set_cons_zero, List.set_cons_succ])
                refine wpAny_done (by kernel_rfl) ?_ _
                (try simp only [Act.put, List.setIfInBounds_toArray, List.set_cons_zero, List.set_cons_succ])
                have HZ := Lib.hid (good_snoc HZ.out gx8)
                have HM := Lib.hid (HM9.out.put (v' := .slice A3 (q + 1 + q + 1) c3))
                have HO := Lib.hid ((own_put (b := w3.heap.size) (v' := .slice A3 (q + 1 + q + 1) c3) ho9 (by omega)).base_le (show w3.heap.size + 1 ≤ wb by omega))
                clear d2 d3 d4 d5 e2 e5 HM8 HO8 HM9 ho9 hg9 hb9 hc8 hg8 K5 K6
                obtain ⟨K1, K2, ⟨rx, ry, rz, K3⟩, K4, K5, K6⟩ := HM.out
                have kc0 := K1.cell 0; have kc1 := K1.cell 1; have kc2 := K1.cell 2
                have kd0 := K3.cell 0; have kd1 := K3.cell 1; have kd2 := K3.cell 2
                have kf0 := K3.frozen 0; have kf1 := K3.frozen 1; have kf2 := K3.frozen 2
                simp only [List.getElem?_cons_zero, List.getElem?_cons_succ] at kc0 kc1 kc2 kd0 kd1 kd2
                have Z := ((K3.set_ 0 (.string nm)).set_ 1 (.int .i64 (st : Int))).set_ 2 (.slice A3 (q + 1 + q + 1) c3)
                have y0 := Z.cell 0; have y1 := Z.cell 1; have y2 := Z.cell 2
                simp only [List.set_cons_zero, List.set_cons_succ, List.getElem?_cons_zero, List.getElem?_cons_succ] at y0 y1 y2
                have HK := Lib.hid K2; have HGR := Lib.hid K4
                clear K1 K2 K3 K4 Z
                go_wp2_with fail
                refine bodyPost_ret (v := .agg #[.string nm, .int .i64 (st : Int), .slice A3 (q + 1 + q + 1) c3]) (by simp [results, Tryz.results72, go_sem, y0, y1, y2]) rfl ?_
                exact fin.out _ _ _ _ _ _ HGR.out (HK.out.mono (by omega)) HO.out (by omega) (by omega) HZ.out (grownBy_trans (grownBy_trans (only_set _ (p := ⟨w.heap.size, 0, none⟩) _) (only_set _ (p := ⟨w.heap.size, 1, none⟩) _)) (only_set _ (p := ⟨w.heap.size, 2, none⟩) _))
              · go_simp
                refine (cur_change HS.out (G.out _ HM.out.drew.2.2.2.1) hp HM.out.drew.2.1 (by omega) (by omega) (by omega)).mono ?_; rintro e w8 ⟨x8, rfl, gx8, zx8, hc8, hg8⟩
                have HM8 := Lib.hid (HM.out.drew.draw hg8 hc8)
                have HO8 := Lib.hid ((HO.out.up (below_drewN (Below.refl _ _) 1)).past hg8 (by omega))
                have d3 := HM8.out.1.cell 2
                simp only [List.getElem?_cons_zero, List.getElem?_cons_succ] at d3
                have d4 := (HM8.out.alloc (.cells #[.string x8] 9)).1.cell 2
                simp only [List.getElem?_cons_zero, List.getElem?_cons_succ] at d4
                try go_wp2_with fail
                (try (refine hK _ _ ?_; clear hK K))
                (try simp only [Act.put, List.setIfInBounds_toArray, List.set_cons_zero, List.set_cons_succ])
                refine wpAny_ready (rs := [1, 5]) (by kernel_rfl) (by simp) ?_
                refine AllReady.cons (o := _) rfl (fun K hK => ?_) (AllReady.cons (o := _) rfl (fun K hK => ?_) (AllReady.nil))
                · go_simp
                  (try (refine hK _ _ ?_; clear hK K))
                  (try simp only [Act.put, List.setIfInBounds_toArray, List.set_cons_zero, List.set_cons_succ])
                  refine wpAny_ready (rs := [5]) (by kernel_rfl) (by simp) ?_
                  refine AllReady.cons (o := _) rfl (fun K hK => ?_) (AllReady.nil)
                  go_simp
                  (try (refine hK _ _ ?_; clear hK K))
                  (try simp only [Act.put, List.setIfInBounds_toArray, List.set_cons_zero, List.set_cons_succ])
                  refine wpAny_ready (rs := [6]) (by kernel_rfl) (by simp) ?_
                  refine AllReady.cons (o := _) rfl (fun K hK => ?_) (AllReady.nil)
                  refine step_append_rec Tryz.elStr (by rfl) _ _ (by rfl) (by rfl) (HO8.out.alloc _) x8 (by rfl) (Box.at_ _ [.string x8] _ (by rfl)) (strE_one _) (by omega) (by decide) (by have h1 := HM8.out.1.lt; have h2 := hg8.size; simp at h2 ⊢; omega) ?_
                  intro A3 c3 w9 ho9 hg9 hb9
                  have HM9 := Lib.hid ((HM8.out.alloc (.cells #[.string x8] 9)).grown hg9 (fun k hk => by have := (HO8.out.blk hk).1; omega))
                  have d5 := HM9.out.1.cell 2; have e5 := HM9.out.1.frozen 2
                  simp only [List.getElem?_cons_zero, List.getElem?_cons_succ] at d5
                  (try (refine hK _ _ ?_; clear hK K))
                  (try simp only [Act.put, List.setIfInBounds_toArray, List.set_cons_zero, List.set_cons_succ])
                  refine wpAny_ready (rs := [7]) (by kernel_rfl) (by simp) ?_
                  refine AllReady.cons (o := _) rfl (fun K hK => ?_) (AllReady.nil)
                  go_simp
                  (try (refine hK _ _ ?_; clear hK K))
                  (try simp only [Act.put, List.setIfInBounds_toArray, List.set_cons_zero, List.set_cons_succ])
                  refine wpAny_ready (rs := [8]) (by kernel_rfl) (by simp) ?_
                  refine AllReady.cons (o := _) rfl (fun K hK => ?_) (AllReady.nil)
                  go_simp
                  (try (refine hK _ _ ?_; clear hK K))
                  (try simp only [Act.put, List.setIfInBounds_toArray, List.set_cons_zero, List.set_cons_succ])
                  refine wpAny_done (by kernel_rfl) ?_ _
                  (try simp only [Act.put, List.setIfInBounds_toArray, List.set_cons_zero, List.set_cons_succ])
                  have HZ := Lib.hid (good_snoc HZ.out gx8)
                  have HM := Lib.hid (HM9.out.put (v' := .slice A3 (q + 1 + q + 1) c3))
                  have HO := Lib.hid ((own_put (b := w3.heap.size) (v' := .slice A3 (q + 1 + q + 1) c3) ho9 (by omega)).base_le (show w3.heap.size + 1 ≤ wb by omega))
                  clear d2 d3 d4 d5 e2 e5 HM8 HO8 HM9 ho9 hg9 hb9 hc8 hg8 K5 K6
                  obtain ⟨K1, K2, ⟨rx, ry, rz, K3⟩, K4, K5, K6⟩ := HM.out
                  have kc0 := K1.cell 0; have kc1 := K1.cell 1; have kc2 := K1.cell 2
                  have kd0 := K3.cell 0; have kd1 := K3.cell 1; have kd2 := K3.cell 2
                  have kf0 := K3.frozen 0; have kf1 := K3.frozen 1; have kf2 := K3.frozen 2
                  simp only [List.getElem?_cons_zero, List.getElem?_cons_succ] at kc0 kc1 kc2 kd0 kd1 kd2
                  have Z := ((K3.set_ 0 (.string nm)).set_ 1 (.int .i64 (st : Int))).set_ 2 (.slice A3 (q + 1 + q + 1) c3)
                  have y0 := Z.cell 0; have y1 := Z.cell 1; have y2 := Z.cell 2
                  simp only [List.set_cons_zero, List.set_cons_succ, List.getElem?_cons_zero, List.getElem?_cons_succ] at y0 y1 y2
                  have HK := Lib.hid K2; have HGR := Lib.hid K4
                  clear K1 K2 K3 K4 Z
                  go_wp2_with fail
                  refine bodyPost_ret (v := .agg #[.string nm, .int .i64 (st : Int), .slice A3 (q + 1 + q + 1) c3]) (by simp [results, Tryz.results72, go_sem, y0, y1, y2]) rfl ?_
                  exact fin.out _ _ _ _ _ _ HGR.out (HK.out.mono (by omega)) HO.out (by omega) (by omega) HZ.out (grownBy_trans (grownBy_trans (only_set _ (p := ⟨w.heap.size, 0, none⟩) _) (only_set _ (p := ⟨w.heap.size, 1, none⟩) _)) (only_set _ (p := ⟨w.heap.size, 2, none⟩) _))
                · go_simp
                  (try (refine hK _ _ ?_; clear hK K))
                  (try simp only [Act.put, List.setIfInBounds_toArray, List.set_cons_zero, List.set_cons_succ])
                  refine wpAny_ready (rs := [1]) (by kernel_rfl) (by simp) ?_
                  refine AllReady.cons (o := _) rfl (fun K hK => ?_) (AllReady.nil)
                  go_simp
                  (try (refine hK _ _ ?_; clear hK K))
                  (try simp only [Act.put, List.setIfInBounds_toArray, List.set_cons_zero, List.set_cons_succ])
                  refine wpAny_ready (rs := [6]) (by kernel_rfl) (by simp) ?_
                  refine AllReady.cons (o := _) rfl (fun K hK => ?_) (AllReady.nil)
                  refine step_append_rec Tryz.elStr (by rfl) _ _ (by rfl) (by rfl) (HO8.out.alloc _) x8 (by rfl) (Box.at_ _ [.string x8] _ (by rfl)) (strE_one _) (by omega) (by decide) (by have h1 := HM8.out.1.lt; have h2 := hg8.size; simp at h2 ⊢; omega) ?_
                  intro A3 c3 w9 ho9 hg9 hb9
                  have HM9 := Lib.hid ((HM8.out.alloc (.cells #[.string x8] 9)).grown hg9 (fun k hk => by have := (HO8.out.blk hk).1; omega))
                  have d5 := HM9.out.1.cell 2; have e5 := HM9.out.1.frozen 2
                  simp only [List.getElem?_cons_zero, List.getElem?_cons_succ] at d5
                  (try (refine hK _ _ ?_; clear hK K))
                  (try simp only [Act.put, List.setIfInBounds_toArray, List.set_cons_zero, List.set_cons_succ])
                  refine wpAny_ready (rs := [7]) (by kernel_rfl) (by simp) ?_
                  refine AllReady.cons (o := _) rfl (fun K hK => ?_) (AllReady.nil)
                  go_simp
                  (try (refine hK _ _ ?_; clear hK K))
                  (try simp only [Act.put, List.setIfInBounds_toArray, List.set_cons_zero, List.set_cons_succ])
                  refine wpAny_ready (rs := [8]) (by kernel_rfl) (by simp) ?_
                  refine AllReady.cons (o := _) rfl (fun K hK => ?_) (AllReady.nil)
                  go_simp
                  (try (refine hK _ _ ?_; clear hK K))
                  (try simp only [Act.put, List.setIfInBounds_toArray, List.set_cons_zero, List.set_cons_succ])
                  refine wpAny_done (by kernel_rfl) ?_ _
                  (try simp only [Act.put, List.setIfInBounds_toArray, List.set_cons_zero, List.set_cons_succ])
                  have HZ := Lib.hid (good_snoc HZ.out gx8)
                  have HM := Lib.hid (HM9.out.put (v' := .slice A3 (q + 1 + q + 1) c3))
                  have HO := Lib.hid ((own_put (b := w3.heap.size) (v' := .slice A3 (q + 1 + q + 1) c3) ho9 (by omega)).base_le (show w3.heap.size + 1 ≤ wb by omega))
                  clear d2 d3 d4 d5 e2 e5 HM8 HO8 HM9 ho9 hg9 hb9 hc8 hg8 K5 K6
                  obtain ⟨K1, K2, ⟨rx, ry, rz, K3⟩, K4, K5, K6⟩ := HM.out
                  have kc0 := K1.cell 0; have kc1 := K1.cell 1; have kc2 := K1.cell 2
                  have kd0 := K3.cell 0; have kd1 := K3.cell 1; have kd2 := K3.cell 2
                  have kf0 := K3.frozen 0; have kf1 := K3.frozen 1; have kf2 := K3.frozen 2
                  simp only [List.getElem?_cons_zero, List.getElem?_cons_succ] at kc0 kc1 kc2 kd0 kd1 kd2
                  have Z := ((K3.set_ 0 (.string nm)).set_ 1 (.int .i64 (st : Int))).set_ 2 (.slice A3 (q + 1 + q + 1) c3)
                  have y0 := Z.cell 0; have y1 := Z.cell 1; have y2 := Z.cell 2
                  simp only [List.set_cons_zero, List.set_cons_succ, List.getElem?_cons_zero, List.getElem?_cons_succ] at y0 y1 y2
                  have HK := Lib.hid K2; have HGR := Lib.hid K4
                  clear K1 K2 K3 K4 Z
                  go_wp2_with fail
                  refine bodyPost_ret (v := .agg #[.string nm, .int .i64 (st : Int), .slice A3 (q + 1 + q + 1) c3]) (by simp [results, Tryz.results72, go_sem, y0, y1, y2]) rfl ?_
                  exact fin.out _ _ _ _ _ _ HGR.out (HK.out.mono (by omega)) HO.out (by omega) (by omega) HZ.out (grownBy_trans (grownBy_trans (only_set _ (p := ⟨w.heap.size, 0, none⟩) _) (only_set _ (p := ⟨w.heap.size, 1, none⟩) _)) (only_set _ (p := ⟨w.heap.size, 2, none⟩) _))
            · rw [show (((k + 1 : Nat) : Int) - 1) = (k : Int) by omega]
              have hI : (0 : Int) ≤ (k : Int) := by omega
              obtain ⟨b3, o3, y, hA, hbb, hy, hcy⟩ := HR.out.at_str (k := k) (by omega)
              injection hA with hA
              injection hA with e1 e2 _
              subst e1 e2
              have gy := HG.out y (List.mem_of_getElem? hy)
              obtain ⟨K1, _, _, _, K5, K6⟩ := HM.out
              have d2 := K1.cell 2; have e2 := K1.frozen 2
              have d4 := (HM.out.alloc (.cells #[.string y] 9)).1.cell 2
              have hJ : (k : Int) < (m : Int) := by omega
              simp only [List.getElem?_cons_zero, List.getElem?_cons_succ, Nat.zero_add] at d2 d4 hcy
              have HO8 := Lib.hid (HO.out.up (below_drewN (Below.refl _ _) 1))
              clear K1 hy
              go_upto_region 22 with fail
              refine wp_region_any (by kernel_rfl) ?_
              (try (change wpAny _ _ _ _ _ _ _ (World.drew _)))
              refine wpAny_take (i := 0) (oi := { dst := some 81, op := _, type := _, pos := _, after := _, guard := _ }) (v := ?_) rfl (by kernel_rfl) (by kernel_rfl) (by kernel_rfl) (fun _ _ _ h => h) (Or.inl ⟨by rfl, ?_⟩) ?_
              rotate_left
              · (intro w; go_simp) <;> with_reducible rfl
              (try simp only [Act.put, List.setIfInBounds_toArray, List.set_cons_zero, List.set_cons_succ])
              refine wpAny_take (i := 2) (oi := { dst := some 83, op := _, type := _, pos := _, after := _, guard := _ }) (v := ?_) rfl (by kernel_rfl) (by kernel_rfl) (by kernel_rfl) (fun _ _ _ h => h) (Or.inl ⟨by rfl, ?_⟩) ?_
              rotate_left
              · (intro w; go_simp) <;> with_reducible rfl
              (try simp only [Act.put, List.setIfInBounds_toArray, List.set_cons_zero, List.set_cons_succ])
              refine wpAny_take (i := 3) (oi := { dst := some 84, op := _, type := _, pos := _, after := _, guard := _ }) (v := ?_) rfl (by kernel_rfl) (by kernel_rfl) (by kernel_rfl) (fun _ _ _ h => h) (Or.inl ⟨by rfl, ?_⟩) ?_
              rotate_left
              · (intro w; go_simp) <;> with_reducible rfl
              (try simp only [Act.put, List.setIfInBounds_toArray, List.set_cons_zero, List.set_cons_succ])
              refine wpAny_take (i := 4) (oi := { dst := some 85, op := _, type := _, pos := _, after := _, guard := _ }) (v := ?_) rfl (by kernel_rfl) (by kernel_rfl) (by kernel_rfl) (fun _ _ _ h => h) (Or.inl ⟨by rfl, ?_⟩) ?_
              rotate_left
              · (intro w; go_simp) <;> with_reducible rfl
              (try simp only [Act.put, List.setIfInBounds_toArray, List.set_cons_zero, List.set_cons_succ])
              refine wpAny_ready (rs := [1, 5]) (by kernel_rfl) (by simp) ?_
              refine AllReady.cons (o := _) rfl (fun K hK => ?_) (AllReady.cons (o := _) rfl (fun K hK => ?_) (AllReady.nil))
              · go_simp
                (try (refine hK _ _ ?_; clear hK K))
                (try simp only [Act.put, List.setIfInBounds_toArray, List.set_cons_zero, List.set_cons_succ])
                refine wpAny_ready (rs := [5]) (by kernel_rfl) (by simp) ?_
                refine AllReady.cons (o := _) rfl (fun K hK => ?_) (AllReady.nil)
                go_simp
                (try (refine hK _ _ ?_; clear hK K))
                (try simp only [Act.put, List.setIfInBounds_toArray, List.set_cons_zero, List.set_cons_succ])
                refine wpAny_ready (rs := [6]) (by kernel_rfl) (by simp) ?_
                refine AllReady.cons (o := _) rfl (fun K hK => ?_) (AllReady.nil)
                go_simp
                (try (refine hK _ _ ?_; clear hK K))
                (try simp only [Act.put, List.setIfInBounds_toArray, List.set_cons_zero, List.set_cons_succ])
                refine wpAny_ready (rs := [7]) (by kernel_rfl) (by simp) ?_
                refine AllReady.cons (o := _) rfl (fun K hK => ?_) (AllReady.nil)
                refine step_append_rec Tryz.elStr (by rfl) _ _ (by rfl) (by rfl) (HO8.out.alloc _) y (by rfl) (Box.at_ _ [.string y] _ (by rfl)) (strE_one _) (by omega) (by decide) (by simp; omega) ?_
                intro A3 c3 w9 ho9 hg9 hb9
                have HM9 := Lib.hid ((HM.out.drew.alloc (.cells #[.string y] 9)).grown hg9 (fun k hk => by have := (HO8.out.blk hk).1; omega))
                have HR9 := Lib.hid (strs_grown ((HR.out.up (below_drewN (Below.refl _ _) 1)).alloc (.cells #[.string y] 9)) hg9 (fun e => by have := (HO8.out.blk e.symm).1; omega))
                have d5 := HM9.out.1.cell 2; have e5 := HM9.out.1.frozen 2
                simp only [List.getElem?_cons_zero, List.getElem?_cons_succ] at d5
                (try (refine hK _ _ ?_; clear hK K))
                (try simp only [Act.put, List.setIfInBounds_toArray, List.set_cons_zero, List.set_cons_succ])
                refine wpAny_ready (rs := [8]) (by kernel_rfl) (by simp) ?_
                refine AllReady.cons (o := _) rfl (fun K hK => ?_) (AllReady.nil)
                go_simp
                (try (refine hK _ _ ?_; clear hK K))
                (try simp only [Act.put, List.setIfInBounds_toArray, List.set_cons_zero, List.set_cons_succ])
                refine wpAny_ready (rs := [9]) (by kernel_rfl) (by simp) ?_
                refine AllReady.cons (o := _) rfl (fun K hK => ?_) (AllReady.nil)
                go_simp
                (try (refine hK _ _ ?_; clear hK K))
                (try simp only [Act.put, List.setIfInBounds_toArray, List.set_cons_zero, List.set_cons_succ])
                refine wpAny_done (by kernel_rfl) ?_ _
                (try simp only [Act.put, List.setIfInBounds_toArray, List.set_cons_zero, List.set_cons_succ])
                have HZ9 := Lib.hid (good_snoc HZ.out gy)
                have HMF := Lib.hid (HM9.out.put (v' := .slice A3 (m + 1 + q + 1) c3))
                have HOF := Lib.hid (own_put (b := w3.heap.size) (v' := .slice A3 (m + 1 + q + 1) c3) ho9 (by omega))
                have HRF := Lib.hid (strs_grown HR9.out (only_set w9 (p := ⟨w3.heap.size, 2, none⟩) (.slice A3 (m + 1 + q + 1) c3)) (fun e => by injection e with e; dsimp only at e; omega))
                have hs12 : wb ≤ (w9.setCell ⟨w3.heap.size, 2, none⟩ (.slice A3 (m + 1 + q + 1) c3)).heap.size := by have := hg9.size; simp at this ⊢; omega
                clear d2 d4 d5 e2 e5
                go_wp2
                go_roundw
                case rel => exact ⟨k, q + 1, A3, c3, L ++ [y], by omega, by go_num, HMF, HOF, HZ9, HRF, hs12⟩
                case measure => simp [intOf] <;> omega
              · go_simp
                (try (refine hK _ _ ?_; clear hK K))
                (try simp only [Act.put, List.setIfInBounds_toArray, List.set_cons_zero, List.set_cons_succ])
                refine wpAny_ready (rs := [1, 6]) (by kernel_rfl) (by simp) ?_
                refine AllReady.cons (o := _) rfl (fun K hK => ?_) (AllReady.cons (o := _) rfl (fun K hK => ?_) (AllReady.nil))
                · go_simp
                  (try (refine hK _ _ ?_; clear hK K))
                  (try simp only [Act.put, List.setIfInBounds_toArray, List.set_cons_zero, List.set_cons_succ])
                  refine wpAny_ready (rs := [6]) (by kernel_rfl) (by simp) ?_
                  refine AllReady.cons (o := _) rfl (fun K hK => ?_) (AllReady.nil)
                  go_simp
                  (try (refine hK _ _ ?_; clear hK K))
                  (try simp only [Act.put, List.setIfInBounds_toArray, List.set_cons_zero, List.set_cons_succ])
                  refine wpAny_ready (rs := [7]) (by kernel_rfl) (by simp) ?_
                  refine AllReady.cons (o := _) rfl (fun K hK => ?_) (AllReady.nil)
                  refine step_append_rec Tryz.elStr (by rfl) _ _ (by rfl) (by rfl) (HO8.out.alloc _) y (by rfl) (Box.at_ _ [.string y] _ (by rfl)) (strE_one _) (by omega) (by decide) (by simp; omega) ?_
                  intro A3 c3 w9 ho9 hg9 hb9
                  have HM9 := Lib.hid ((HM.out.drew.alloc (.cells #[.string y] 9)).grown hg9 (fun k hk => by have := (HO8.out.blk hk).1; omega))
                  have HR9 := Lib.hid (strs_grown ((HR.out.up (below_drewN (Below.refl _ _) 1)).alloc (.cells #[.string y] 9)) hg9 (fun e => by have := (HO8.out.blk e.symm).1; omega))
                  have d5 := HM9.out.1.cell 2; have e5 := HM9.out.1.frozen 2
                  simp only [List.getElem?_cons_zero, List.getElem?_cons_succ] at d5
                  (try (refine hK _ _ ?_; clear hK K))
                  (try simp only [Act.put, List.setIfInBounds_toArray, List.set_cons_zero, List.set_cons_succ])
                  refine wpAny_ready (rs := [8]) (by kernel_rfl) (by simp) ?_
                  refine AllReady.cons (o := _) rfl (fun K hK => ?_) (AllReady.nil)
                  go_simp
                  (try (refine hK _ _ ?_; clear hK K))
                  (try simp only [Act.put, List.setIfInBounds_toArray, List.set_cons_zero, List.set_cons_succ])
                  refine wpAny_ready (rs := [9]) (by kernel_rfl) (by simp) ?_
                  refine AllReady.cons (o := _) rfl (fun K hK => ?_) (AllReady.nil)
                  go_simp
                  (try (refine hK _ _ ?_; clear hK K))
                  (try simp only [Act.put, List.setIfInBounds_toArray, List.set_cons_zero, List.set_cons_succ])
                  refine wpAny_done (by kernel_rfl) ?_ _
                  (try simp only [Act.put, List.setIfInBounds_toArray, List.set_cons_zero, List.set_cons_succ])
                  have HZ9 := Lib.hid (good_snoc HZ.out gy)
                  have HMF := Lib.hid (HM9.out.put (v' := .slice A3 (m + 1 + q + 1) c3))
                  have HOF := Lib.hid (own_put (b := w3.heap.size) (v' := .slice A3 (m + 1 + q + 1) c3) ho9 (by omega))
                  have HRF := Lib.hid (strs_grown HR9.out (only_set w9 (p := ⟨w3.heap.size, 2, none⟩) (.slice A3 (m + 1 + q + 1) c3)) (fun e => by injection e with e; dsimp only at e; omega))
                  have hs12 : wb ≤ (w9.setCell ⟨w3.heap.size, 2, none⟩ (.slice A3 (m + 1 + q + 1) c3)).heap.size := by have := hg9.size; simp at this ⊢; omega
                  clear d2 d4 d5 e2 e5
                  go_wp2
                  go_roundw
                  case rel => exact ⟨k, q + 1, A3, c3, L ++ [y], by omega, by go_num, HMF, HOF, HZ9, HRF, hs12⟩
                  case measure => simp [intOf] <;> omega
                · go_simp
                  (try (refine hK _ _ ?_; clear hK K))
                  (try simp only [Act.put, List.setIfInBounds_toArray, List.set_cons_zero, List.set_cons_succ])
                  refine wpAny_ready (rs := [1]) (by kernel_rfl) (by simp) ?_
                  refine AllReady.cons (o := _) rfl (fun K hK => ?_) (AllReady.nil)
                  go_simp
                  (try (refine hK _ _ ?_; clear hK K))
                  (try simp only [Act.put, List.setIfInBounds_toArray, List.set_cons_zero, List.set_cons_succ])
                  refine wpAny_ready (rs := [7]) (by kernel_rfl) (by simp) ?_
                  refine AllReady.cons (o := _) rfl (fun K hK => ?_) (AllReady.nil)
                  refine step_append_rec Tryz.elStr (by rfl) _ _ (by rfl) (by rfl) (HO8.out.alloc _) y (by rfl) (Box.at_ _ [.string y] _ (by rfl)) (strE_one _) (by omega) (by decide) (by simp; omega) ?_
                  intro A3 c3 w9 ho9 hg9 hb9
                  have HM9 := Lib.hid ((HM.out.drew.alloc (.cells #[.string y] 9)).grown hg9 (fun k hk => by have := (HO8.out.blk hk).1; omega))
                  have HR9 := Lib.hid (strs_grown ((HR.out.up (below_drewN (Below.refl _ _) 1)).alloc (.cells #[.string y] 9)) hg9 (fun e => by have := (HO8.out.blk e.symm).1; omega))
                  have d5 := HM9.out.1.cell 2; have e5 := HM9.out.1.frozen 2
                  simp only [List.getElem?_cons_zero, List.getElem?_cons_succ] at d5
                  (try (refine hK _ _ ?_; clear hK K))
                  (try simp only [Act.put, List.setIfInBounds_toArray, List.set_cons_zero, List.set_cons_succ])
                  refine wpAny_ready (rs := [8]) (by kernel_rfl) (by simp) ?_
                  refine AllReady.cons (o := _) rfl (fun K hK => ?_) (AllReady.nil)
                  go_simp
                  (try (refine hK _ _ ?_; clear hK K))
                  (try simp only [Act.put, List.setIfInBounds_toArray, List.set_cons_zero, List.set_cons_succ])
                  refine wpAny_ready (rs := [9]) (by kernel_rfl) (by simp) ?_
                  refine AllReady.cons (o := _) rfl (fun K hK => ?_) (AllReady.nil)
                  go_simp
                  (try (refine hK _ _ ?_; clear hK K))
                  (try simp only [Act.put, List.setIfInBounds_toArray, List.set_cons_zero, List.set_cons_succ])
                  refine wpAny_done (by kernel_rfl) ?_ _
                  (try simp only [Act.put, List.setIfInBounds_toArray, List.set_cons_zero, List.set_cons_succ])
                  have HZ9 := Lib.hid (good_snoc HZ.out gy)
                  have HMF := Lib.hid (HM9.out.put (v' := .slice A3 (m + 1 + q + 1) c3))
                  have HOF := Lib.hid (own_put (b := w3.heap.size) (v' := .slice A3 (m + 1 + q + 1) c3) ho9 (by omega))
                  have HRF := Lib.hid (strs_grown HR9.out (only_set w9 (p := ⟨w3.heap.size, 2, none⟩) (.slice A3 (m + 1 + q + 1) c3)) (fun e => by injection e with e; dsimp only at e; omega))
                  have hs12 : wb ≤ (w9.setCell ⟨w3.heap.size, 2, none⟩ (.slice A3 (m + 1 + q + 1) c3)).heap.size := by have := hg9.size; simp at this ⊢; omega
                  clear d2 d4 d5 e2 e5
                  go_wp2
                  go_roundw
                  case rel => exact ⟨k, q + 1, A3, c3, L ++ [y], by omega, by go_num, HMF, HOF, HZ9, HRF, hs12⟩
                  case measure => simp [intOf] <;> omega
end Go.Proofs.YthffeljicohpdaaGreatDoor
/- The walks through draws of rows and of rung rows. -/
namespace Go.Proofs.YthffeljicohpdaaGreatDoor
set_option linter.unusedVariables false
set_option linter.unusedSimpArgs false
open Go.ChangeShapes Go.WideShapes Go.ChangeAt Go.RowKit Go.Deep
theorem flatMap_pre {α : Type} {e : α → List Value} {s : Nat} (he : ∀ x, (e x).length = s) : ∀ (l : List α) (m : Nat), (l.flatMap e).take (m * s) = (l.take m).flatMap e
  | [], m => by simp
  | y :: l, 0 => by simp
  | y :: l, m + 1 => by
    rw [List.take_succ_cons, List.flatMap_cons, List.flatMap_cons, List.take_append, he, Nat.succ_mul, show m * s + s - s = m * s by omega, flatMap_pre he l m, List.take_of_length_le (by rw [he]; omega)]
theorem Owned.pre {α : Type} {e : α → List Value} {s : Nat} {E : TypeId} {w : World} {base n c m : Nat} {A : Option Addr} {l : List α} (h : Owned e s E w base A n c l) (hm : m ≤ n) : Owned e s E w base A m c (l.take m) := by
  refine ⟨h.1, by rw [List.length_take, h.2.1]; omega, by rw [flatMap_len h.1, List.length_take, h.2.1, Nat.min_eq_left hm], ?_⟩
  rcases h.2.2.2 with ⟨h1, h2⟩ | ⟨g, cap, cur, hv, hb, hh, hnc, hcm, hsz, ht⟩
  · injection h1 with e1 e2 e3
    subst e1 e3
    obtain rfl : m = 0 := by omega
    exact .inl ⟨rfl, rfl⟩
  · injection hv with e1 e2 e3
    subst e1 e3
    refine .inr ⟨g, c, cur, rfl, hb, hh, by omega, hcm, hsz, ?_⟩
    rw [← flatMap_pre h.1 l m, ← ht, List.take_take, Nat.min_eq_left (Nat.mul_le_mul_right _ hm)]
/-- At most 8 bytes, all digits. -/
def digS (s : ByteArray) : Prop := s.size ≤ 8 ∧ ∀ k, k < s.size → 48 ≤ PlainAid.bt s k ∧ PlainAid.bt s k ≤ 57
theorem rowN_dig {n : Nat} {s : ByteArray} (h : RowN n s) : digS s := by
  have h1 := h.st
  have h2 := h.2
  refine ⟨by omega, fun k hk => ?_⟩
  have := row_at h.1 hk
  omega
theorem one_dig : digS ⟨#[49]⟩ := ⟨by decide, fun k hk => by
  have hk : k < 1 := hk
  obtain rfl : k = 0 := by omega
  exact ⟨by decide, by decide⟩⟩
set_option maxRecDepth 100000 in
theorem cur_row {A : Option Addr} {n c a p N : Nat} {w0 w : World} (hS : Src w0 A n) (hb : Below w0.heap.size w0 w) (hp : w0.heap.size ≤ p) (hc : Cur w p A n c a) (ha : a ≤ 10000000) (h3 : 3 ≤ N) (h8 : N ≤ 8) :
    Calls Tryz.prog 90 #[.pointer (some ⟨p, 0, none⟩), .int .i64 N] w fun e w' => ∃ r, e = .returned (.string r) ∧ RowN N r ∧ Cur w' p A n c (a + 2) ∧ w.grownBy w' (some p) := by
  have hf := fact_le8 h8
  have hfp := fact_pos N
  go_in
  go_wp2_with (go_at_call 101; refine (spec_l1Fact h8).mono ?_; rintro e w' ⟨rfl, rfl⟩)
  refine (cur_pickL hS hb hp hc ha (by omega) (by omega)).mono ?_; rintro e w1 ⟨x, rfl, ⟨x0, x1⟩, hc1, hg1⟩
  obtain ⟨X, rfl⟩ := Int.eq_ofNat_of_zero_le x0
  have hX : X < fact N := by omega
  clear x0 x1
  go_wp2_with fail
  refine (spec_RowOf h3 h8 hX).mono ?_; rintro e w2 ⟨r, rfl, hr, hb2⟩
  go_wp2
  go_ret
  exact ⟨r, rfl, hr, hc1.up hb2, grownBy_trans hg1 (grown_any hb2 _)⟩
set_option maxHeartbeats 1000000 in
set_option maxRecDepth 100000 in
theorem cur_rowsOf {A : Option Addr} {n c a p N M : Nat} {w0 w : World} (hS : Src w0 A n) (hb : Below w0.heap.size w0 w) (hp : w0.heap.size ≤ p) (hc : Cur w p A n c a) (ha : a ≤ 1000000) (h3 : 3 ≤ N) (h8 : N ≤ 8) (hM : M ≤ 20) :
    Calls Tryz.prog 75 #[.pointer (some ⟨p, 0, none⟩), .int .i64 N, .int .i64 M] w fun e w' => ∃ A' m c' L, e = .returned (.slice A' m c') ∧ m ≤ M ∧ (∀ s ∈ L, digS s) ∧ Owned strE 1 9 w' w.heap.size A' m c' L ∧ Cur w' p A n c (a + 50) ∧ w.grownBy w' (some p) := by
  have hpw := hc.lt
  have G : Hid (∀ u : World, w.grownBy u (some p) → Below w0.heap.size w0 u) := Lib.hid (fun u hg => grown_below hb hp hg)
  have HS := Lib.hid hS
  go_in
  go_wp2_with fail
  refine (cur_pick hS hb hp hc (by omega) (by omega) (by omega)).mono ?_; rintro e w1 ⟨x, rfl, ⟨x0, x1⟩, hc1, hg1⟩
  obtain ⟨X, rfl⟩ := Int.eq_ofNat_of_zero_le x0
  have hX : X ≤ M := by omega
  have HC1 := Lib.hid hc1
  have HG1 := Lib.hid hg1
  clear x0 x1 hb hc hS hc1 hg1
  go_wp2
  go_loopw [7, 8] (fun v i wr => ∃ (k m : Nat) (A' : Option Addr) (c' : Nat) (L : List ByteArray), k ≤ X ∧ i = .int .i64 k ∧ v = .slice A' m c' ∧ m + k ≤ X ∧ Hid (∀ s ∈ L, digS s) ∧ Hid (Owned strE 1 9 wr w.heap.size A' m c' L) ∧ Hid (Cur wr p A n c (a + 1 + 2 * (X - k))) ∧ Hid (w.grownBy wr (some p))) (fun _ i _ => (intOf i).toNat)
  case atStart => exact ⟨X, 0, none, 0, [], Nat.le_refl _, rfl, rfl, by omega, Lib.hid (fun s hs => by cases hs), Lib.hid (Owned.nil strE_len _ _ _), Lib.hid (HC1.out.mono (by omega)), HG1⟩
  case round =>
    obtain ⟨k, m, A2, c2, L, hk, rfl, rfl, hmk, HZ, HO, HC, HG⟩ := hrel
    rename World => wr
    have hsr := HG.out.size
    by_cases h0 : 0 < k
    · have hI : (0 : Int) < (k : Int) := by omega
      go_wp2_with fail
      refine (cur_row HS.out (G.out _ HG.out) hp HC.out (by omega) h3 h8).mono ?_; rintro e w4 ⟨y, rfl, hy, hc4, hg4⟩
      have HO4 := Lib.hid (HO.out.past hg4 hpw)
      have HC4 := Lib.hid hc4
      have HG4 := Lib.hid (grownBy_trans HG.out hg4)
      have hs4 := HG4.out.size
      have HY := Lib.hid (rowN_dig hy)
      clear hc4 hg4 hy
      go_wp2_with (first | (at_builtin; go_must ((refine wpList_append_recs Tryz.elStr strE_one rfl (.tmp 17) (.tmp 21) rfl rfl (HO4.out.alloc _) rfl (own_lit1_at' strE_len _ 9 y rfl (Nat.le_refl _)).recs rfl ?_ (by decide) ?_ ?_; (focus (first | omega | (simp only [World.size_alloc]; done) | (simp only [World.size_alloc]; omega) | (simp; done) | (simp; omega))); (simp; omega); intro A3 c3 w6 ho6 hg6 hl6; have HO6 := Lib.hid ho6; have HC6 := Lib.hid ((HC4.out.up ((Below.refl _ _).alloc (Nat.le_refl _) _)).grown hg6 (fun e => by have := (HO4.out.blk e.symm).1; omega)); have HG6 := Lib.hid (grow_own (grownBy_trans HG4.out (World.grownBy_alloc _ _ _)) hg6 (fun k hk => (HO4.out.blk hk).1)); clear ho6 hg6 hl6))))
      go_roundw
      case rel => exact ⟨k - 1, m + 1, A3, c3, L ++ [y], by omega, by go_num, rfl, by omega, Lib.hid (fun s hs => by
          rcases List.mem_append.1 hs with hs | hs
          · exact HZ.out s hs
          · rw [List.mem_singleton.1 hs]; exact HY.out), HO6, Lib.hid (HC6.out.mono (by omega)), HG6⟩
      case measure => simp [intOf]; omega
    · obtain rfl : k = 0 := by omega
      by_cases hm0 : 0 < m
      · have hI : (0 : Int) < (m : Int) := by omega
        have hL2 := HO.out.len
        go_wp2_with fail
        refine (cur_one HS.out (G.out _ HG.out) hp HC.out (by omega) (by decide) (by decide)).mono ?_; rintro e w4 ⟨b, rfl, hc4, hg4⟩
        have HO4 := Lib.hid (HO.out.past hg4 hpw)
        have HC4 := Lib.hid hc4
        have HG4 := Lib.hid (grownBy_trans HG.out hg4)
        clear hc4 hg4
        rcases b
        · go_wp2
          go_ret
          exact ⟨_, _, _, L, rfl, by omega, HZ.out, HO4.out, HC4.out.mono (by omega), HG4.out⟩
        · obtain ⟨f, rfl, f0, f1, fc, ff⟩ := HO4.out.at_ (by omega)
          obtain ⟨y, hy⟩ := some_of_lt (l := L) (k := 0) (by omega)
          have cf := fc 0 y 0 _ hy rfl
          have zf := ff 0
          simp only [Nat.mul_one, Nat.add_zero, Nat.zero_mul] at cf
          have pt := HO4.out.put (k := 0) (j := 0) (x := ⟨#[49]⟩) (u := .string ⟨#[49]⟩) hy (by decide) rfl
          simp only [Nat.mul_one, Nat.add_zero, Nat.zero_mul] at pt
          have HPT := Lib.hid pt
          clear fc ff hy pt
          go_wp2
          go_ret
          exact ⟨_, _, _, L.set 0 ⟨#[49]⟩, rfl, by omega, fun s hs => by
            rcases List.mem_or_eq_of_mem_set hs with hs | hs
            · exact HZ.out s hs
            · rw [hs]; exact one_dig, HPT.out.1, (HC4.out.grown HPT.out.2 (fun e => by injection e with e; omega)).mono (by omega), grow_own HG4.out HPT.out.2 (fun k e => by injection e with e; omega)⟩
      · have hI : ¬ (0 : Int) < (m : Int) := by omega
        obtain rfl : m = 0 := by omega
        go_wp2
        go_ret
        exact ⟨_, _, _, rfl, by omega, L, HZ.out, HO.out, HC.out.mono (by omega), HG.out⟩
set_option maxHeartbeats 4000000 in
set_option maxRecDepth 100000 in
theorem cur_rung {A : Option Addr} {n c a p : Nat} {w0 w : World} (hS : Src w0 A n) (hb : Below w0.heap.size w0 w) (hp : w0.heap.size ≤ p) (hc : Cur w p A n c a) (ha : a ≤ 900000) :
    Calls Tryz.prog 57 #[.pointer (some ⟨p, 0, none⟩)] w fun e w' => ∃ A' m c' L, e = .returned (.slice A' m c') ∧ m ≤ 400 ∧ (∀ s ∈ L, digS s) ∧ Owned strE 1 9 w' w.heap.size A' m c' L ∧ Cur w' p A n c (a + 200) ∧ w.grownBy w' (some p) := by
  have hpw := hc.lt
  have G : Hid (∀ u : World, w.grownBy u (some p) → Below w0.heap.size w0 u) := Lib.hid (fun u hg => grown_below hb hp hg)
  have HS := Lib.hid hS
  go_in
  go_wp2_with fail
  refine (cur_method hS hb hp hc (by omega)).mono ?_; rintro e w1 ⟨nm, st, A1, m1, c1, L1, rfl, hgm, h3, h6, hm12, ho1, hc1, hg1⟩
  have hgt := goodM_t hgm
  have hl1 := ho1.len
  have hm1 : 1 ≤ m1 := by omega
  have hsm : ∀ s ∈ L1, s.size ≤ 16777216 := fun s hs => by
    have := goodChange_small (allCh_mem hgt.2.2.2 s hs); omega
  have K1 := Blk.at_ w1 99 [.string nm, .int .i64 (st : Int), .slice A1 m1 c1] (b := w1.heap.size) rfl
  have a1 : Below w1.heap.size w1 (w1.alloc (.cells #[.string nm, .int .i64 (st : Int), .slice A1 m1 c1] 99)) := by (repeat' (first | (with_reducible exact Below.refl _ _) | (with_reducible assumption) | (with_reducible refine below_drewN ?_ _) | (with_reducible refine Below.drew ?_) | (with_reducible refine below_alloc ?_ _) | (with_reducible refine Below.alloc ?_ ?_ _) | (with_reducible refine Below.setCell ?_ ?_ _) | (with_reducible refine below_go ?_ (by with_reducible assumption)) | (with_reducible refine below_then (by with_reducible assumption) ?_ ?_) | go_size))
  have HL1 := Lib.hid hl1
  have HM := Lib.hid hsm
  have HO1 := Lib.hid (ho1.up a1)
  have HC1 := Lib.hid (hc1.up a1)
  have HG1 := Lib.hid (grownBy_trans hg1 (grown_any a1 _))
  have s1 := hg1.size
  clear hgm hgt hl1 hsm ho1 hc1 hg1 hc hS hb
  go_wp2_with fail
  obtain ⟨w2, hw2⟩ : ∃ u, u = w1.alloc (.cells #[.string nm, .int .i64 (st : Int), .slice A1 m1 c1] 99) := ⟨_, rfl⟩
  have z2 : w2.heap.size = w1.heap.size + 1 := by rw [hw2]; simp
  rw [← hw2] at K1 HO1 HC1 HG1 ⊢
  clear hw2 a1
  refine (spec_l4Course HL1.out HO1.out.recs hm12 hm1 HM.out h3 h6).mono ?_; rintro e w3 ⟨A3, m3, c3, L3, rfl, hm3, hm3', HR3, ho3, hb3⟩
  have KK := Lib.hid (K1.up hb3)
  have HC3 := Lib.hid (HC1.out.up hb3)
  have HG3 := Lib.hid (grownBy_trans HG1.out (grown_any hb3 _))
  have HO3 := Lib.hid ho3
  have HZ3 : Hid (∀ s ∈ L3, digS s) := Lib.hid (fun s hs => rowN_dig (HR3.out s hs))
  have hcap := ho3.cap.1
  have s3 := hb3.size
  obtain ⟨g3, rfl, g3lo, _⟩ := ho3.at_ (by omega)
  clear K1 HO1 HC1 HG1 ho3 hb3 HR3
  by_cases h200 : 200 < m3
  · have hI : (200 : Int) < (m3 : Int) := by omega
    have hI2 : (200 : Int) ≤ (c3 : Int) := by omega
    have HOP := Lib.hid (HO3.out.pre (m := 200) (by omega))
    have HZP : Hid (∀ s ∈ L3.take 200, digS s) := Lib.hid (fun s hs => HZ3.out s (List.mem_of_mem_take hs))
    obtain ⟨LP, hLP⟩ : ∃ LP, LP = L3.take 200 := ⟨_, rfl⟩
    rw [← hLP] at HOP HZP
    clear hLP HO3 HZ3
    go_wp2_with fail
    refine (cur_pick HS.out (G.out _ HG3.out) hp HC3.out (by omega) (by omega) (by omega)).mono ?_; rintro e w5 ⟨x, rfl, ⟨x0, x1⟩, hc5, hg5⟩
    obtain ⟨X, rfl⟩ := Int.eq_ofNat_of_zero_le x0
    have hX : X ≤ 5 := by omega
    have HO5 := Lib.hid (HOP.out.past hg5 (by omega))
    have HC5 := Lib.hid hc5
    have HG5 := Lib.hid (grownBy_trans HG3.out hg5)
    have HK5 := Lib.hid (KK.out.grown hg5 (fun e => by injection e with e; omega))
    have s5 := HG5.out.size
    clear x0 x1 hc5 hg5 HOP HC3 HG3 KK
    by_cases X0 : X = 0
    · subst X0
      go_wp2_with fail
      refine (spec_l1OwnS HO5.out.len HO5.out.recs (by omega)).mono ?_; rintro e w6 ⟨A6, c6, rfl, ho6, hb6⟩
      have HO6 := Lib.hid ho6
      have HR6 := Lib.hid (HO5.out.recs.up hb6)
      have HC6 := Lib.hid (HC5.out.up hb6)
      have HG6 := Lib.hid (grownBy_trans HG5.out (grown_any hb6 _))
      have hlen := Lib.hid HO5.out.len
      have s6 := hb6.size
      clear ho6 hb6
      go_wp2_with (first | (at_builtin; go_must ((refine wpList_append_recs Tryz.elStr strE_one rfl (.tmp 19) (.tmp 20) rfl rfl HO6.out rfl HR6.out hlen.out ?_ (by decide) ?_ ?_; (focus (first | omega | (simp only [World.size_alloc]; done) | (simp only [World.size_alloc]; omega) | (simp; done) | (simp; omega))); omega; intro A7 c7 w7 ho7 hg7 hl7; have HO7 := Lib.hid ho7; have HC7 := Lib.hid (HC6.out.grown hg7 (fun e => by have := (HO6.out.blk e.symm).1; omega)); have HG7 := Lib.hid (grow_own HG6.out hg7 (fun k hk => by have := (HO6.out.blk hk).1; omega)); clear ho7 hg7 hl7))))
      go_ret
      exact ⟨_, _, _, LP ++ LP, rfl, by omega, fun s hs => by
        rcases List.mem_append.1 hs with hs | hs
        · exact HZP.out s hs
        · exact HZP.out s hs, HO7.out.base_le (by omega), HC7.out.mono (by omega), HG7.out⟩
    · have X0I : ¬ (X : Int) = 0 := by omega
      by_cases X1 : X = 1
      · subst X1
        go_wp2_with fail
        refine (cur_pick HS.out (G.out _ HG5.out) hp HC5.out (by omega) (by omega) (by omega)).mono ?_; rintro e w6 ⟨y, rfl, ⟨y0, y1⟩, hc6, hg6⟩
        obtain ⟨Y, rfl⟩ := Int.eq_ofNat_of_zero_le y0
        have hY : 1 + Y ≤ 200 := by omega
        have hYc : (1 : Int) + (Y : Int) ≤ (c3 : Int) := by omega
        have hY0 : (0 : Int) ≤ (1 : Int) + (Y : Int) := by omega
        have HO6 := Lib.hid ((HO5.out.past hg6 (by omega)).pre hY)
        have HC6 := Lib.hid hc6
        have HG6 := Lib.hid (grownBy_trans HG5.out hg6)
        clear y0 y1 hc6 hg6
        go_wp2
        go_ret
        exact ⟨_, 1 + Y, _, LP.take (1 + Y), rfl, by omega, fun s hs => HZP.out s (List.mem_of_mem_take hs), HO6.out.base_le (by omega), HC6.out.mono (by omega), HG6.out⟩
      · have X1I : ¬ (X : Int) = 1 := by omega
        by_cases X2 : X = 2
        · subst X2
          have k1 := HK5.out.cell 1
          simp only [List.getElem?_cons_zero, List.getElem?_cons_succ] at k1
          go_wp2_with fail
          refine (cur_rowsOf (N := st) (M := 8) HS.out (G.out _ HG5.out) hp HC5.out (by omega) h3 (by omega) (by omega)).mono ?_; rintro e w6 ⟨A6, m6, c6, L6, rfl, hm6, hz6, ho6, hc6, hg6⟩
          go_wp2
          go_ret
          exact ⟨_, m6, _, L6, rfl, by omega, hz6, ho6.base_le (by omega), hc6.mono (by omega), grownBy_trans HG5.out hg6⟩
        · have X2I : ¬ (X : Int) = 2 := by omega
          go_wp2
          go_ret
          exact ⟨_, _, _, LP, rfl, by omega, HZP.out, HO5.out.base_le (by omega), HC5.out.mono (by omega), HG5.out⟩
  · have hI : ¬ (200 : Int) < (m3 : Int) := by omega
    have HOP := HO3
    have HZP := HZ3
    obtain ⟨LP, hLP⟩ : ∃ LP, LP = L3 := ⟨_, rfl⟩
    rw [← hLP] at HOP HZP
    clear hLP HO3 HZ3
    go_wp2_with fail
    refine (cur_pick HS.out (G.out _ HG3.out) hp HC3.out (by omega) (by omega) (by omega)).mono ?_; rintro e w5 ⟨x, rfl, ⟨x0, x1⟩, hc5, hg5⟩
    obtain ⟨X, rfl⟩ := Int.eq_ofNat_of_zero_le x0
    have hX : X ≤ 5 := by omega
    have HO5 := Lib.hid (HOP.out.past hg5 (by omega))
    have HC5 := Lib.hid hc5
    have HG5 := Lib.hid (grownBy_trans HG3.out hg5)
    have HK5 := Lib.hid (KK.out.grown hg5 (fun e => by injection e with e; omega))
    have s5 := HG5.out.size
    clear x0 x1 hc5 hg5 HOP HC3 HG3 KK
    by_cases X0 : X = 0
    · subst X0
      go_wp2_with fail
      refine (spec_l1OwnS HO5.out.len HO5.out.recs (by omega)).mono ?_; rintro e w6 ⟨A6, c6, rfl, ho6, hb6⟩
      have HO6 := Lib.hid ho6
      have HR6 := Lib.hid (HO5.out.recs.up hb6)
      have HC6 := Lib.hid (HC5.out.up hb6)
      have HG6 := Lib.hid (grownBy_trans HG5.out (grown_any hb6 _))
      have hlen := Lib.hid HO5.out.len
      have s6 := hb6.size
      clear ho6 hb6
      go_wp2_with (first | (at_builtin; go_must ((refine wpList_append_recs Tryz.elStr strE_one rfl (.tmp 19) (.tmp 20) rfl rfl HO6.out rfl HR6.out hlen.out ?_ (by decide) ?_ ?_; (focus (first | omega | (simp only [World.size_alloc]; done) | (simp only [World.size_alloc]; omega) | (simp; done) | (simp; omega))); omega; intro A7 c7 w7 ho7 hg7 hl7; have HO7 := Lib.hid ho7; have HC7 := Lib.hid (HC6.out.grown hg7 (fun e => by have := (HO6.out.blk e.symm).1; omega)); have HG7 := Lib.hid (grow_own HG6.out hg7 (fun k hk => by have := (HO6.out.blk hk).1; omega)); clear ho7 hg7 hl7))))
      go_ret
      exact ⟨_, _, _, LP ++ LP, rfl, by omega, fun s hs => by
        rcases List.mem_append.1 hs with hs | hs
        · exact HZP.out s hs
        · exact HZP.out s hs, HO7.out.base_le (by omega), HC7.out.mono (by omega), HG7.out⟩
    · have X0I : ¬ (X : Int) = 0 := by omega
      by_cases X1 : X = 1
      · subst X1
        go_wp2_with fail
        refine (cur_pick HS.out (G.out _ HG5.out) hp HC5.out (by omega) (by omega) (by omega)).mono ?_; rintro e w6 ⟨y, rfl, ⟨y0, y1⟩, hc6, hg6⟩
        obtain ⟨Y, rfl⟩ := Int.eq_ofNat_of_zero_le y0
        have hY : 1 + Y ≤ m3 := by omega
        have hYc : (1 : Int) + (Y : Int) ≤ (c3 : Int) := by omega
        have hY0 : (0 : Int) ≤ (1 : Int) + (Y : Int) := by omega
        have HO6 := Lib.hid ((HO5.out.past hg6 (by omega)).pre hY)
        have HC6 := Lib.hid hc6
        have HG6 := Lib.hid (grownBy_trans HG5.out hg6)
        clear y0 y1 hc6 hg6
        go_wp2
        go_ret
        exact ⟨_, 1 + Y, _, LP.take (1 + Y), rfl, by omega, fun s hs => HZP.out s (List.mem_of_mem_take hs), HO6.out.base_le (by omega), HC6.out.mono (by omega), HG6.out⟩
      · have X1I : ¬ (X : Int) = 1 := by omega
        by_cases X2 : X = 2
        · subst X2
          have k1 := HK5.out.cell 1
          simp only [List.getElem?_cons_zero, List.getElem?_cons_succ] at k1
          go_wp2_with fail
          refine (cur_rowsOf (N := st) (M := 8) HS.out (G.out _ HG5.out) hp HC5.out (by omega) h3 (by omega) (by omega)).mono ?_; rintro e w6 ⟨A6, m6, c6, L6, rfl, hm6, hz6, ho6, hc6, hg6⟩
          go_wp2
          go_ret
          exact ⟨_, m6, _, L6, rfl, by omega, hz6, ho6.base_le (by omega), hc6.mono (by omega), grownBy_trans HG5.out hg6⟩
        · have X2I : ¬ (X : Int) = 2 := by omega
          go_wp2
          go_ret
          exact ⟨_, _, _, LP, rfl, by omega, HZP.out, HO5.out.base_le (by omega), HC5.out.mono (by omega), HG5.out⟩
set_option maxHeartbeats 1000000 in
set_option maxRecDepth 100000 in
theorem cur_rungFew {A : Option Addr} {n c a p : Nat} {w0 w : World} (hS : Src w0 A n) (hb : Below w0.heap.size w0 w) (hp : w0.heap.size ≤ p) (hc : Cur w p A n c a) (ha : a ≤ 900000) :
    Calls Tryz.prog 47 #[.pointer (some ⟨p, 0, none⟩)] w fun e w' => ∃ A' m c' L, e = .returned (.slice A' m c') ∧ m ≤ 12 ∧ (∀ s ∈ L, digS s) ∧ Owned strE 1 9 w' w.heap.size A' m c' L ∧ Cur w' p A n c (a + 200) ∧ w.grownBy w' (some p) := by
  go_in
  go_wp2_with fail
  refine (cur_rung hS hb hp hc ha).mono ?_; rintro e w1 ⟨A1, m1, c1, L1, rfl, hm, hz, ho, hc1, hg1⟩
  by_cases h12 : 12 < m1
  · have hI : (12 : Int) < (m1 : Int) := by omega
    have hcap := ho.cap.1
    have hI2 : (12 : Int) ≤ (c1 : Int) := by omega
    obtain ⟨g3, rfl, g3lo, _⟩ := ho.at_ (by omega)
    go_wp2
    go_ret
    exact ⟨_, 12, _, L1.take 12, rfl, Nat.le_refl _, fun s hs => hz s (List.mem_of_mem_take hs), ho.pre (by omega), hc1, hg1⟩
  · have hI : ¬ (12 : Int) < (m1 : Int) := by omega
    go_wp2
    go_ret
    exact ⟨_, m1, _, L1, rfl, by omega, hz, ho, hc1, hg1⟩
end Go.Proofs.YthffeljicohpdaaGreatDoor
/- The ideal strikes of rows, as plain functions on lists. -/
namespace Go.Proofs.YthffeljicohpdaaGreatDoor
set_option linter.unusedVariables false
set_option linter.unusedSimpArgs false
theorem goodRow_dig {s : ByteArray} (h : goodRow s = true) {k : Nat} (hk : k < s.size) : 1 ≤ dg s k ∧ dg s k ≤ s.size := by
  have hn := goodRow_n h
  have h1 : inB s.size 3 8 = true := by rw [inB, decide_eq_true_iff]; omega
  rw [goodRow_all h1, List.all_eq_true] at h
  have := h k (List.mem_range.2 hk)
  rw [okDig, Bool.and_eq_true] at this
  exact inB_t this.1
/-- The strikes of the first p places of row number k. -/
def rowStr (x y z : Int) (r : ByteArray) (k p : Nat) : List (Int × Int) := (List.range p).map fun q => (dg r q, blowAtZ x y z r.size k ((q : Int) + 1))
theorem rowStr_succ (x y z : Int) (r : ByteArray) (k p : Nat) : rowStr x y z r k (p + 1) = rowStr x y z r k p ++ [(dg r p, blowAtZ x y z r.size k ((p : Int) + 1))] := by
  simp [rowStr, List.range_succ]
/-- The strikes of the first k rows. -/
def idl (x y z : Int) (l : List ByteArray) : Nat → List (Int × Int)
  | 0 => []
  | k + 1 => idl x y z l k ++ rowStr x y z (l.getD k ByteArray.empty) k (l.getD k ByteArray.empty).size
theorem idl_zero (x y z : Int) (l : List ByteArray) : idl x y z l 0 = [] := rfl
theorem idl_succ {x y z : Int} {l : List ByteArray} {k : Nat} {r : ByteArray} (h : l[k]? = some r) : idl x y z l (k + 1) = idl x y z l k ++ rowStr x y z r k r.size := by
  rw [idl, List.getD, h]; rfl
theorem idl_len {x y z : Int} {l : List ByteArray} (h : ∀ s ∈ l, s.size ≤ 8) : ∀ k, k ≤ l.length → (idl x y z l k).length ≤ 8 * k
  | 0, _ => by simp [idl]
  | k + 1, hk => by
    obtain ⟨r, hr⟩ := some_of_lt (l := l) (k := k) (by omega)
    have h1 := idl_len (x := x) (y := y) (z := z) h k (by omega)
    have h2 := h r (List.mem_of_getElem? hr)
    rw [idl_succ hr, List.length_append]
    simp only [rowStr, List.length_map, List.length_range]
    omega
def idlOk (x y z : Int) (l : List ByteArray) : Bool := goodBeatB x y z && (goodRows l && goodStrikes (idl x y z l l.length))
def idlR (x y z : Int) (l : List ByteArray) : List (Int × Int) := if idlOk x y z l = true then idl x y z l l.length else []
theorem idlR_t {x y z : Int} {l : List ByteArray} (h : idlOk x y z l = true) : idlR x y z l = idl x y z l l.length := by rw [idlR, if_pos h]
theorem idlR_f {x y z : Int} {l : List ByteArray} (h : idlOk x y z l = false) : idlR x y z l = [] := by rw [idlR, if_neg (by rw [h]; simp)]
end Go.Proofs.YthffeljicohpdaaGreatDoor
/- What the check of blows computes, as plain functions on lists. -/
namespace Go.Proofs.YthffeljicohpdaaGreatDoor
set_option linter.unusedVariables false
set_option linter.unusedSimpArgs false
abbrev Blow3 := Int × Int × Int
def sameAt (x y : Blow3) : Bool := x.1 == y.1 && x.2.1 == y.2.1
def inBlow (n : Int) (x : Blow3) : Bool := inB x.1 0 800 && inB x.2.1 1 n && inB x.2.2 0 1000000
def okB (n : Int) (l : List Blow3) (k : Nat) : Bool := inBlow n (l.getD k (0, 0, 0)) && !((l.take k).any (sameAt (l.getD k (0, 0, 0))))
def goodBlows (n : Int) (l : List Blow3) : Bool := (List.range l.length).all (okB n l) && (inB n 3 8 && decide (l.length ≤ 400))
theorem okB_out {n : Int} {l : List Blow3} {k : Nat} {x : Blow3} (h : l[k]? = some x) (hx : inBlow n x = false) : okB n l k = false := by
  simp [okB, List.getD, h, hx]
theorem okB_twice {n : Int} {l : List Blow3} {k : Nat} {x : Blow3} (h : l[k]? = some x) (hx : (l.take k).any (sameAt x) = true) : okB n l k = false := by
  simp only [okB, List.getD, h, Option.getD_some, hx]; simp
theorem okB_t {n : Int} {l : List Blow3} {k : Nat} {x : Blow3} (h : l[k]? = some x) (h1 : inBlow n x = true) (hx : (l.take k).any (sameAt x) = false) : okB n l k = true := by
  simp only [okB, List.getD, h, Option.getD_some, h1, hx]; rfl
theorem goodBlows_t {n : Int} {l : List Blow3} (h : goodBlows n l = true) : (3 ≤ n ∧ n ≤ 8) ∧ l.length ≤ 400 ∧ ∀ x ∈ l, (0 ≤ x.1 ∧ x.1 ≤ 800) ∧ (1 ≤ x.2.1 ∧ x.2.1 ≤ n) ∧ 0 ≤ x.2.2 ∧ x.2.2 ≤ 1000000 := by
  simp only [goodBlows, Bool.and_eq_true, decide_eq_true_eq, List.all_eq_true, List.mem_range] at h
  refine ⟨inB_t h.2.1, h.2.2, fun x hx => ?_⟩
  obtain ⟨j, hj, e⟩ := List.getElem_of_mem hx
  have h1 := h.1 j hj
  simp only [okB, Bool.and_eq_true] at h1
  have e1 : l.getD j (0, 0, 0) = x := by rw [List.getD_eq_getElem?_getD, List.getElem?_eq_getElem hj, e]; rfl
  rw [e1] at h1
  have h2 := h1.1
  simp only [inBlow, Bool.and_eq_true] at h2
  exact ⟨inB_t h2.1.1, inB_t h2.1.2, inB_t h2.2⟩
theorem any_take_succ {l : List Blow3} {k : Nat} {x y : Blow3} (h : l[k]? = some y) : (l.take (k + 1)).any (sameAt x) = ((l.take k).any (sameAt x) || sameAt x y) := by
  rw [take_succ_some h]; simp
def pairV (x : Blow3) : Value := .agg #[.int .i64 x.1, .int .i64 x.2.1]
theorem pairV_same {x y : Blow3} : pairV x = pairV y ↔ sameAt x y = true := by
  simp [pairV, sameAt]
def keysB (l : List Blow3) (k : Nat) : List Value := ((l.take k).map pairV).reverse
theorem keysB_succ {l : List Blow3} {k : Nat} {x : Blow3} (h : l[k]? = some x) : keysB l (k + 1) = pairV x :: keysB l k := by
  rw [keysB, take_succ_some h]; simp [keysB]
theorem keysB_mem {l : List Blow3} {k : Nat} {x : Blow3} : pairV x ∈ keysB l k ↔ (l.take k).any (sameAt x) = true := by
  rw [keysB, List.mem_reverse, List.mem_map, List.any_eq_true]
  constructor
  · rintro ⟨y, hy, e⟩
    exact ⟨y, hy, pairV_same.1 e.symm⟩
  · rintro ⟨y, hy, e⟩
    exact ⟨y, hy, (pairV_same.2 e).symm⟩
/-- The errors of blows. -/
def errAt (n x y z : Int) (b : Blow3) : Int := b.2.2 - blowAtZ x y z n b.1 b.2.1
def errOk (n : Int) (l : List Blow3) (x y z : Int) : Bool := goodBlows n l && goodBeatB x y z
def errR (n : Int) (l : List Blow3) (x y z : Int) : List Int := if errOk n l x y z = true then l.map (errAt n x y z) else []
theorem errR_t {n : Int} {l : List Blow3} {x y z : Int} (h : errOk n l x y z = true) : errR n l x y z = l.map (errAt n x y z) := by rw [errR, if_pos h]
theorem errR_f {n : Int} {l : List Blow3} {x y z : Int} (h : errOk n l x y z = false) : errR n l x y z = [] := by rw [errR, if_neg (by rw [h]; simp)]
end Go.Proofs.YthffeljicohpdaaGreatDoor
/- The walks through the check of blows, both sides. -/
namespace Go.Proofs.YthffeljicohpdaaGreatDoor
set_option linter.unusedVariables false
set_option linter.unusedSimpArgs false
open Go.ChangeShapes Go.WideShapes Go.ChangeAt Go.RowKit Go.Deep
open Go.Maps (Keyed)
end Go.Proofs.YthffeljicohpdaaGreatDoor
/- The walks through beats and lists of strikes, both sides, and the laws' own conversions of them. -/
namespace Go.Proofs.YthffeljicohpdaaGreatDoor
set_option linter.unusedVariables false
set_option linter.unusedSimpArgs false
open Go.ChangeShapes Go.WideShapes Go.ChangeAt Go.RowKit Go.Deep

/-! ### beats -/

/-! ### the time of a blow -/
theorem spec_l21Blow (x y z n r p : Int) (w : World) (hx : 0 ≤ x ∧ x ≤ 1000000) (hy : 1 ≤ y ∧ y ≤ 2000) (hz : 0 ≤ z ∧ z ≤ 2000) (hn : 1 ≤ n ∧ n ≤ 8) (hr : 0 ≤ r ∧ r ≤ 2000) (hp : 1 ≤ p ∧ p ≤ 8) :
    Calls Tryz.prog 71 #[.agg #[.int .i64 x, .int .i64 y, .int .i64 z], .int .i64 n, .int .i64 r, .int .i64 p] w fun e w' => e = .returned (.int .i64 (blowAtZ x y z n r p)) ∧ Below w.heap.size w w' := by
  obtain ⟨nr, hnr⟩ : ∃ t, t = n * r := ⟨_, rfl⟩
  have hnr0 : 0 ≤ nr := by rw [hnr]; exact Int.mul_nonneg (by omega) hr.1
  have hnr1 : nr ≤ 16000 := by rw [hnr]; exact Int.le_trans (Int.mul_le_mul hn.2 hr.2 hr.1 (by omega)) (by decide)
  obtain ⟨q, hq⟩ : ∃ t, t = y * (nr + p - 1) := ⟨_, rfl⟩
  have hq0 : 0 ≤ q := by rw [hq]; exact Int.mul_nonneg (by omega) (by omega)
  have hq1 : q ≤ 40000000 := by rw [hq]; exact Int.le_trans (Int.mul_le_mul hy.2 (show nr + p - 1 ≤ 20000 by omega) (by omega) (by omega)) (by decide)
  obtain ⟨s, hs⟩ : ∃ t, t = z * (r / 2) := ⟨_, rfl⟩
  have hs0 : 0 ≤ s := by rw [hs]; exact Int.mul_nonneg (by omega) (by omega)
  have hs1 : s ≤ 2000000 := by rw [hs]; exact Int.le_trans (Int.mul_le_mul hz.2 (show r / 2 ≤ 1000 by omega) (by omega) (by omega)) (by decide)
  have b1 : 0 ≤ n * r ∧ n * r ≤ 16000 := by rw [← hnr]; omega
  have b2 : 0 ≤ y * (n * r + p - 1) ∧ y * (n * r + p - 1) ≤ 40000000 := by rw [← hnr, ← hq]; omega
  have b3 : 0 ≤ z * (r / 2) ∧ z * (r / 2) ≤ 2000000 := by rw [← hs]; omega
  clear hq0 hq1 hq hs0 hs1 hs hnr0 hnr1 hnr q s nr
  go_in
  go_wp2
  go_ret
  exact ⟨rfl, by (repeat' (first | (with_reducible exact Below.refl _ _) | (with_reducible assumption) | (with_reducible refine below_drewN ?_ _) | (with_reducible refine Below.drew ?_) | (with_reducible refine below_alloc ?_ _) | (with_reducible refine Below.alloc ?_ ?_ _) | (with_reducible refine Below.setCell ?_ ?_ _) | (with_reducible refine below_go ?_ (by with_reducible assumption)) | (with_reducible refine below_then (by with_reducible assumption) ?_ ?_) | go_size))⟩

end Go.Proofs.YthffeljicohpdaaGreatDoor
/- The walks through the errors of blows, both sides. -/
namespace Go.Proofs.YthffeljicohpdaaGreatDoor
set_option linter.unusedVariables false
set_option linter.unusedSimpArgs false
open Go.ChangeShapes Go.WideShapes Go.ChangeAt Go.RowKit Go.Deep
theorem blowAtZ_bd {x y z n r p : Int} (hx : 0 ≤ x ∧ x ≤ 1000000) (hy : 1 ≤ y ∧ y ≤ 2000) (hz : 0 ≤ z ∧ z ≤ 2000) (hn : 3 ≤ n ∧ n ≤ 8) (hr : 0 ≤ r ∧ r ≤ 800) (hp : 1 ≤ p ∧ p ≤ 8) : 0 ≤ blowAtZ x y z n r p ∧ blowAtZ x y z n r p ≤ 100000000 := by
  obtain ⟨nr, hnr⟩ : ∃ t, t = n * r := ⟨_, rfl⟩
  have hnr0 : 0 ≤ nr := by rw [hnr]; exact Int.mul_nonneg (by omega) hr.1
  have hnr1 : nr ≤ 6400 := by rw [hnr]; exact Int.le_trans (Int.mul_le_mul hn.2 hr.2 hr.1 (by omega)) (by decide)
  have hq0 : 0 ≤ y * (nr + p - 1) := Int.mul_nonneg (by omega) (by omega)
  have hq1 : y * (nr + p - 1) ≤ 40000000 := Int.le_trans (Int.mul_le_mul hy.2 (show nr + p - 1 ≤ 20000 by omega) (by omega) (by omega)) (by decide)
  have hs0 : 0 ≤ z * (r / 2) := Int.mul_nonneg (by omega) (by omega)
  have hs1 : z * (r / 2) ≤ 2000000 := Int.le_trans (Int.mul_le_mul hz.2 (show r / 2 ≤ 1000 by omega) (by omega) (by omega)) (by decide)
  unfold blowAtZ
  rw [← hnr]
  omega
end Go.Proofs.YthffeljicohpdaaGreatDoor
/- The laws' own conversions of []impl.Strike: copying, comparing, counting, marking. -/
namespace Go.Proofs.YthffeljicohpdaaGreatDoor
set_option linter.unusedVariables false
set_option linter.unusedSimpArgs false
open Go.ChangeShapes Go.WideShapes Go.ChangeAt Go.RowKit Go.Deep
theorem Tryz.elStrike : ElemOk Tryz.prog 24 41 (.agg #[.int .i64 0, .int .i64 0]) 2 16 := ⟨Tryz.underlying24, by kernel_rfl, rfl, by decide⟩
/-- The marks that element j gets. -/
def markStrike (k0 : Int) (j : Nat) : (Int × Int) := (k0 + 2 * (j : Int), k0 + 2 * (j : Int) + 1)
end Go.Proofs.YthffeljicohpdaaGreatDoor
/- The walks through lists of strikes: the laws' own conversions and comparisons of them, the check on both sides. -/
namespace Go.Proofs.YthffeljicohpdaaGreatDoor
set_option linter.unusedVariables false
set_option linter.unusedSimpArgs false
open Go.ChangeShapes Go.WideShapes Go.ChangeAt Go.RowKit Go.Deep

set_option maxRecDepth 100000 in
theorem impl_GoodStrikes {A : Option Addr} {n c : Nat} {l : List (Int × Int)} {w : World} (hn : l.length = n) (h : Recs strikeE 2 w A l) (hz : n ≤ 16777216) :
    Calls Tryz.prog 8 #[.slice A n c] w fun e w' => e = .returned (.bool (goodStrikes l)) ∧ Below w.heap.size w w' := by
  subst hn
  have HG : Hid (goodStrikes l = ((List.range l.length).all (okStrike l) && decide (l.length ≤ 2000))) := rfl
  go_in
  go_wp2
  go_loopw [7] (fun i wr => ∃ k : Nat, k ≤ l.length ∧ i = .int .i64 k ∧ Hid (∀ j, j < k → okStrike l j = true) ∧ Below w.heap.size w wr) (fun i _ => l.length - (intOf i).toNat)
  case atStart => exact ⟨0, Nat.zero_le _, rfl, Lib.hid (fun j hj => absurd hj (by omega)), by (repeat' (first | (with_reducible exact Below.refl _ _) | (with_reducible assumption) | (with_reducible refine below_drewN ?_ _) | (with_reducible refine Below.drew ?_) | (with_reducible refine below_alloc ?_ _) | (with_reducible refine Below.alloc ?_ ?_ _) | (with_reducible refine Below.setCell ?_ ?_ _) | (with_reducible refine below_go ?_ (by with_reducible assumption)) | (with_reducible refine below_then (by with_reducible assumption) ?_ ?_) | go_size))⟩
  case round =>
    obtain ⟨k, hk, rfl, HK, hb⟩ := hrel
    by_cases hlt : k < l.length
    · obtain ⟨x, hx⟩ := some_of_lt hlt
      have hr := h.below hb (Nat.le_refl _)
      obtain ⟨b1, o1, rfl, hbb, hc1, hc2⟩ := hr.at_2 hx
      have HX := Lib.hid hx
      clear hx
      rcases h1 : inB x.1 1 8
      · clear h hr
        go_wp2
        go_quiet ((first | (go_at_call 24; exact quiet_left (impl_isBell _ _ _)) | (go_at_call 25; exact quiet_left (impl_within _ _ _ _))))
        go_wp2
        go_ret
        refine ⟨ret_bool ?_, by (repeat' (first | (with_reducible exact Below.refl _ _) | (with_reducible assumption) | (with_reducible refine below_drewN ?_ _) | (with_reducible refine Below.drew ?_) | (with_reducible refine below_alloc ?_ _) | (with_reducible refine Below.alloc ?_ ?_ _) | (with_reducible refine Below.setCell ?_ ?_ _) | (with_reducible refine below_go ?_ (by with_reducible assumption)) | (with_reducible refine below_then (by with_reducible assumption) ?_ ?_) | go_size))⟩
        rw [HG.out, all_bad hlt (okStrike_bell HX.out h1)]
      rcases h2 : inB x.2 0 1000000
      · clear h hr
        go_wp2
        go_quiet ((first | (go_at_call 24; exact quiet_left (impl_isBell _ _ _)) | (go_at_call 25; exact quiet_left (impl_within _ _ _ _))))
        go_wp2
        go_ret
        refine ⟨ret_bool ?_, by (repeat' (first | (with_reducible exact Below.refl _ _) | (with_reducible assumption) | (with_reducible refine below_drewN ?_ _) | (with_reducible refine Below.drew ?_) | (with_reducible refine below_alloc ?_ _) | (with_reducible refine Below.alloc ?_ ?_ _) | (with_reducible refine Below.setCell ?_ ?_ _) | (with_reducible refine below_go ?_ (by with_reducible assumption)) | (with_reducible refine below_then (by with_reducible assumption) ?_ ?_) | go_size))⟩
        rw [HG.out, all_bad hlt (okStrike_time HX.out h2)]
      by_cases hk0 : 0 < k
      · obtain ⟨y, hy⟩ := some_of_lt (l := l) (k := k - 1) (by omega)
        obtain ⟨b2, o2, e, _, hd1, hd2⟩ := hr.at_2 hy
        injection e with e
        injection e with e1 e2
        subst e1 e2
        have E : Hid _ := Lib.hid (okStrike_pos hk0 HX.out hy h1 h2)
        clear h hr hy
        by_cases hxy : x.2 < y.2
        · go_wp2
          go_quiet ((first | (go_at_call 24; exact quiet_left (impl_isBell _ _ _)) | (go_at_call 25; exact quiet_left (impl_within _ _ _ _))))
          go_wp2
          go_ret
          refine ⟨ret_bool ?_, by (repeat' (first | (with_reducible exact Below.refl _ _) | (with_reducible assumption) | (with_reducible refine below_drewN ?_ _) | (with_reducible refine Below.drew ?_) | (with_reducible refine below_alloc ?_ _) | (with_reducible refine Below.alloc ?_ ?_ _) | (with_reducible refine Below.setCell ?_ ?_ _) | (with_reducible refine below_go ?_ (by with_reducible assumption)) | (with_reducible refine below_then (by with_reducible assumption) ?_ ?_) | go_size))⟩
          rw [HG.out, all_bad hlt (by rw [E.out]; simp [hxy])]
        · go_wp2
          go_quiet ((first | (go_at_call 24; exact quiet_left (impl_isBell _ _ _)) | (go_at_call 25; exact quiet_left (impl_within _ _ _ _))))
          go_wp2
          go_roundw
          case rel => exact ⟨k + 1, by omega, by go_num, Lib.hid (upto_succ HK.out (by rw [E.out]; simp; omega)), by (repeat' (first | (with_reducible exact Below.refl _ _) | (with_reducible assumption) | (with_reducible refine below_drewN ?_ _) | (with_reducible refine Below.drew ?_) | (with_reducible refine below_alloc ?_ _) | (with_reducible refine Below.alloc ?_ ?_ _) | (with_reducible refine Below.setCell ?_ ?_ _) | (with_reducible refine below_go ?_ (by with_reducible assumption)) | (with_reducible refine below_then (by with_reducible assumption) ?_ ?_) | go_size))⟩
          case measure => simp [intOf]; omega
      · have E : Hid _ := Lib.hid (okStrike_zero hk0 HX.out h1 h2)
        have hk1 : decide ((0 : Int) < (k : Int)) = false := decide_eq_false (by omega)
        clear h hr
        go_wp2
        go_quiet ((first | (go_at_call 24; exact quiet_left (impl_isBell _ _ _)) | (go_at_call 25; exact quiet_left (impl_within _ _ _ _))))
        go_wp2
        go_roundw
        case rel => exact ⟨k + 1, by omega, by go_num, Lib.hid (upto_succ HK.out E.out), by (repeat' (first | (with_reducible exact Below.refl _ _) | (with_reducible assumption) | (with_reducible refine below_drewN ?_ _) | (with_reducible refine Below.drew ?_) | (with_reducible refine below_alloc ?_ _) | (with_reducible refine Below.alloc ?_ ?_ _) | (with_reducible refine Below.setCell ?_ ?_ _) | (with_reducible refine below_go ?_ (by with_reducible assumption)) | (with_reducible refine below_then (by with_reducible assumption) ?_ ?_) | go_size))⟩
        case measure => simp [intOf]; omega
    · go_wp2
      go_ret
      refine ⟨ret_bool ?_, by (repeat' (first | (with_reducible exact Below.refl _ _) | (with_reducible assumption) | (with_reducible refine below_drewN ?_ _) | (with_reducible refine Below.drew ?_) | (with_reducible refine below_alloc ?_ _) | (with_reducible refine Below.alloc ?_ ?_ _) | (with_reducible refine Below.setCell ?_ ?_ _) | (with_reducible refine below_go ?_ (by with_reducible assumption)) | (with_reducible refine below_then (by with_reducible assumption) ?_ ?_) | go_size))⟩
      rw [HG.out, all_good (fun j hj => HK.out j (by omega))]
      exact decide_eq_decide.2 (by omega)

set_option maxRecDepth 100000 in
theorem spec_l21Good {A : Option Addr} {n c : Nat} {l : List (Int × Int)} {w : World} (hn : l.length = n) (h : Recs strikeE 2 w A l) (hz : n ≤ 16777216) :
    Calls Tryz.prog 22 #[.slice A n c] w fun e w' => e = .returned (.bool (goodStrikes l)) ∧ Below w.heap.size w w' := by
  subst hn
  have HG : Hid (goodStrikes l = ((List.range l.length).all (okStrike l) && decide (l.length ≤ 2000))) := rfl
  go_in
  go_wp2
  go_loopw [7] (fun i wr => ∃ k : Nat, k ≤ l.length ∧ i = .int .i64 k ∧ Hid (∀ j, j < k → okStrike l j = true) ∧ Below w.heap.size w wr) (fun i _ => l.length - (intOf i).toNat)
  case atStart => exact ⟨0, Nat.zero_le _, rfl, Lib.hid (fun j hj => absurd hj (by omega)), by (repeat' (first | (with_reducible exact Below.refl _ _) | (with_reducible assumption) | (with_reducible refine below_drewN ?_ _) | (with_reducible refine Below.drew ?_) | (with_reducible refine below_alloc ?_ _) | (with_reducible refine Below.alloc ?_ ?_ _) | (with_reducible refine Below.setCell ?_ ?_ _) | (with_reducible refine below_go ?_ (by with_reducible assumption)) | (with_reducible refine below_then (by with_reducible assumption) ?_ ?_) | go_size))⟩
  case round =>
    obtain ⟨k, hk, rfl, HK, hb⟩ := hrel
    by_cases hlt : k < l.length
    · obtain ⟨x, hx⟩ := some_of_lt hlt
      have hr := h.below hb (Nat.le_refl _)
      obtain ⟨b1, o1, rfl, hbb, hc1, hc2⟩ := hr.at_2 hx
      have HX := Lib.hid hx
      clear hx
      rcases h1 : inB x.1 1 8
      · clear h hr
        go_wp2
        go_quiet ((go_at_call 39; exact quiet_left (spec_l1In _ _ _ _)))
        go_wp2
        go_ret
        refine ⟨ret_bool ?_, by (repeat' (first | (with_reducible exact Below.refl _ _) | (with_reducible assumption) | (with_reducible refine below_drewN ?_ _) | (with_reducible refine Below.drew ?_) | (with_reducible refine below_alloc ?_ _) | (with_reducible refine Below.alloc ?_ ?_ _) | (with_reducible refine Below.setCell ?_ ?_ _) | (with_reducible refine below_go ?_ (by with_reducible assumption)) | (with_reducible refine below_then (by with_reducible assumption) ?_ ?_) | go_size))⟩
        rw [HG.out, all_bad hlt (okStrike_bell HX.out h1)]
      rcases h2 : inB x.2 0 1000000
      · clear h hr
        go_wp2
        go_quiet ((go_at_call 39; exact quiet_left (spec_l1In _ _ _ _)))
        go_wp2
        go_ret
        refine ⟨ret_bool ?_, by (repeat' (first | (with_reducible exact Below.refl _ _) | (with_reducible assumption) | (with_reducible refine below_drewN ?_ _) | (with_reducible refine Below.drew ?_) | (with_reducible refine below_alloc ?_ _) | (with_reducible refine Below.alloc ?_ ?_ _) | (with_reducible refine Below.setCell ?_ ?_ _) | (with_reducible refine below_go ?_ (by with_reducible assumption)) | (with_reducible refine below_then (by with_reducible assumption) ?_ ?_) | go_size))⟩
        rw [HG.out, all_bad hlt (okStrike_time HX.out h2)]
      by_cases hk0 : 0 < k
      · obtain ⟨y, hy⟩ := some_of_lt (l := l) (k := k - 1) (by omega)
        obtain ⟨b2, o2, e, _, hd1, hd2⟩ := hr.at_2 hy
        injection e with e
        injection e with e1 e2
        subst e1 e2
        have E : Hid _ := Lib.hid (okStrike_pos hk0 HX.out hy h1 h2)
        clear h hr hy
        by_cases hxy : x.2 < y.2
        · go_wp2
          go_quiet ((go_at_call 39; exact quiet_left (spec_l1In _ _ _ _)))
          go_wp2
          go_ret
          refine ⟨ret_bool ?_, by (repeat' (first | (with_reducible exact Below.refl _ _) | (with_reducible assumption) | (with_reducible refine below_drewN ?_ _) | (with_reducible refine Below.drew ?_) | (with_reducible refine below_alloc ?_ _) | (with_reducible refine Below.alloc ?_ ?_ _) | (with_reducible refine Below.setCell ?_ ?_ _) | (with_reducible refine below_go ?_ (by with_reducible assumption)) | (with_reducible refine below_then (by with_reducible assumption) ?_ ?_) | go_size))⟩
          rw [HG.out, all_bad hlt (by rw [E.out]; simp [hxy])]
        · go_wp2
          go_quiet ((go_at_call 39; exact quiet_left (spec_l1In _ _ _ _)))
          go_wp2
          go_roundw
          case rel => exact ⟨k + 1, by omega, by go_num, Lib.hid (upto_succ HK.out (by rw [E.out]; simp; omega)), by (repeat' (first | (with_reducible exact Below.refl _ _) | (with_reducible assumption) | (with_reducible refine below_drewN ?_ _) | (with_reducible refine Below.drew ?_) | (with_reducible refine below_alloc ?_ _) | (with_reducible refine Below.alloc ?_ ?_ _) | (with_reducible refine Below.setCell ?_ ?_ _) | (with_reducible refine below_go ?_ (by with_reducible assumption)) | (with_reducible refine below_then (by with_reducible assumption) ?_ ?_) | go_size))⟩
          case measure => simp [intOf]; omega
      · have E : Hid _ := Lib.hid (okStrike_zero hk0 HX.out h1 h2)
        have hk1 : decide ((0 : Int) < (k : Int)) = false := decide_eq_false (by omega)
        clear h hr
        go_wp2
        go_quiet ((go_at_call 39; exact quiet_left (spec_l1In _ _ _ _)))
        go_wp2
        go_roundw
        case rel => exact ⟨k + 1, by omega, by go_num, Lib.hid (upto_succ HK.out E.out), by (repeat' (first | (with_reducible exact Below.refl _ _) | (with_reducible assumption) | (with_reducible refine below_drewN ?_ _) | (with_reducible refine Below.drew ?_) | (with_reducible refine below_alloc ?_ _) | (with_reducible refine Below.alloc ?_ ?_ _) | (with_reducible refine Below.setCell ?_ ?_ _) | (with_reducible refine below_go ?_ (by with_reducible assumption)) | (with_reducible refine below_then (by with_reducible assumption) ?_ ?_) | go_size))⟩
        case measure => simp [intOf]; omega
    · go_wp2
      go_ret
      refine ⟨ret_bool ?_, by (repeat' (first | (with_reducible exact Below.refl _ _) | (with_reducible assumption) | (with_reducible refine below_drewN ?_ _) | (with_reducible refine Below.drew ?_) | (with_reducible refine below_alloc ?_ _) | (with_reducible refine Below.alloc ?_ ?_ _) | (with_reducible refine Below.setCell ?_ ?_ _) | (with_reducible refine below_go ?_ (by with_reducible assumption)) | (with_reducible refine below_then (by with_reducible assumption) ?_ ?_) | go_size))⟩
      rw [HG.out, all_good (fun j hj => HK.out j (by omega))]
      exact decide_eq_decide.2 (by omega)

theorem spec_GoodStrikes {A : Option Addr} {n c : Nat} {l : List (Int × Int)} {w : World} (hn : l.length = n) (h : Recs strikeE 2 w A l) (hz : n ≤ 16777216) :
    Calls Tryz.prog 9 #[.slice A n c] w fun e w' => e = .returned (.bool (goodStrikes l)) ∧ Below w.heap.size w w' := by
  subst hn
  go_in
  go_wp2_with (go_at_call 22; refine (spec_l21Good rfl h hz).mono ?_; rintro e w' ⟨rfl, hb⟩)
  go_ret
  exact ⟨rfl, hb⟩
end Go.Proofs.YthffeljicohpdaaGreatDoor
/- The laws' own conversions of []int: copying, comparing, counting, marking. -/
namespace Go.Proofs.YthffeljicohpdaaGreatDoor
set_option linter.unusedVariables false
set_option linter.unusedSimpArgs false
open Go.ChangeShapes Go.WideShapes Go.ChangeAt Go.RowKit Go.Deep
/-- The marks that element j gets. -/
def markInt (k0 : Int) (j : Nat) : Int := k0 + (j : Int)
end Go.Proofs.YthffeljicohpdaaGreatDoor
/- The walks through shifting, choosing and clipping lists of strikes, both sides. -/
namespace Go.Proofs.YthffeljicohpdaaGreatDoor
set_option linter.unusedVariables false
set_option linter.unusedSimpArgs false
open Go.ChangeShapes Go.WideShapes Go.ChangeAt Go.RowKit Go.Deep

set_option maxRecDepth 100000 in
theorem impl_ShiftStrikes {A : Option Addr} {n c : Nat} {l : List (Int × Int)} {d : Int} {w : World} (hn : l.length = n) (h : Recs strikeE 2 w A l) (hz : n ≤ 16777216) :
    Calls Tryz.prog 18 #[.slice A n c, .int .i64 d] w fun e w' => ∃ A' c', e = .returned (.tuple #[.slice A' (shiftR l d).length c', .bool (shiftOk l d)]) ∧
      Owned strikeE 2 41 w' w.heap.size A' (shiftR l d).length c' (shiftR l d) ∧ (shiftR l d).length ≤ 16777216 ∧ Below w.heap.size w w' := by
  have HL := Lib.hid (shift_len (l := l) (d := d))
  have E : Hid (shiftOk l d = (goodStrikes l && inB d (-1000000) 1000000 && goodStrikes (l.map fun s => (s.1, s.2 + d)))) := rfl
  rcases h1 : goodStrikes l
  · have e0 : shiftOk l d = false := by rw [E.out, h1]; rfl
    rw [shiftR_f e0, e0]
    go_in
    go_wp2_with (first | (go_at_call 8; refine (impl_GoodStrikes hn h hz).mono ?_; rintro e w1 ⟨rfl, hb1⟩))
    go_ret2
    exact ⟨none, 0, rfl, Owned.nil strikeE_len _ _ _, by decide, hb1⟩
  rcases h2 : inB d (-1000000) 1000000
  · have e0 : shiftOk l d = false := by rw [E.out, h1, h2]; rfl
    rw [shiftR_f e0, e0]
    go_in
    go_wp2_with (first | (go_at_call 8; refine (impl_GoodStrikes hn h hz).mono ?_; rintro e w1 ⟨rfl, hb1⟩) | (go_at_call 25; refine (impl_within _ _ _ _).mono ?_; rintro e w' ⟨rfl, rfl⟩))
    go_ret2
    exact ⟨none, 0, rfl, Owned.nil strikeE_len _ _ _, by decide, hb1⟩
  subst hn
  obtain ⟨hlen, hbd⟩ := goodStrikes_t h1
  have hd := inB_t h2
  have HB := Lib.hid hbd
  clear hbd
  go_in
  go_wp2_with (first | (go_at_call 8; refine (impl_GoodStrikes rfl h hz).mono ?_; rintro e w1 ⟨rfl, hb1⟩) | (go_at_call 25; refine (impl_within _ _ _ _).mono ?_; rintro e w' ⟨rfl, rfl⟩))
  go_loopw [6, 20] (fun v i wr => ∃ (k : Nat) (A' : Option Addr) (c' : Nat), k ≤ l.length ∧ i = .int .i64 k ∧ v = .slice A' k c' ∧ Owned strikeE 2 41 wr w.heap.size A' k c' ((l.take k).map fun s => (s.1, s.2 + d)) ∧ Below w.heap.size w wr) (fun _ i _ => l.length - (intOf i).toNat)
  case atStart => exact ⟨0, _, _, Nat.zero_le _, rfl, rfl, Owned.empty strikeE_len _ _ hb1.size, by (repeat' (first | (with_reducible exact Below.refl _ _) | (with_reducible assumption) | (with_reducible refine below_drewN ?_ _) | (with_reducible refine Below.drew ?_) | (with_reducible refine below_alloc ?_ _) | (with_reducible refine Below.alloc ?_ ?_ _) | (with_reducible refine Below.setCell ?_ ?_ _) | (with_reducible refine below_go ?_ (by with_reducible assumption)) | (with_reducible refine below_then (by with_reducible assumption) ?_ ?_) | go_size))⟩
  case round =>
    obtain ⟨k, A', c', hk, rfl, rfl, ho, hb⟩ := hrel
    by_cases hlt : k < l.length
    · obtain ⟨x, hx⟩ := some_of_lt hlt
      have hxb := HB.out x (List.mem_of_getElem? hx)
      obtain ⟨b1, o1, rfl, hbb, hc0, hc1⟩ := (h.below hb (Nat.le_refl _)).at_2 hx
      have HX := Lib.hid hx
      have HO := Lib.hid ho
      have hsz := hb.size
      clear hx ho h
      go_wp2_with (first | (at_builtin; go_must ((refine wpList_append_rec Tryz.elStrike rfl (.tmp 24) (.tmp 32) rfl rfl ((HO.out.alloc _).alloc _) (x.1, x.2 + d) rfl (Box.at_ _ [.int .i64 x.1, .int .i64 (x.2 + d)] _ ?_) (strikeE_one _) ?_ (by decide) ?_ ?_; (focus (first | omega | (simp only [World.size_alloc]; done) | (simp only [World.size_alloc]; omega) | (simp; done) | (simp; omega))); (focus (first | omega | (simp only [World.size_alloc]; done) | (simp only [World.size_alloc]; omega) | (simp; done) | (simp; omega))); (focus (first | omega | (simp only [World.size_alloc]; done) | (simp only [World.size_alloc]; omega) | (simp; done) | (simp; omega))); intro A2 c2 w2 ho2 hg2 hb2))))
      go_roundw
      case rel =>
        refine ⟨k + 1, A2, c2, by omega, by go_num, by go_num, ?_, ?_⟩
        · rw [take_succ_some HX.out, List.map_append]; exact ho2
        · exact ((hb.alloc hsz _).alloc (by simp; omega) _).trans hb2
      case measure => simp [intOf]; omega
    · obtain rfl : k = l.length := by omega
      rw [List.take_of_length_le (Nat.le_refl _)] at ho
      rcases h3 : goodStrikes (l.map fun s => (s.1, s.2 + d))
      · have e0 := Lib.hid (show shiftOk l d = false by rw [E.out, h1, h2, h3]; rfl)
        go_wp2_with (first | (go_at_call 8; refine (impl_GoodStrikes (by simp) ho.recs (by omega)).mono ?_; rintro e w2 ⟨rfl, hb2⟩))
        go_ret2
        rw [shiftR_f e0.out, e0.out]
        exact ⟨none, 0, rfl, Owned.nil strikeE_len _ _ _, by decide, below_go hb hb2⟩
      · have e0 := Lib.hid (show shiftOk l d = true by rw [E.out, h1, h2, h3]; rfl)
        have e1 := Lib.hid (show (shiftR l d).length = l.length by rw [shiftR_t e0.out, List.length_map])
        go_wp2_with (first | (go_at_call 8; refine (impl_GoodStrikes (by simp) ho.recs (by omega)).mono ?_; rintro e w2 ⟨rfl, hb2⟩))
        go_ret2
        rw [e1.out, e0.out, shiftR_t e0.out]
        exact ⟨_, _, rfl, ho.up hb2, by omega, below_go hb hb2⟩
set_option maxRecDepth 100000 in
theorem spec_ShiftStrikes {A : Option Addr} {n c : Nat} {l : List (Int × Int)} {d : Int} {w : World} (hn : l.length = n) (h : Recs strikeE 2 w A l) (hz : n ≤ 16777216) :
    Calls Tryz.prog 19 #[.slice A n c, .int .i64 d] w fun e w' => ∃ A' c', e = .returned (.tuple #[.slice A' (shiftR l d).length c', .bool (shiftOk l d)]) ∧
      Owned strikeE 2 41 w' w.heap.size A' (shiftR l d).length c' (shiftR l d) ∧ (shiftR l d).length ≤ 16777216 ∧ Below w.heap.size w w' := by
  have HL := Lib.hid (shift_len (l := l) (d := d))
  have E : Hid (shiftOk l d = (goodStrikes l && inB d (-1000000) 1000000 && goodStrikes (l.map fun s => (s.1, s.2 + d)))) := rfl
  rcases h1 : goodStrikes l
  · have e0 : shiftOk l d = false := by rw [E.out, h1]; rfl
    rw [shiftR_f e0, e0]
    go_in
    go_wp2_with (first | (go_at_call 22; refine (spec_l21Good hn h hz).mono ?_; rintro e w1 ⟨rfl, hb1⟩))
    go_ret2
    exact ⟨none, 0, rfl, Owned.nil strikeE_len _ _ _, by decide, hb1⟩
  rcases h2 : inB d (-1000000) 1000000
  · have e0 : shiftOk l d = false := by rw [E.out, h1, h2]; rfl
    rw [shiftR_f e0, e0]
    go_in
    go_wp2_with (first | (go_at_call 22; refine (spec_l21Good hn h hz).mono ?_; rintro e w1 ⟨rfl, hb1⟩) | (go_at_call 39; refine (spec_l1In _ _ _ _).mono ?_; rintro e w' ⟨rfl, rfl⟩))
    go_ret2
    exact ⟨none, 0, rfl, Owned.nil strikeE_len _ _ _, by decide, hb1⟩
  subst hn
  obtain ⟨hlen, hbd⟩ := goodStrikes_t h1
  have hd := inB_t h2
  have HB := Lib.hid hbd
  clear hbd
  go_in
  go_wp2_with (first | (go_at_call 22; refine (spec_l21Good rfl h hz).mono ?_; rintro e w1 ⟨rfl, hb1⟩) | (go_at_call 39; refine (spec_l1In _ _ _ _).mono ?_; rintro e w' ⟨rfl, rfl⟩))
  go_loopw [6, 19] (fun v i wr => ∃ (k : Nat) (A' : Option Addr) (c' : Nat), k ≤ l.length ∧ i = .int .i64 k ∧ v = .slice A' k c' ∧ Owned strikeE 2 41 wr w.heap.size A' k c' ((l.take k).map fun s => (s.1, s.2 + d)) ∧ Below w.heap.size w wr) (fun _ i _ => l.length - (intOf i).toNat)
  case atStart => exact ⟨0, _, _, Nat.zero_le _, rfl, rfl, Owned.nil strikeE_len _ _ _, by (repeat' (first | (with_reducible exact Below.refl _ _) | (with_reducible assumption) | (with_reducible refine below_drewN ?_ _) | (with_reducible refine Below.drew ?_) | (with_reducible refine below_alloc ?_ _) | (with_reducible refine Below.alloc ?_ ?_ _) | (with_reducible refine Below.setCell ?_ ?_ _) | (with_reducible refine below_go ?_ (by with_reducible assumption)) | (with_reducible refine below_then (by with_reducible assumption) ?_ ?_) | go_size))⟩
  case round =>
    obtain ⟨k, A', c', hk, rfl, rfl, ho, hb⟩ := hrel
    by_cases hlt : k < l.length
    · obtain ⟨x, hx⟩ := some_of_lt hlt
      have hxb := HB.out x (List.mem_of_getElem? hx)
      obtain ⟨b1, o1, rfl, hbb, hc0, hc1⟩ := (h.below hb (Nat.le_refl _)).at_2 hx
      have HX := Lib.hid hx
      have HO := Lib.hid ho
      have hsz := hb.size
      clear hx ho h
      go_wp2_with (first | (at_builtin; go_must ((refine wpList_append_rec Tryz.elStrike rfl (.tmp 23) (.tmp 31) rfl rfl ((HO.out.alloc _).alloc _) (x.1, x.2 + d) rfl (Box.at_ _ [.int .i64 x.1, .int .i64 (x.2 + d)] _ ?_) (strikeE_one _) ?_ (by decide) ?_ ?_; (focus (first | omega | (simp only [World.size_alloc]; done) | (simp only [World.size_alloc]; omega) | (simp; done) | (simp; omega))); (focus (first | omega | (simp only [World.size_alloc]; done) | (simp only [World.size_alloc]; omega) | (simp; done) | (simp; omega))); (focus (first | omega | (simp only [World.size_alloc]; done) | (simp only [World.size_alloc]; omega) | (simp; done) | (simp; omega))); intro A2 c2 w2 ho2 hg2 hb2))))
      go_roundw
      case rel =>
        refine ⟨k + 1, A2, c2, by omega, by go_num, by go_num, ?_, ?_⟩
        · rw [take_succ_some HX.out, List.map_append]; exact ho2
        · exact ((hb.alloc hsz _).alloc (by simp; omega) _).trans hb2
      case measure => simp [intOf]; omega
    · obtain rfl : k = l.length := by omega
      rw [List.take_of_length_le (Nat.le_refl _)] at ho
      rcases h3 : goodStrikes (l.map fun s => (s.1, s.2 + d))
      · have e0 := Lib.hid (show shiftOk l d = false by rw [E.out, h1, h2, h3]; rfl)
        go_wp2_with (first | (go_at_call 22; refine (spec_l21Good (by simp) ho.recs (by omega)).mono ?_; rintro e w2 ⟨rfl, hb2⟩))
        go_ret2
        rw [shiftR_f e0.out, e0.out]
        exact ⟨none, 0, rfl, Owned.nil strikeE_len _ _ _, by decide, below_go hb hb2⟩
      · have e0 := Lib.hid (show shiftOk l d = true by rw [E.out, h1, h2, h3]; rfl)
        have e1 := Lib.hid (show (shiftR l d).length = l.length by rw [shiftR_t e0.out, List.length_map])
        go_wp2_with (first | (go_at_call 22; refine (spec_l21Good (by simp) ho.recs (by omega)).mono ?_; rintro e w2 ⟨rfl, hb2⟩))
        go_ret2
        rw [e1.out, e0.out, shiftR_t e0.out]
        exact ⟨_, _, rfl, ho.up hb2, by omega, below_go hb hb2⟩


end Go.Proofs.YthffeljicohpdaaGreatDoor
/- The walks through ideal strikes, both sides. -/
namespace Go.Proofs.YthffeljicohpdaaGreatDoor
set_option linter.unusedVariables false
set_option linter.unusedSimpArgs false
open Go.ChangeShapes Go.WideShapes Go.ChangeAt Go.RowKit Go.Deep
theorem spec_l1AtI {b : ByteArray} {k : Nat} {w : World} (hk : k < b.size) (hz : b.size ≤ 16777216) (hlo : 48 ≤ PlainAid.bt b k) :
    Calls Tryz.prog 70 #[.string b, .int .i64 ((k : Int) + 1)] w fun e w' => e = .returned (.int .i64 (PlainAid.bt b k - 48)) ∧ w = w' := by
  have hbb := PlainAid.get_bt b
  have hn1 := PlainAid.bt_le b k
  go_in
  go_wp2
  go_ret
  exact ⟨rfl, rfl⟩
set_option maxHeartbeats 1000000 in
set_option maxRecDepth 100000 in
theorem spec_l21Ideal {A : Option Addr} {n c : Nat} {x y z : Int} {l : List ByteArray} {w : World} (hn : l.length = n) (h : Strs w A l) (h1 : goodBeatB x y z = true) (h2 : goodRows l = true) :
    Calls Tryz.prog 55 #[.agg #[.int .i64 x, .int .i64 y, .int .i64 z], .slice A n c] w fun e w' => ∃ A' c', e = .returned (.slice A' (idl x y z l l.length).length c') ∧
      Owned strikeE 2 41 w' w.heap.size A' (idl x y z l l.length).length c' (idl x y z l l.length) ∧ (idl x y z l l.length).length ≤ 6400 ∧ Below w.heap.size w w' := by
  subst hn
  obtain ⟨hx, hy, hzz⟩ := goodBeat_t h1
  have hl8 := goodRows_len h2
  have HGR := Lib.hid (goodRows_mem h2)
  have HIL := Lib.hid (fun k hk => idl_len (x := x) (y := y) (z := z) (fun s hs' => (goodRow_n (goodRows_mem h2 s hs')).2) k hk)
  have hbA : Below w.heap.size w (w.alloc (.cells #[.int .i64 x, .int .i64 y, .int .i64 z] 78)) := by (repeat' (first | (with_reducible exact Below.refl _ _) | (with_reducible assumption) | (with_reducible refine below_drewN ?_ _) | (with_reducible refine Below.drew ?_) | (with_reducible refine below_alloc ?_ _) | (with_reducible refine Below.alloc ?_ ?_ _) | (with_reducible refine Below.setCell ?_ ?_ _) | (with_reducible refine below_go ?_ (by with_reducible assumption)) | (with_reducible refine below_then (by with_reducible assumption) ?_ ?_) | go_size))
  have HK := Lib.hid (Blk.at_ w 78 [.int .i64 x, .int .i64 y, .int .i64 z] (b := w.heap.size) rfl)
  have hsA : w.heap.size < (w.alloc (.cells #[.int .i64 x, .int .i64 y, .int .i64 z] 78)).heap.size := by simp
  go_in
  go_wp2
  obtain ⟨w2, hw2⟩ : ∃ u, u = w.alloc (.cells #[.int .i64 x, .int .i64 y, .int .i64 z] 78) := ⟨_, rfl⟩
  rw [← hw2] at hbA HK hsA ⊢
  clear hw2
  go_loopw [5, 11] (fun v i wr => ∃ (k : Nat) (A' : Option Addr) (N c' : Nat), k ≤ l.length ∧ i = .int .i64 k ∧ v = .slice A' N c' ∧ Owned strikeE 2 41 wr w2.heap.size A' N c' (idl x y z l k) ∧ Below w2.heap.size w2 wr) (fun _ i _ => l.length - (intOf i).toNat)
  case atStart => exact ⟨0, _, _, _, Nat.zero_le _, rfl, rfl, Owned.nil strikeE_len _ _ _, by (repeat' (first | (with_reducible exact Below.refl _ _) | (with_reducible assumption) | (with_reducible refine below_drewN ?_ _) | (with_reducible refine Below.drew ?_) | (with_reducible refine below_alloc ?_ _) | (with_reducible refine Below.alloc ?_ ?_ _) | (with_reducible refine Below.setCell ?_ ?_ _) | (with_reducible refine below_go ?_ (by with_reducible assumption)) | (with_reducible refine below_then (by with_reducible assumption) ?_ ?_) | go_size))⟩
  case round =>
    obtain ⟨k, A', N, c', hk, rfl, rfl, ho, hb⟩ := hrel
    rename World => wo
    have hbw := hbA.trans (hb.mono (by omega))
    have hIL := HIL.out k hk
    have hoN := ho.len
    rw [hoN] at hIL
    by_cases hlt : k < l.length
    · obtain ⟨b1, o1, r, rfl, hbb1, hr, hcr⟩ := (h.below hbw (Nat.le_refl _)).at_str hlt
      have hgr := HGR.out r (List.mem_of_getElem? hr)
      have hr8 := goodRow_n hgr
      have IS := Lib.hid (idl_succ (x := x) (y := y) (z := z) hr)
      have HO := Lib.hid ho
      have hrz := hr8.2
      have hbt := PlainAid.get_bt r
      clear hr ho
      go_wp2
      go_loopw [5, 8] (fun v i wr => ∃ (q : Nat) (A' : Option Addr) (N' c' : Nat), q ≤ r.size ∧ i = .int .i64 ((q : Int) + 1) ∧ v = .slice A' N' c' ∧ N' ≤ N + q ∧ Owned strikeE 2 41 wr w2.heap.size A' N' c' (idl x y z l k ++ rowStr x y z r k q) ∧ Below w2.heap.size w2 wr) (fun _ i _ => (r.size + 1) - (intOf i).toNat)
      case atStart => exact ⟨0, A', N, c', Nat.zero_le _, by go_num, rfl, Nat.le_refl _, by simpa [rowStr] using HO.out, hb⟩
      case round =>
        obtain ⟨q, A2, N2, c2, hq, rfl, rfl, hN2, ho2, hb2⟩ := hrel
        rename World => wi
        by_cases hqt : q < r.size
        · have hdq := goodRow_dig hgr hqt
          have hbq : PlainAid.bt r q = dg r q + 48 := by simp [dg]
          have RS := Lib.hid (rowStr_succ x y z r k q)
          have HO2 := Lib.hid ho2
          have hsz2 := hb2.size
          have KB := HK.out.below hb2 hsA
          have k0 := KB.cell 0; have k1 := KB.cell 1; have k2 := KB.cell 2
          simp only [List.getElem?_cons_zero, List.getElem?_cons_succ] at k0 k1 k2
          have bb := blowAtZ_bd (r := (k : Int)) (p := (q : Int) + 1) hx hy hzz (n := (r.size : Int)) (by omega) (by omega) (by omega)
          obtain ⟨bz, hbz⟩ : ∃ u, u = blowAtZ x y z r.size k ((q : Int) + 1) := ⟨_, rfl⟩
          have HBZ := Lib.hid hbz
          rw [← hbz] at bb
          clear hbz ho2 KB
          have carry : Hid (∀ u : World, Below wi.heap.size wi u → u.cell? ⟨w.heap.size, 0, none⟩ = some (.int .i64 x) ∧ u.cell? ⟨w.heap.size, 1, none⟩ = some (.int .i64 y) ∧ u.cell? ⟨w.heap.size, 2, none⟩ = some (.int .i64 z)) := Lib.hid (fun u hu =>
            have q : ∀ o : Nat, u.cell? ⟨w.heap.size, o, none⟩ = wi.cell? ⟨w.heap.size, o, none⟩ := fun o => hu.cell (p := ⟨w.heap.size, o, none⟩) (by show w.heap.size < wi.heap.size; omega)
            ⟨(q 0).trans k0, (q 1).trans k1, (q 2).trans k2⟩)
          have far : Hid (∀ v u : World, Below wi.heap.size wi v → v.grownBy u (Value.slice A2 N2 c2).ownBlock → u.cell? ⟨w.heap.size, 0, none⟩ = some (.int .i64 x) ∧ u.cell? ⟨w.heap.size, 1, none⟩ = some (.int .i64 y) ∧ u.cell? ⟨w.heap.size, 2, none⟩ = some (.int .i64 z)) := Lib.hid (fun v u hv hg => by
            have hvs := hv.size
            have f1 : ∀ o : Nat, u.cell? ⟨w.heap.size, o, none⟩ = v.cell? ⟨w.heap.size, o, none⟩ := fun o => hg.cell_far _ (by show w.heap.size < v.heap.size; omega) (fun e => by have := HO2.out.blk e.symm; dsimp only at this; omega)
            rw [f1, f1, f1]
            exact carry.out v hv)
          go_wp2
          have hqI : (q : Int) < (r.size : Int) := by omega
          have hw1 := wrap_bt r q
          have gu : IntKind.u8.wrap (dg r q) = dg r q := IntWalk.u8_in _ (by omega)
          have gi : IntKind.i64.wrap (dg r q) = dg r q := wrap_id (by omega)
          have gq : IntKind.i64.wrap ((q : Int) + 1) = (q : Int) + 1 := wrap_id (by omega)
          have gs : dg r q + 48 - 48 = dg r q := by omega
          go_region_held3 (fun u => u.cell? ⟨w.heap.size, 0, none⟩ = some (.int .i64 x) ∧ u.cell? ⟨w.heap.size, 1, none⟩ = some (.int .i64 y) ∧ u.cell? ⟨w.heap.size, 2, none⟩ = some (.int .i64 z)) (first | exact far.out _ _ (hB2.alloc hB2.size _) hg3 | exact carry.out _ (hB2.alloc hB2.size _) | exact carry.out _ hB2 | exact carry.out _ (by (repeat' (first | (with_reducible exact Below.refl _ _) | (with_reducible assumption) | (with_reducible refine below_drewN ?_ _) | (with_reducible refine Below.drew ?_) | (with_reducible refine below_alloc ?_ _) | (with_reducible refine Below.alloc ?_ ?_ _) | (with_reducible refine Below.setCell ?_ ?_ _) | (with_reducible refine below_go ?_ (by with_reducible assumption)) | (with_reducible refine below_then (by with_reducible assumption) ?_ ?_) | go_size)))) (first | (go_at_call 70; refine (spec_l1AtI hqt (by omega) (by omega)).mono ?_; rw [hbq, gs]; rintro e w' ⟨rfl, rfl⟩) | (go_at_call 71; refine (spec_l21Blow _ _ _ _ _ _ _ hx hy hzz (by omega) (by omega) (by omega)).mono ?_; rintro e w3 ⟨rfl, hbd⟩; rw [← HBZ.out]; have hB2 := below_of_drew hbd) | ((refine step_append_rec Tryz.elStrike (by rfl) _ _ (by rfl) (by rfl) ((HO2.out.up hB2).alloc _) (dg r q, bz) (by rfl) (Box.at_ _ [.int .i64 (dg r q), .int .i64 bz] _ (by rfl)) (strikeE_one _) (by omega) (by decide) (by have := hB2.size; simp; omega) ?_; intro A3 c3 w4 ho3 hg3 hb3)))
          all_goals
            have hfin := (hb2.trans ((hB2.alloc hB2.size _).mono (by omega))).trans hb3
            clear far carry k0 k1 k2
            go_wp2
            go_roundw
            case rel =>
              refine ⟨q + 1, A3, N2 + 1, c3, by omega, by go_num, by go_num, by omega, ?_, hfin⟩
              rw [RS.out, ← List.append_assoc, ← HBZ.out]; exact ho3
            case measure => simp [intOf]; omega
        · obtain rfl : q = r.size := by omega
          go_wp2
          go_roundw
          case rel => exact ⟨k + 1, A2, N2, c2, by omega, by go_num, rfl, by rw [IS.out]; exact ho2, hb2⟩
          case measure => simp [intOf]; omega
    · obtain rfl : k = l.length := by omega
      obtain rfl := hoN
      go_wp2
      go_ret
      exact ⟨_, _, rfl, ho.base_le (by omega), by omega, hbw⟩
end Go.Proofs.YthffeljicohpdaaGreatDoor
/- l21Blow and l21Ideal of the reference for the beats and rows that draws make. -/
namespace Go.Proofs.YthffeljicohpdaaGreatDoor
set_option linter.unusedVariables false
set_option linter.unusedSimpArgs false
open Go.ChangeShapes Go.WideShapes Go.ChangeAt Go.RowKit Go.Deep
theorem blowAtZ_bdL {x y z n r p : Int} (hx : -1 ≤ x ∧ x ≤ 1000001) (hy : 0 ≤ y ∧ y ≤ 2001) (hz : 0 ≤ z ∧ z ≤ 2000) (hn : 1 ≤ n ∧ n ≤ 8) (hr : 0 ≤ r ∧ r ≤ 800) (hp : 1 ≤ p ∧ p ≤ 8) : -1 ≤ blowAtZ x y z n r p ∧ blowAtZ x y z n r p ≤ 100000000 := by
  obtain ⟨nr, hnr⟩ : ∃ t, t = n * r := ⟨_, rfl⟩
  have hnr0 : 0 ≤ nr := by rw [hnr]; exact Int.mul_nonneg (by omega) hr.1
  have hnr1 : nr ≤ 6400 := by rw [hnr]; exact Int.le_trans (Int.mul_le_mul hn.2 hr.2 hr.1 (by omega)) (by decide)
  have hq0 : 0 ≤ y * (nr + p - 1) := Int.mul_nonneg (by omega) (by omega)
  have hq1 : y * (nr + p - 1) ≤ 41000000 := Int.le_trans (Int.mul_le_mul hy.2 (show nr + p - 1 ≤ 20000 by omega) (by omega) (by omega)) (by decide)
  have hs0 : 0 ≤ z * (r / 2) := Int.mul_nonneg (by omega) (by omega)
  have hs1 : z * (r / 2) ≤ 2000000 := Int.le_trans (Int.mul_le_mul hz.2 (show r / 2 ≤ 1000 by omega) (by omega) (by omega)) (by decide)
  rw [blowAtZ, ← hnr]
  omega
theorem idl_bdL {x y z : Int} {l : List ByteArray} (hx : -1 ≤ x ∧ x ≤ 1000001) (hy : 0 ≤ y ∧ y ≤ 2001) (hz : 0 ≤ z ∧ z ≤ 2000) (hl8 : l.length ≤ 800) (hdg : ∀ s ∈ l, digS s) : ∀ k, k ≤ l.length → ∀ s ∈ idl x y z l k, (0 ≤ s.1 ∧ s.1 ≤ 9) ∧ -1 ≤ s.2 ∧ s.2 ≤ 100000000
  | 0, _, s, hs => by rw [idl_zero] at hs; cases hs
  | k + 1, hk, s, hs => by
    obtain ⟨r, hr⟩ := some_of_lt (l := l) (k := k) (by omega)
    rw [idl_succ hr] at hs
    rcases List.mem_append.1 hs with hs | hs
    · exact idl_bdL hx hy hz hl8 hdg k (by omega) s hs
    · have hd := hdg r (List.mem_of_getElem? hr)
      obtain ⟨q, hq, rfl⟩ := List.mem_map.1 hs
      have hq := List.mem_range.1 hq
      have h1 := hd.2 q hq
      have h0 := hd.1
      have h2 := blowAtZ_bdL (n := (r.size : Int)) (r := (k : Int)) (p := (q : Int) + 1) hx hy hz (by omega) (by omega) (by omega)
      exact ⟨by simp only [dg]; omega, h2⟩
theorem spec_l21BlowL (x y z n r p : Int) (w : World) (hx : -1 ≤ x ∧ x ≤ 1000001) (hy : 0 ≤ y ∧ y ≤ 2001) (hz : 0 ≤ z ∧ z ≤ 2000) (hn : 1 ≤ n ∧ n ≤ 8) (hr : 0 ≤ r ∧ r ≤ 2000) (hp : 1 ≤ p ∧ p ≤ 8) :
    Calls Tryz.prog 71 #[.agg #[.int .i64 x, .int .i64 y, .int .i64 z], .int .i64 n, .int .i64 r, .int .i64 p] w fun e w' => e = .returned (.int .i64 (blowAtZ x y z n r p)) ∧ Below w.heap.size w w' := by
  obtain ⟨nr, hnr⟩ : ∃ t, t = n * r := ⟨_, rfl⟩
  have hnr0 : 0 ≤ nr := by rw [hnr]; exact Int.mul_nonneg (by omega) hr.1
  have hnr1 : nr ≤ 16000 := by rw [hnr]; exact Int.le_trans (Int.mul_le_mul hn.2 hr.2 hr.1 (by omega)) (by decide)
  obtain ⟨q, hq⟩ : ∃ t, t = y * (nr + p - 1) := ⟨_, rfl⟩
  have hq0 : 0 ≤ q := by rw [hq]; exact Int.mul_nonneg (by omega) (by omega)
  have hq1 : q ≤ 41000000 := by rw [hq]; exact Int.le_trans (Int.mul_le_mul hy.2 (show nr + p - 1 ≤ 20000 by omega) (by omega) (by omega)) (by decide)
  obtain ⟨s, hs⟩ : ∃ t, t = z * (r / 2) := ⟨_, rfl⟩
  have hs0 : 0 ≤ s := by rw [hs]; exact Int.mul_nonneg (by omega) (by omega)
  have hs1 : s ≤ 2000000 := by rw [hs]; exact Int.le_trans (Int.mul_le_mul hz.2 (show r / 2 ≤ 1000 by omega) (by omega) (by omega)) (by decide)
  have b1 : 0 ≤ n * r ∧ n * r ≤ 16000 := by rw [← hnr]; omega
  have b2 : 0 ≤ y * (n * r + p - 1) ∧ y * (n * r + p - 1) ≤ 41000000 := by rw [← hnr, ← hq]; omega
  have b3 : 0 ≤ z * (r / 2) ∧ z * (r / 2) ≤ 2000000 := by rw [← hs]; omega
  clear hq0 hq1 hq hs0 hs1 hs hnr0 hnr1 hnr q s nr
  go_in
  go_wp2
  go_ret
  exact ⟨rfl, by (repeat' (first | (with_reducible exact Below.refl _ _) | (with_reducible assumption) | (with_reducible refine below_drewN ?_ _) | (with_reducible refine Below.drew ?_) | (with_reducible refine below_alloc ?_ _) | (with_reducible refine Below.alloc ?_ ?_ _) | (with_reducible refine Below.setCell ?_ ?_ _) | (with_reducible refine below_go ?_ (by with_reducible assumption)) | (with_reducible refine below_then (by with_reducible assumption) ?_ ?_) | go_size))⟩
set_option maxHeartbeats 1000000 in
set_option maxRecDepth 100000 in
theorem spec_l21IdealL {A : Option Addr} {n c : Nat} {x y z : Int} {l : List ByteArray} {w : World} (hn : l.length = n) (h : Strs w A l) (hx : -1 ≤ x ∧ x ≤ 1000001) (hy : 0 ≤ y ∧ y ≤ 2001) (hzz : 0 ≤ z ∧ z ≤ 2000) (hl8 : l.length ≤ 800) (hdg : ∀ s ∈ l, digS s) :
    Calls Tryz.prog 55 #[.agg #[.int .i64 x, .int .i64 y, .int .i64 z], .slice A n c] w fun e w' => ∃ A' c', e = .returned (.slice A' (idl x y z l l.length).length c') ∧
      Owned strikeE 2 41 w' w.heap.size A' (idl x y z l l.length).length c' (idl x y z l l.length) ∧ (idl x y z l l.length).length ≤ 6400 ∧ Below w.heap.size w w' := by
  subst hn
  have HGR := Lib.hid hdg
  have HIL := Lib.hid (fun k hk => idl_len (x := x) (y := y) (z := z) (fun s hs' => (hdg s hs').1) k hk)
  clear hdg
  have hbA : Below w.heap.size w (w.alloc (.cells #[.int .i64 x, .int .i64 y, .int .i64 z] 78)) := by (repeat' (first | (with_reducible exact Below.refl _ _) | (with_reducible assumption) | (with_reducible refine below_drewN ?_ _) | (with_reducible refine Below.drew ?_) | (with_reducible refine below_alloc ?_ _) | (with_reducible refine Below.alloc ?_ ?_ _) | (with_reducible refine Below.setCell ?_ ?_ _) | (with_reducible refine below_go ?_ (by with_reducible assumption)) | (with_reducible refine below_then (by with_reducible assumption) ?_ ?_) | go_size))
  have HK := Lib.hid (Blk.at_ w 78 [.int .i64 x, .int .i64 y, .int .i64 z] (b := w.heap.size) rfl)
  have hsA : w.heap.size < (w.alloc (.cells #[.int .i64 x, .int .i64 y, .int .i64 z] 78)).heap.size := by simp
  go_in
  go_wp2
  obtain ⟨w2, hw2⟩ : ∃ u, u = w.alloc (.cells #[.int .i64 x, .int .i64 y, .int .i64 z] 78) := ⟨_, rfl⟩
  rw [← hw2] at hbA HK hsA ⊢
  clear hw2
  go_loopw [5, 11] (fun v i wr => ∃ (k : Nat) (A' : Option Addr) (N c' : Nat), k ≤ l.length ∧ i = .int .i64 k ∧ v = .slice A' N c' ∧ Owned strikeE 2 41 wr w2.heap.size A' N c' (idl x y z l k) ∧ Below w2.heap.size w2 wr) (fun _ i _ => l.length - (intOf i).toNat)
  case atStart => exact ⟨0, _, _, _, Nat.zero_le _, rfl, rfl, Owned.nil strikeE_len _ _ _, by (repeat' (first | (with_reducible exact Below.refl _ _) | (with_reducible assumption) | (with_reducible refine below_drewN ?_ _) | (with_reducible refine Below.drew ?_) | (with_reducible refine below_alloc ?_ _) | (with_reducible refine Below.alloc ?_ ?_ _) | (with_reducible refine Below.setCell ?_ ?_ _) | (with_reducible refine below_go ?_ (by with_reducible assumption)) | (with_reducible refine below_then (by with_reducible assumption) ?_ ?_) | go_size))⟩
  case round =>
    obtain ⟨k, A', N, c', hk, rfl, rfl, ho, hb⟩ := hrel
    rename World => wo
    have hbw := hbA.trans (hb.mono (by omega))
    have hIL := HIL.out k hk
    have hoN := ho.len
    rw [hoN] at hIL
    by_cases hlt : k < l.length
    · obtain ⟨b1, o1, r, rfl, hbb1, hr, hcr⟩ := (h.below hbw (Nat.le_refl _)).at_str hlt
      have hgr := HGR.out r (List.mem_of_getElem? hr)
      have hr8 := hgr.1
      have IS := Lib.hid (idl_succ (x := x) (y := y) (z := z) hr)
      have HO := Lib.hid ho
      have hrz := hr8
      have hbt := PlainAid.get_bt r
      clear hr ho
      go_wp2
      go_loopw [5, 8] (fun v i wr => ∃ (q : Nat) (A' : Option Addr) (N' c' : Nat), q ≤ r.size ∧ i = .int .i64 ((q : Int) + 1) ∧ v = .slice A' N' c' ∧ N' ≤ N + q ∧ Owned strikeE 2 41 wr w2.heap.size A' N' c' (idl x y z l k ++ rowStr x y z r k q) ∧ Below w2.heap.size w2 wr) (fun _ i _ => (r.size + 1) - (intOf i).toNat)
      case atStart => exact ⟨0, A', N, c', Nat.zero_le _, by go_num, rfl, Nat.le_refl _, by simpa [rowStr] using HO.out, hb⟩
      case round =>
        obtain ⟨q, A2, N2, c2, hq, rfl, rfl, hN2, ho2, hb2⟩ := hrel
        rename World => wi
        by_cases hqt : q < r.size
        · have hdq : 0 ≤ dg r q ∧ dg r q ≤ 9 := by have := hgr.2 q hqt; simp only [dg]; omega
          have hbq : PlainAid.bt r q = dg r q + 48 := by simp [dg]
          have RS := Lib.hid (rowStr_succ x y z r k q)
          have HO2 := Lib.hid ho2
          have hsz2 := hb2.size
          have KB := HK.out.below hb2 hsA
          have k0 := KB.cell 0; have k1 := KB.cell 1; have k2 := KB.cell 2
          simp only [List.getElem?_cons_zero, List.getElem?_cons_succ] at k0 k1 k2
          have bb := blowAtZ_bdL (r := (k : Int)) (p := (q : Int) + 1) hx hy hzz (n := (r.size : Int)) (by omega) (by omega) (by omega)
          obtain ⟨bz, hbz⟩ : ∃ u, u = blowAtZ x y z r.size k ((q : Int) + 1) := ⟨_, rfl⟩
          have HBZ := Lib.hid hbz
          rw [← hbz] at bb
          clear hbz ho2 KB
          have carry : Hid (∀ u : World, Below wi.heap.size wi u → u.cell? ⟨w.heap.size, 0, none⟩ = some (.int .i64 x) ∧ u.cell? ⟨w.heap.size, 1, none⟩ = some (.int .i64 y) ∧ u.cell? ⟨w.heap.size, 2, none⟩ = some (.int .i64 z)) := Lib.hid (fun u hu =>
            have q : ∀ o : Nat, u.cell? ⟨w.heap.size, o, none⟩ = wi.cell? ⟨w.heap.size, o, none⟩ := fun o => hu.cell (p := ⟨w.heap.size, o, none⟩) (by show w.heap.size < wi.heap.size; omega)
            ⟨(q 0).trans k0, (q 1).trans k1, (q 2).trans k2⟩)
          have far : Hid (∀ v u : World, Below wi.heap.size wi v → v.grownBy u (Value.slice A2 N2 c2).ownBlock → u.cell? ⟨w.heap.size, 0, none⟩ = some (.int .i64 x) ∧ u.cell? ⟨w.heap.size, 1, none⟩ = some (.int .i64 y) ∧ u.cell? ⟨w.heap.size, 2, none⟩ = some (.int .i64 z)) := Lib.hid (fun v u hv hg => by
            have hvs := hv.size
            have f1 : ∀ o : Nat, u.cell? ⟨w.heap.size, o, none⟩ = v.cell? ⟨w.heap.size, o, none⟩ := fun o => hg.cell_far _ (by show w.heap.size < v.heap.size; omega) (fun e => by have := HO2.out.blk e.symm; dsimp only at this; omega)
            rw [f1, f1, f1]
            exact carry.out v hv)
          go_wp2
          have hqI : (q : Int) < (r.size : Int) := by omega
          have hw1 := wrap_bt r q
          have gu : IntKind.u8.wrap (dg r q) = dg r q := IntWalk.u8_in _ (by omega)
          have gi : IntKind.i64.wrap (dg r q) = dg r q := wrap_id (by omega)
          have gq : IntKind.i64.wrap ((q : Int) + 1) = (q : Int) + 1 := wrap_id (by omega)
          have gs : dg r q + 48 - 48 = dg r q := by omega
          go_region_held3 (fun u => u.cell? ⟨w.heap.size, 0, none⟩ = some (.int .i64 x) ∧ u.cell? ⟨w.heap.size, 1, none⟩ = some (.int .i64 y) ∧ u.cell? ⟨w.heap.size, 2, none⟩ = some (.int .i64 z)) (first | exact far.out _ _ (hB2.alloc hB2.size _) hg3 | exact carry.out _ (hB2.alloc hB2.size _) | exact carry.out _ hB2 | exact carry.out _ (by (repeat' (first | (with_reducible exact Below.refl _ _) | (with_reducible assumption) | (with_reducible refine below_drewN ?_ _) | (with_reducible refine Below.drew ?_) | (with_reducible refine below_alloc ?_ _) | (with_reducible refine Below.alloc ?_ ?_ _) | (with_reducible refine Below.setCell ?_ ?_ _) | (with_reducible refine below_go ?_ (by with_reducible assumption)) | (with_reducible refine below_then (by with_reducible assumption) ?_ ?_) | go_size)))) (first | (go_at_call 70; refine (spec_l1AtI hqt (by omega) (by omega)).mono ?_; rw [hbq, gs]; rintro e w' ⟨rfl, rfl⟩) | (go_at_call 71; refine (spec_l21BlowL _ _ _ _ _ _ _ hx hy hzz (by omega) (by omega) (by omega)).mono ?_; rintro e w3 ⟨rfl, hbd⟩; rw [← HBZ.out]; have hB2 := below_of_drew hbd) | ((refine step_append_rec Tryz.elStrike (by rfl) _ _ (by rfl) (by rfl) ((HO2.out.up hB2).alloc _) (dg r q, bz) (by rfl) (Box.at_ _ [.int .i64 (dg r q), .int .i64 bz] _ (by rfl)) (strikeE_one _) (by omega) (by decide) (by have := hB2.size; simp; omega) ?_; intro A3 c3 w4 ho3 hg3 hb3)))
          all_goals
            have hfin := (hb2.trans ((hB2.alloc hB2.size _).mono (by omega))).trans hb3
            clear far carry k0 k1 k2
            go_wp2
            go_roundw
            case rel =>
              refine ⟨q + 1, A3, N2 + 1, c3, by omega, by go_num, by go_num, by omega, ?_, hfin⟩
              rw [RS.out, ← List.append_assoc, ← HBZ.out]; exact ho3
            case measure => simp [intOf]; omega
        · obtain rfl : q = r.size := by omega
          go_wp2
          go_roundw
          case rel => exact ⟨k + 1, A2, N2, c2, by omega, by go_num, rfl, by rw [IS.out]; exact ho2, hb2⟩
          case measure => simp [intOf]; omega
    · obtain rfl : k = l.length := by omega
      obtain rfl := hoN
      go_wp2
      go_ret
      exact ⟨_, _, rfl, ho.base_le (by omega), by omega, hbw⟩
end Go.Proofs.YthffeljicohpdaaGreatDoor
