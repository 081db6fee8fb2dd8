/- Texts 6 of 7 that the claim leans on: plain laws and the walks' contracts, in order. -/
import Derived.Test.YtidolgonmimicaaGreatMParts5
import Derived.Deep.Cut
import Derived.BigRegion
/- The walk through the generator of methods. -/
namespace Go.Proofs.YtidolgonmimicaaGreat
set_option linter.unusedVariables false
set_option linter.unusedSimpArgs false
open Go.ChangeShapes Go.WideShapes Go.ChangeAt Go.RowKit Go.Deep
/-- The state of a method that is being made in block b: p is the cursor's block, the result's block comes first. -/
def MSt (w u : World) (p : Nat) (A : Option Addr) (n c a b : Nat) (nm : ByteArray) (st : Int) (v : Value) : Prop :=
  Blk u b 25 [.string nm, .int .i64 st, v] ∧ Cur u p A n c a ∧ (∃ x y z, Blk u w.heap.size 25 [x, y, z]) ∧ w.grownBy u (some p) ∧ p < w.heap.size ∧ w.heap.size < b
section
variable {w u u' : World} {p n c a a' b : Nat} {A : Option Addr} {nm : ByteArray} {st : Int} {v v' : Value}
theorem MSt.mono (h : MSt w u p A n c a b nm st v) (ha : a ≤ a') : MSt w u p A n c a' b nm st v := ⟨h.1, h.2.1.mono ha, h.2.2⟩
theorem MSt.draw (h : MSt w u p A n c a b nm st v) (hg : u.grownBy u' (some p)) (hc : Cur u' p A n c a') : MSt w u' p A n c a' b nm st v := by
  obtain ⟨h1, _, ⟨x, y, z, h3⟩, h4, h5, h6⟩ := h
  exact ⟨h1.grown hg (fun e => by injection e with e; omega), hc, ⟨x, y, z, h3.grown hg (fun e => by injection e with e; omega)⟩, grownBy_trans h4 hg, h5, h6⟩
theorem MSt.grown {row : Option Nat} (h : MSt w u p A n c a b nm st v) (hg : u.grownBy u' row) (hr : ∀ k, row = some k → b < k) : MSt w u' p A n c a b nm st v := by
  obtain ⟨h1, h2, ⟨x, y, z, h3⟩, h4, h5, h6⟩ := h
  exact ⟨h1.grown hg (fun e => by have := hr b e.symm; omega), h2.grown hg (fun e => by have := hr p e.symm; omega), ⟨x, y, z, h3.grown hg (fun e => by have := hr _ e.symm; omega)⟩, grow_own h4 hg (fun k e => by have := hr k e; omega), h5, h6⟩
theorem MSt.up (h : MSt w u p A n c a b nm st v) (hb : Below u.heap.size u u') : MSt w u' p A n c a b nm st v := h.grown (grown_of_below hb) (fun k e => by cases e)
theorem MSt.alloc (h : MSt w u p A n c a b nm st v) (o : Obj) : MSt w (u.alloc o) p A n c a b nm st v := h.up ((Below.refl _ _).alloc (Nat.le_refl _) o)
theorem MSt.drew (h : MSt w u p A n c a b nm st v) : MSt w u.drew p A n c a b nm st v := h.up (below_drewN (Below.refl _ _) 1)
theorem MSt.put (h : MSt w u p A n c a b nm st v) : MSt w (u.setCell ⟨b, 2, none⟩ v') p A n c a b nm st v' := by
  obtain ⟨h1, h2, ⟨x, y, z, h3⟩, h4, h5, h6⟩ := h
  have hg : u.grownBy (u.setCell ⟨b, 2, none⟩ v') (some b) := only_set u (p := ⟨b, 2, none⟩) v'
  exact ⟨h1.set_ 2 v', h2.grown hg (fun e => by injection e with e; omega), ⟨x, y, z, h3.grown hg (fun e => by injection e with e; omega)⟩, grow_own h4 hg (fun k e => by injection e with e; omega), h5, h6⟩
theorem own_put {u : World} {b base m d : Nat} {B : Option Addr} {l : List ByteArray} {v' : Value} (ho : Owned strE 1 9 u base B m d l) (hb : b < base) : Owned strE 1 9 (u.setCell ⟨b, 2, none⟩ v') base B m d l :=
  ho.past (only_set u (p := ⟨b, 2, none⟩) v') hb
theorem strs_grown {w w' : World} {b o : Nat} {l : List ByteArray} {row : Option Nat} (h : Strs w (some ⟨b, o, none⟩) l) (hg : w.grownBy w' row) (hne : some b ≠ row) : Strs w' (some ⟨b, o, none⟩) l := by
  refine ⟨h.1, h.2.1, fun hn => ?_⟩
  obtain ⟨b', o', hA, hb, hc⟩ := h.2.2 hn
  injection hA with hA
  injection hA with e1 e2 _
  subst e1 e2
  exact ⟨b, o, rfl, Nat.lt_of_lt_of_le hb hg.size, fun j u hu => (hg.cell_far ⟨b, o + j, none⟩ hb hne).trans (hc j u hu)⟩
end
theorem good_snoc {st : Int} {L : List ByteArray} {x : ByteArray} (h : ∀ y ∈ L, goodChange st y = true) (hx : goodChange st x = true) : ∀ y ∈ L ++ [x], goodChange st y = true := fun y hy => by
  rcases List.mem_append.1 hy with hy | hy
  · exact h y hy
  · rw [List.mem_singleton.1 hy]; exact hx
set_option maxHeartbeats 4000000 in
set_option maxRecDepth 100000 in
theorem cur_method {A : Option Addr} {n c a p : Nat} {w0 w : World} (hS : Src w0 A n) (hb : Below w0.heap.size w0 w) (hp : w0.heap.size ≤ p) (hc : Cur w p A n c a) (ha : a ≤ 1000000) :
    Calls Tryz.prog 180 #[.pointer (some ⟨p, 0, none⟩)] w fun e w' => ∃ (nm : ByteArray) (st : Nat) (A' : Option Addr) (m c' : Nat) (L : List ByteArray), e = .returned (.agg #[.string nm, .int .i64 st, .slice A' m c']) ∧ goodM nm st L = true ∧ 3 ≤ st ∧ st ≤ 6 ∧ m ≤ 12 ∧ Owned strE 1 9 w' w.heap.size A' m c' L ∧ Cur w' p A n c (a + 100) ∧ w.grownBy w' (some p) := by
  have hpw := hc.lt
  have R0 := Blk.at_ w 25 [.string ⟨#[]⟩, .int .i64 0, .slice none 0 0] (b := w.heap.size) rfl
  have b0 : Below w.heap.size w (w.alloc (.cells #[.string ⟨#[]⟩, .int .i64 0, .slice none 0 0] 25)) := by (repeat' (first | (with_reducible exact Below.refl _ _) | (with_reducible assumption) | (with_reducible refine below_drewN ?_ _) | (with_reducible refine Below.drew ?_) | (with_reducible refine below_alloc ?_ _) | (with_reducible refine Below.alloc ?_ ?_ _) | (with_reducible refine Below.setCell ?_ ?_ _) | (with_reducible refine below_go ?_ (by with_reducible assumption)) | (with_reducible refine below_then (by with_reducible assumption) ?_ ?_) | go_size))
  have G : Hid (∀ u : World, w.grownBy u (some p) → Below w0.heap.size w0 u) := Lib.hid (fun u hg => grown_below hb hp hg)
  have HS := Lib.hid hS
  clear hS hb
  go_in
  go_wp2_with fail
  obtain ⟨w1, hw1⟩ : ∃ u, u = w.alloc (.cells #[.string ⟨#[]⟩, .int .i64 0, .slice none 0 0] 25) := ⟨_, rfl⟩
  have z1 : w1.heap.size = w.heap.size + 1 := by rw [hw1]; simp
  rw [← hw1] at b0 ⊢
  have R1 : Blk w1 w.heap.size 25 [.string ⟨#[]⟩, .int .i64 0, .slice none 0 0] := by rw [hw1]; exact R0
  clear hw1 R0
  have hl1 := lit_ints w1 3 [4, 4, 5, 6, 6, 3]
  rw [z1] at hl1
  have a1 : ∀ o : Obj, Below w1.heap.size w1 (w1.alloc o) := fun o => (Below.refl _ _).alloc (Nat.le_refl _) o
  refine (cur_among HS.out (G.out _ (grown_any (below_go b0 (a1 _)) _)) hp ((hc.up b0).up (a1 _)) (by omega) rfl hl1 (by decide) (by decide) (fun b o e => by injection e with e; injection e with e; omega)).mono ?_; rintro e w2 ⟨x, hx, rfl, hc2, hg2⟩
  have g2 : w.grownBy w2 (some p) := grownBy_trans (grown_any (below_go b0 (a1 _)) _) hg2
  have R2 := (R1.up (a1 _)).grown hg2 (fun e => by injection e with e; omega)
  have s2 : w.heap.size + 1 ≤ w2.heap.size := by have := hg2.size; simp at this; omega
  simp only [List.mem_cons, List.not_mem_nil, or_false] at hx
  obtain ⟨st, rfl⟩ : ∃ st : Nat, x = (st : Int) := ⟨x.toNat, by omega⟩
  have hst : 3 ≤ st ∧ st ≤ 6 := by omega
  clear hx hl1 a1 hg2 R1 hc b0
  go_wp2_with fail
  have hl2 := lit_strs2 w2 9 [⟨#[97]⟩, ⟨#[112, 108, 97, 105, 110]⟩, ⟨#[98, 111, 98]⟩, ⟨#[108, 105, 116, 116, 108, 101]⟩]
  have a2 : ∀ o : Obj, Below w2.heap.size w2 (w2.alloc o) := fun o => (Below.refl _ _).alloc (Nat.le_refl _) o
  refine (cur_of HS.out (G.out _ (grownBy_trans g2 (grown_any (a2 _) _))) hp (hc2.up (a2 _)) (by omega) rfl hl2 (by decide) (by decide) (fun b o e => by injection e with e; injection e with e; omega)).mono ?_; rintro e w3 ⟨nm, hnm, rfl, hc3, hg3⟩
  have g3 : w.grownBy w3 (some p) := grownBy_trans (grownBy_trans g2 (grown_any (a2 _) _)) hg3
  have R3 := (R2.up (a2 _)).grown hg3 (fun e => by injection e with e; omega)
  have s3 : w.heap.size + 1 ≤ w3.heap.size := by have := hg3.size; simp at this; omega
  have hok : nameOk nm = true := by
    simp only [List.mem_cons, List.not_mem_nil, or_false] at hnm
    rcases hnm with rfl | rfl | rfl | rfl <;> decide +kernel
  clear hnm hl2 a2 hg3 R2 hc2 g2
  have K3 := Blk.at_ w3 25 [.string nm, .int .i64 (st : Int), .slice none 0 0] (b := w3.heap.size) rfl
  have a3 : Below w3.heap.size w3 (w3.alloc (.cells #[.string nm, .int .i64 (st : Int), .slice none 0 0] 25)) := by (repeat' (first | (with_reducible exact Below.refl _ _) | (with_reducible assumption) | (with_reducible refine below_drewN ?_ _) | (with_reducible refine Below.drew ?_) | (with_reducible refine below_alloc ?_ _) | (with_reducible refine Below.alloc ?_ ?_ _) | (with_reducible refine Below.setCell ?_ ?_ _) | (with_reducible refine below_go ?_ (by with_reducible assumption)) | (with_reducible refine below_then (by with_reducible assumption) ?_ ?_) | go_size))
  have M3 : MSt w (w3.alloc (.cells #[.string nm, .int .i64 (st : Int), .slice none 0 0] 25)) p A n c (a + 1 + 1) w3.heap.size nm st (.slice none 0 0) := ⟨K3, hc3.up a3, ⟨_, _, _, R3.up a3⟩, grownBy_trans g3 (grown_any a3 _), hpw, by omega⟩
  have fin : Hid (∀ (u v : World) (A' : Option Addr) (m c' : Nat) (L : List ByteArray), w.grownBy u (some p) → Cur u p A n c (a + 90) → Owned strE 1 9 u (w3.heap.size + 1) A' m c' L → 1 ≤ m → m ≤ 12 → (∀ x ∈ L, goodChange st x = true) → u.grownBy v (some w.heap.size) → ∃ (nm' : ByteArray) (st' : Nat) (A'' : Option Addr) (m' c'' : Nat) (L' : List ByteArray), Ending.returned (Value.agg #[.string nm, .int .i64 (st : Int), .slice A' m c']) = .returned (.agg #[.string nm', .int .i64 (st' : Int), .slice A'' m' c'']) ∧ goodM nm' st' L' = true ∧ 3 ≤ st' ∧ st' ≤ 6 ∧ m' ≤ 12 ∧ Owned strE 1 9 v w.heap.size A'' m' c'' L' ∧ Cur v p A n c (a + 100) ∧ w.grownBy v (some p)) := Lib.hid (fun u v A' m c' L h1 h2 h3 h4 h5 h6 h7 =>
    ⟨nm, st, A', m, c', L, rfl, goodM_of hok hst.1 (by omega) (by rw [h3.len]; exact h4) (by rw [h3.len]; omega) h6, hst.1, hst.2, h5, (h3.past h7 (by omega)).base_le (by omega), (h2.grown h7 (fun e => by injection e with e; omega)).mono (by omega), grow_own h1 h7 (fun k e => by injection e with e; omega)⟩)
  clear K3 a3 R3 g3 hc3
  by_cases h4 : 4 ≤ st
  · have hI4 : (4 : Int) ≤ (st : Int) := by omega
    go_wp2_with fail
    obtain ⟨w4, hw4⟩ : ∃ u, u = w3.alloc (.cells #[.string nm, .int .i64 (st : Int), .slice none 0 0] 25) := ⟨_, rfl⟩
    rw [← hw4] at M3 ⊢
    clear hw4
    refine (cur_one HS.out (G.out _ M3.2.2.2.1) hp M3.2.1 (by omega) (by decide) (by decide)).mono ?_; rintro e w5 ⟨b1, rfl, hc5, hg5⟩
    have HM5 := Lib.hid (M3.draw hg5 hc5)
    clear hc5 hg5 M3
    rcases b1
    · skip
      go_wp2_with fail
      refine (cur_one HS.out (G.out _ HM5.out.2.2.2.1) hp HM5.out.2.1 (by omega) (by decide) (by decide)).mono ?_; rintro e w6 ⟨b2, rfl, hc6, hg6⟩
      have HM6 := Lib.hid (HM5.out.draw hg6 hc6)
      clear hc6 hg6
      rcases b2
      · go_wp2_with fail
        refine (cur_pick HS.out (G.out _ HM6.out.2.2.2.1) hp HM6.out.2.1 (by omega) (by decide) (by decide)).mono ?_; rintro e w7 ⟨x, rfl, ⟨x0, x1⟩, hc7, hg7⟩
        have HM7 := Lib.hid (HM6.out.draw hg7 hc7)
        obtain ⟨X, rfl⟩ := Int.eq_ofNat_of_zero_le x0
        have hX : X ≤ 7 := by omega
        clear hc7 hg7 x0 x1
        go_wp2
        go_loopw [9] (fun i wr => ∃ (k m : Nat) (A' : Option Addr) (c' : Nat) (L : List ByteArray), k + m = X + 1 ∧ i = .int .i64 k ∧ Hid (MSt w wr p A n c (a + 10 + m) w3.heap.size nm st (.slice A' m c')) ∧ Hid (Owned strE 1 9 wr (w3.heap.size + 1) A' m c' L) ∧ Hid (∀ x ∈ L, goodChange st x = true) ∧ w3.heap.size < wr.heap.size) (fun i _ => (intOf i).toNat)
        case atStart => exact ⟨X + 1, 0, none, 0, [], rfl, by go_num, Lib.hid (HM7.out.mono (by omega)), Lib.hid (Owned.nil strE_len _ _ _), Lib.hid (fun s hs => by cases hs), HM7.out.1.lt⟩
        case round =>
          obtain ⟨k, m, A2, c2, L, hkm, rfl, HM, HO, HZ, hbr⟩ := hrel
          rename World => wr
          by_cases h0 : 0 < k
          · have hI : (0 : Int) < (k : Int) := by omega
            have hOl := HO.out.len
            go_upto_region 6 with fail
            obtain ⟨K1, _, _, _, K5, K6⟩ := HM.out
            have d2 := K1.cell 2; have e2 := K1.frozen 2
            simp only [List.getElem?_cons_zero, List.getElem?_cons_succ] at d2
            clear K1
            refine wp_region_any (by kernel_rfl) ?_
            (try (change wpAny _ _ _ _ _ _ _ (World.drew _)))
            refine wpAny_take (i := 0) (oi := { dst := some 25, op := _, type := _, pos := _, after := _, guard := _ }) (v := ?_) rfl (by kernel_rfl) (by kernel_rfl) (by kernel_rfl) (fun _ _ _ h => h) (Or.inl ⟨by rfl, ?_⟩) ?_
            rotate_left
            · (intro w; go_simp) <;> with_reducible rfl
            (try simp only [Act.put, List.setIfInBounds_toArray, List.set_cons_zero, List.set_cons_succ])
            refine wpAny_take (i := 2) (oi := { dst := some 27, op := _, type := _, pos := _, after := _, guard := _ }) (v := ?_) rfl (by kernel_rfl) (by kernel_rfl) (by kernel_rfl) (fun _ _ _ h => h) (Or.inl ⟨by rfl, ?_⟩) ?_
            rotate_left
            · (intro w; go_simp) <;> with_reducible rfl
            (try simp only [Act.put, List.setIfInBounds_toArray, List.set_cons_zero, List.set_cons_succ])
            refine wpAny_take (i := 3) (oi := { dst := some 28, op := _, type := _, pos := _, after := _, guard := _ }) (v := ?_) rfl (by kernel_rfl) (by kernel_rfl) (by kernel_rfl) (fun _ _ _ h => h) (Or.inl ⟨by rfl, ?_⟩) ?_
            rotate_left
            · (intro w; go_simp) <;> with_reducible rfl
            (try simp only [Act.put, List.setIfInBounds_toArray, List.set_cons_zero, List.set_cons_succ])
            refine wpAny_ready (rs := [1, 4]) (by kernel_rfl) (by simp) ?_
            refine AllReady.cons (o := _) rfl (fun K hK => ?_) (AllReady.cons (o := _) rfl (fun K hK => ?_) (AllReady.nil))
            · go_simp
              (try (refine hK _ _ ?_; clear hK K))
              (try simp only [Act.put, List.setIfInBounds_toArray, List.set_cons_zero, List.set_cons_succ])
              refine wpAny_ready (rs := [4]) (by kernel_rfl) (by simp) ?_
              refine AllReady.cons (o := _) rfl (fun K hK => ?_) (AllReady.nil)
              go_simp
              refine (cur_change HS.out (G.out _ HM.out.drew.2.2.2.1) hp HM.out.drew.2.1 (by omega) (by omega) (by omega)).mono ?_; rintro e w8 ⟨x8, rfl, gx8, zx8, hc8, hg8⟩
              have HM8 := Lib.hid (HM.out.drew.draw hg8 hc8)
              have HO8 := Lib.hid ((HO.out.up (below_drewN (Below.refl _ _) 1)).past hg8 (by omega))
              have d3 := HM8.out.1.cell 2
              simp only [List.getElem?_cons_zero, List.getElem?_cons_succ] at d3
              have d4 := (HM8.out.alloc (.cells #[.string x8] 9)).1.cell 2
              simp only [List.getElem?_cons_zero, List.getElem?_cons_succ] at d4
              try go_wp2_with fail
              (try (refine hK _ _ ?_; clear hK K))
              (try simp only [Act.put, List.setIfInBounds_toArray, List.set_cons_zero, List.set_cons_succ])
              refine wpAny_ready (rs := [5]) (by kernel_rfl) (by simp) ?_
              refine AllReady.cons (o := _) rfl (fun K hK => ?_) (AllReady.nil)
              go_simp
              (try (refine hK _ _ ?_; clear hK K))
              (try simp only [Act.put, List.setIfInBounds_toArray, List.set_cons_zero, List.set_cons_succ])
              refine wpAny_ready (rs := [6]) (by kernel_rfl) (by simp) ?_
              refine AllReady.cons (o := _) rfl (fun K hK => ?_) (AllReady.nil)
              refine step_append_rec Tryz.elStr (by rfl) _ _ (by rfl) (by rfl) (HO8.out.alloc _) x8 (by rfl) (Box.at_ _ [.string x8] _ (by rfl)) (strE_one _) (by omega) (by decide) (by have h1 := HM8.out.1.lt; have h2 := hg8.size; simp at h2 ⊢; omega) ?_
              intro A3 c3 w9 ho9 hg9 hb9
              have HM9 := Lib.hid ((HM8.out.alloc (.cells #[.string x8] 9)).grown hg9 (fun k hk => by have := (HO8.out.blk hk).1; omega))
              have d5 := HM9.out.1.cell 2; have e5 := HM9.out.1.frozen 2
              simp only [List.getElem?_cons_zero, List.getElem?_cons_succ] at d5
              (try (refine hK _ _ ?_; clear hK K))
              (try simp only [Act.put, List.setIfInBounds_toArray, List.set_cons_zero, List.set_cons_succ])
              refine wpAny_ready (rs := [7]) (by kernel_rfl) (by simp) ?_
              refine AllReady.cons (o := _) rfl (fun K hK => ?_) (AllReady.nil)
              go_simp
              (try (refine hK _ _ ?_; clear hK K))
              (try simp only [Act.put, List.setIfInBounds_toArray, List.set_cons_zero, List.set_cons_succ])
              refine wpAny_ready (rs := [8]) (by kernel_rfl) (by simp) ?_
              refine AllReady.cons (o := _) rfl (fun K hK => ?_) (AllReady.nil)
              go_simp
              (try (refine hK _ _ ?_; clear hK K))
              (try simp only [Act.put, List.setIfInBounds_toArray, List.set_cons_zero, List.set_cons_succ])
              refine wpAny_done (by kernel_rfl) ?_ _
              (try simp only [Act.put, List.setIfInBounds_toArray, List.set_cons_zero, List.set_cons_succ])
              have HZ9 := Lib.hid (good_snoc HZ.out gx8)
              have HMF := Lib.hid (HM9.out.put (v' := .slice A3 (m + 1) c3))
              have HOF := Lib.hid (own_put (b := w3.heap.size) (v' := .slice A3 (m + 1) c3) ho9 (by omega))
              clear d2 d3 d4 d5 e2 e5
              go_wp2
              go_roundw
              case rel => exact ⟨k - 1, m + 1, A3, c3, L ++ [x8], by omega, by go_num, Lib.hid (HMF.out.mono (by omega)), HOF, HZ9, HMF.out.1.lt⟩
              case measure => simp [intOf]; omega
            · go_simp
              refine (cur_change HS.out (G.out _ HM.out.drew.2.2.2.1) hp HM.out.drew.2.1 (by omega) (by omega) (by omega)).mono ?_; rintro e w8 ⟨x8, rfl, gx8, zx8, hc8, hg8⟩
              have HM8 := Lib.hid (HM.out.drew.draw hg8 hc8)
              have HO8 := Lib.hid ((HO.out.up (below_drewN (Below.refl _ _) 1)).past hg8 (by omega))
              have d3 := HM8.out.1.cell 2
              simp only [List.getElem?_cons_zero, List.getElem?_cons_succ] at d3
              have d4 := (HM8.out.alloc (.cells #[.string x8] 9)).1.cell 2
              simp only [List.getElem?_cons_zero, List.getElem?_cons_succ] at d4
              try go_wp2_with fail
              (try (refine hK _ _ ?_; clear hK K))
              (try simp only [Act.put, List.setIfInBounds_toArray, List.set_cons_zero, List.set_cons_succ])
              refine wpAny_ready (rs := [1, 5]) (by kernel_rfl) (by simp) ?_
              refine AllReady.cons (o := _) rfl (fun K hK => ?_) (AllReady.cons (o := _) rfl (fun K hK => ?_) (AllReady.nil))
              · go_simp
                (try (refine hK _ _ ?_; clear hK K))
                (try simp only [Act.put, List.setIfInBounds_toArray, List.set_cons_zero, List.set_cons_succ])
                refine wpAny_ready (rs := [5]) (by kernel_rfl) (by simp) ?_
                refine AllReady.cons (o := _) rfl (fun K hK => ?_) (AllReady.nil)
                go_simp
                (try (refine hK _ _ ?_; clear hK K))
                (try simp only [Act.put, List.setIfInBounds_toArray, List.set_cons_zero, List.set_cons_succ])
                refine wpAny_ready (rs := [6]) (by kernel_rfl) (by simp) ?_
                refine AllReady.cons (o := _) rfl (fun K hK => ?_) (AllReady.nil)
                refine step_append_rec Tryz.elStr (by rfl) _ _ (by rfl) (by rfl) (HO8.out.alloc _) x8 (by rfl) (Box.at_ _ [.string x8] _ (by rfl)) (strE_one _) (by omega) (by decide) (by have h1 := HM8.out.1.lt; have h2 := hg8.size; simp at h2 ⊢; omega) ?_
                intro A3 c3 w9 ho9 hg9 hb9
                have HM9 := Lib.hid ((HM8.out.alloc (.cells #[.string x8] 9)).grown hg9 (fun k hk => by have := (HO8.out.blk hk).1; omega))
                have d5 := HM9.out.1.cell 2; have e5 := HM9.out.1.frozen 2
                simp only [List.getElem?_cons_zero, List.getElem?_cons_succ] at d5
                (try (refine hK _ _ ?_; clear hK K))
                (try simp only [Act.put, List.setIfInBounds_toArray, List.set_cons_zero, List.set_cons_succ])
                refine wpAny_ready (rs := [7]) (by kernel_rfl) (by simp) ?_
                refine AllReady.cons (o := _) rfl (fun K hK => ?_) (AllReady.nil)
                go_simp
                (try (refine hK _ _ ?_; clear hK K))
                (try simp only [Act.put, List.setIfInBounds_toArray, List.set_cons_zero, List.set_cons_succ])
                refine wpAny_ready (rs := [8]) (by kernel_rfl) (by simp) ?_
                refine AllReady.cons (o := _) rfl (fun K hK => ?_) (AllReady.nil)
                go_simp
                (try (refine hK _ _ ?_; clear hK K))
                (try simp only [Act.put, List.setIfInBounds_toArray, List.set_cons_zero, List.set_cons_succ])
                refine wpAny_done (by kernel_rfl) ?_ _
                (try simp only [Act.put, List.setIfInBounds_toArray, List.set_cons_zero, List.set_cons_succ])
                have HZ9 := Lib.hid (good_snoc HZ.out gx8)
                have HMF := Lib.hid (HM9.out.put (v' := .slice A3 (m + 1) c3))
                have HOF := Lib.hid (own_put (b := w3.heap.size) (v' := .slice A3 (m + 1) c3) ho9 (by omega))
                clear d2 d3 d4 d5 e2 e5
                go_wp2
                go_roundw
                case rel => exact ⟨k - 1, m + 1, A3, c3, L ++ [x8], by omega, by go_num, Lib.hid (HMF.out.mono (by omega)), HOF, HZ9, HMF.out.1.lt⟩
                case measure => simp [intOf]; omega
              · go_simp
                (try (refine hK _ _ ?_; clear hK K))
                (try simp only [Act.put, List.setIfInBounds_toArray, List.set_cons_zero, List.set_cons_succ])
                refine wpAny_ready (rs := [1]) (by kernel_rfl) (by simp) ?_
                refine AllReady.cons (o := _) rfl (fun K hK => ?_) (AllReady.nil)
                go_simp
                (try (refine hK _ _ ?_; clear hK K))
                (try simp only [Act.put, List.setIfInBounds_toArray, List.set_cons_zero, List.set_cons_succ])
                refine wpAny_ready (rs := [6]) (by kernel_rfl) (by simp) ?_
                refine AllReady.cons (o := _) rfl (fun K hK => ?_) (AllReady.nil)
                refine step_append_rec Tryz.elStr (by rfl) _ _ (by rfl) (by rfl) (HO8.out.alloc _) x8 (by rfl) (Box.at_ _ [.string x8] _ (by rfl)) (strE_one _) (by omega) (by decide) (by have h1 := HM8.out.1.lt; have h2 := hg8.size; simp at h2 ⊢; omega) ?_
                intro A3 c3 w9 ho9 hg9 hb9
                have HM9 := Lib.hid ((HM8.out.alloc (.cells #[.string x8] 9)).grown hg9 (fun k hk => by have := (HO8.out.blk hk).1; omega))
                have d5 := HM9.out.1.cell 2; have e5 := HM9.out.1.frozen 2
                simp only [List.getElem?_cons_zero, List.getElem?_cons_succ] at d5
                (try (refine hK _ _ ?_; clear hK K))
                (try simp only [Act.put, List.setIfInBounds_toArray, List.set_cons_zero, List.set_cons_succ])
                refine wpAny_ready (rs := [7]) (by kernel_rfl) (by simp) ?_
                refine AllReady.cons (o := _) rfl (fun K hK => ?_) (AllReady.nil)
                go_simp
                (try (refine hK _ _ ?_; clear hK K))
                (try simp only [Act.put, List.setIfInBounds_toArray, List.set_cons_zero, List.set_cons_succ])
                refine wpAny_ready (rs := [8]) (by kernel_rfl) (by simp) ?_
                refine AllReady.cons (o := _) rfl (fun K hK => ?_) (AllReady.nil)
                go_simp
                (try (refine hK _ _ ?_; clear hK K))
                (try simp only [Act.put, List.setIfInBounds_toArray, List.set_cons_zero, List.set_cons_succ])
                refine wpAny_done (by kernel_rfl) ?_ _
                (try simp only [Act.put, List.setIfInBounds_toArray, List.set_cons_zero, List.set_cons_succ])
                have HZ9 := Lib.hid (good_snoc HZ.out gx8)
                have HMF := Lib.hid (HM9.out.put (v' := .slice A3 (m + 1) c3))
                have HOF := Lib.hid (own_put (b := w3.heap.size) (v' := .slice A3 (m + 1) c3) ho9 (by omega))
                clear d2 d3 d4 d5 e2 e5
                go_wp2
                go_roundw
                case rel => exact ⟨k - 1, m + 1, A3, c3, L ++ [x8], by omega, by go_num, Lib.hid (HMF.out.mono (by omega)), HOF, HZ9, HMF.out.1.lt⟩
                case measure => simp [intOf]; omega
          · obtain rfl : k = 0 := by omega
            have hOl := HO.out.len
            obtain ⟨K1, K2, ⟨rx, ry, rz, K3⟩, K4, K5, K6⟩ := HM.out
            have kc0 := K1.cell 0; have kc1 := K1.cell 1; have kc2 := K1.cell 2
            have kd0 := K3.cell 0; have kd1 := K3.cell 1; have kd2 := K3.cell 2
            have kf0 := K3.frozen 0; have kf1 := K3.frozen 1; have kf2 := K3.frozen 2
            simp only [List.getElem?_cons_zero, List.getElem?_cons_succ] at kc0 kc1 kc2 kd0 kd1 kd2
            have Z := ((K3.set_ 0 (.string nm)).set_ 1 (.int .i64 (st : Int))).set_ 2 (.slice A2 (m) c2)
            have y0 := Z.cell 0; have y1 := Z.cell 1; have y2 := Z.cell 2
            simp only [List.set_cons_zero, List.set_cons_succ, List.getElem?_cons_zero, List.getElem?_cons_succ] at y0 y1 y2
            have HK := Lib.hid K2; have HGR := Lib.hid K4
            clear K1 K2 K3 K4 Z
            go_wp2_with fail
            refine bodyPost_ret (v := .agg #[.string nm, .int .i64 (st : Int), .slice A2 (m) c2]) (by simp [results, Tryz.results180, go_sem, y0, y1, y2]) rfl ?_
            exact fin.out _ _ _ _ _ _ HGR.out (HK.out.mono (by omega)) HO.out (by omega) (by omega) HZ.out (grownBy_trans (grownBy_trans (only_set _ (p := ⟨w.heap.size, 0, none⟩) _) (only_set _ (p := ⟨w.heap.size, 1, none⟩) _)) (only_set _ (p := ⟨w.heap.size, 2, none⟩) _))
      · go_wp2_with fail
        refine (cur_pick HS.out (G.out _ HM6.out.2.2.2.1) hp HM6.out.2.1 (by omega) (by decide) (by decide)).mono ?_; rintro e w7 ⟨x, rfl, ⟨x0, x1⟩, hc7, hg7⟩
        have HM7 := Lib.hid (HM6.out.draw hg7 hc7)
        obtain ⟨X, rfl⟩ := Int.eq_ofNat_of_zero_le x0
        have hX : X ≤ 3 := by omega
        clear hc7 hg7 x0 x1
        go_wp2
        go_loopw [6, 7] (fun v i wr => ∃ (k m : Nat) (A' : Option Addr) (c' : Nat) (H : List ByteArray), k + m = X + 1 ∧ i = .int .i64 k ∧ v = .slice A' m c' ∧ Hid (MSt w wr p A n c (a + 10 + m) w3.heap.size nm st (.slice none 0 0)) ∧ Hid (Owned strE 1 9 wr (w3.heap.size + 1) A' m c' H) ∧ Hid (∀ x ∈ H, goodChange st x = true) ∧ w3.heap.size < wr.heap.size) (fun _ i _ => (intOf i).toNat)
        case atStart => exact ⟨X + 1, 0, none, 0, [], rfl, by go_num, rfl, Lib.hid (HM7.out.mono (by omega)), Lib.hid (Owned.nil strE_len _ _ _), Lib.hid (fun s hs => by cases hs), HM7.out.1.lt⟩
        case round =>
          obtain ⟨k, m, A2, c2, H, hkm, rfl, rfl, HM, HO, HZ, hbr⟩ := hrel
          rename World => wr
          by_cases h0 : 0 < k
          · have hI : (0 : Int) < (k : Int) := by omega
            have hOl := HO.out.len
            go_wp2_with fail
            refine (cur_change HS.out (G.out _ HM.out.2.2.2.1) hp HM.out.2.1 (by omega) (by omega) (by omega)).mono ?_; rintro e w8 ⟨x8, rfl, gx8, zx8, hc8, hg8⟩
            have HM8 := Lib.hid (HM.out.draw hg8 hc8)
            have HO8 := Lib.hid (HO.out.past hg8 (by have := HM.out.2.2.2.2; omega))
            have hs8 := HM8.out.1.lt
            have HZ9 := Lib.hid (good_snoc HZ.out gx8)
            clear hc8 hg8
            go_wp2_with (first | (at_builtin; go_must ((refine wpList_append_recs Tryz.elStr strE_one rfl (.tmp 60) (.tmp 64) rfl rfl (HO8.out.alloc _) rfl (own_lit1_at' strE_len _ 9 x8 rfl (Nat.le_refl _)).recs rfl ?_ (by decide) ?_ ?_; (focus (first | omega | (simp only [World.size_alloc]; done) | (simp only [World.size_alloc]; omega) | (simp; done) | (simp; omega))); (simp; omega); intro A3 c3 w9 ho9 hg9 hl9; have HM9 := Lib.hid ((HM8.out.alloc (.cells ⟨[Value.string x8]⟩ 9)).grown hg9 (fun k hk => by have := (HO8.out.blk hk).1; omega))))))
            go_roundw
            case rel => exact ⟨k - 1, m + 1, A3, c3, H ++ [x8], by omega, by go_num, rfl, Lib.hid (HM9.out.mono (by omega)), Lib.hid ho9, HZ9, HM9.out.1.lt⟩
            case measure => simp [intOf]; omega
          · obtain rfl : k = 0 := by omega
            have hHl := HO.out.len
            obtain ⟨gH, rfl, gH0, gH1, _, _⟩ := HO.out.at_ (by omega)
            have HR := Lib.hid HO.out.recs
            have HG := Lib.hid HZ.out
            go_wp2_with fail
            refine (spec_l1OwnS hHl HR.out (by omega)).mono ?_; rintro e w8 ⟨A3, c3, rfl, ho3, hb3⟩
            have HM3 := Lib.hid (HM.out.up hb3)
            have HR3 := Lib.hid (HR.out.up hb3)
            have hs3 := hb3.size
            clear hb3
            go_wp2_with fail
            refine (cur_change HS.out (G.out _ HM3.out.2.2.2.1) hp HM3.out.2.1 (by omega) (by omega) (by omega)).mono ?_; rintro e w9 ⟨x9, rfl, gx9, zx9, hc9, hg9⟩
            have hpb := HM3.out.2.2.2.2
            have HM4 := Lib.hid (HM3.out.draw hg9 hc9)
            have HO4 := Lib.hid (ho3.past hg9 (by omega))
            have HR4 := Lib.hid (strs_grown HR3.out hg9 (fun e => by injection e with e; omega))
            have hs9 := hg9.size
            have HZ4 := Lib.hid (good_snoc HZ.out gx9)
            have HML := Lib.hid (HM4.out.alloc (.cells ⟨[Value.string x9]⟩ 9))
            have HRL := Lib.hid (HR4.out.alloc (.cells ⟨[Value.string x9]⟩ 9))
            have hs9' : wr.heap.size ≤ (w9.alloc (.cells ⟨[Value.string x9]⟩ 9)).heap.size := by simp; omega
            obtain ⟨wb, hwb⟩ : ∃ b, b = wr.heap.size := ⟨_, rfl⟩
            rw [← hwb] at ho3 HO4 gH1 hs3 hs9' 
            clear hc9 hg9 ho3 HM3 HR3
            go_wp2_with (first | (at_builtin; go_must ((refine wpList_append_recs Tryz.elStr strE_one rfl (.tmp 67) (.tmp 71) rfl rfl (HO4.out.alloc _) rfl (own_lit1_at' strE_len _ 9 x9 rfl (Nat.le_refl _)).recs rfl ?_ (by decide) ?_ ?_; (focus (first | omega | (simp only [World.size_alloc]; done) | (simp only [World.size_alloc]; omega) | (simp; done) | (simp; omega))); (simp; omega); intro A5 c5 w10 ho5 hg5 hl5; have HM5 := Lib.hid (HML.out.grown hg5 (fun k hk => by have := (HO4.out.blk hk).1; omega)); have HR5 := Lib.hid (strs_grown HRL.out hg5 (fun e => by have := (HO4.out.blk e.symm).1; omega)); have g2 := HM5.out.1.cell 2; have e2 := HM5.out.1.frozen 2; simp only [List.getElem?_cons_zero, List.getElem?_cons_succ] at g2; have HMF := Lib.hid (HM5.out.put (v' := .slice A5 (m + 1) c5)); have HOF := Lib.hid (own_put (b := w3.heap.size) (v' := .slice A5 (m + 1) c5) ho5 (by omega)); have HRF := Lib.hid (strs_grown HR5.out (only_set w10 (p := ⟨w3.heap.size, 2, none⟩) (.slice A5 (m + 1) c5)) (fun e => by injection e with e; dsimp only at e; omega))))))
            obtain ⟨w11, hw11⟩ : ∃ u, u = w10.setCell ⟨w3.heap.size, 2, none⟩ (.slice A5 (m + 1) c5) := ⟨_, rfl⟩
            rw [← hw11] at HMF HOF HRF ⊢
            have hB4 : w3.heap.size < wb := by omega
            have hs11 : wb ≤ w11.heap.size := by have := hg5.size; rw [hw11]; simp at this ⊢; omega
            clear hw11 ho5 hg5 hl5 HM5 HR5 g2 e2 HM4 HO4 HR4 HML HRL
            go_wp2
            go_loopw [8] (fun i wr => ∃ (k q : Nat) (A' : Option Addr) (c' : Nat) (L : List ByteArray), k + q = m ∧ i = .int .i64 ((k : Int) - 1) ∧ Hid (MSt w wr p A n c (a + 20 + m) w3.heap.size nm st (.slice A' (m + 1 + q) c')) ∧ Hid (Owned strE 1 9 wr wb A' (m + 1 + q) c' L) ∧ Hid (∀ x ∈ L, goodChange st x = true) ∧ Hid (Strs wr (some ⟨gH, 0, none⟩) H) ∧ wb ≤ wr.heap.size) (fun i _ => (intOf i + 1).toNat)
            case atStart => exact ⟨m, 0, A5, c5, H ++ [x9], rfl, by go_num, Lib.hid (HMF.out.mono (by omega)), HOF, HZ4, HRF, hs11⟩
            case round =>
              obtain ⟨k, q, A2, c2, L, hkq, rfl, HM, HO, HZ, HR, hsr⟩ := hrel
              rename World => wr
              have hOl := HO.out.len
              rcases k with _ | k
              · rw [show (((0 : Nat) : Int) - 1) = -1 by omega]
                obtain rfl : q = m := by omega
                go_upto_region 23 with fail
                obtain ⟨K1, _, _, _, K5, K6⟩ := HM.out
                have d2 := K1.cell 2; have e2 := K1.frozen 2
                simp only [List.getElem?_cons_zero, List.getElem?_cons_succ] at d2
                clear K1
                refine wp_region_any (by kernel_rfl) ?_
                (try (change wpAny _ _ _ _ _ _ _ (World.drew _)))
                refine wpAny_take (i := 0) (oi := { dst := some 90, op := _, type := _, pos := _, after := _, guard := _ }) (v := ?_) rfl (by kernel_rfl) (by kernel_rfl) (by kernel_rfl) (fun _ _ _ h => h) (Or.inl ⟨by rfl, ?_⟩) ?_
                rotate_left
                · (intro w; go_simp) <;> with_reducible rfl
                (try simp only [Act.put, List.setIfInBounds_toArray, List.set_cons_zero, List.set_cons_succ])
                refine wpAny_take (i := 2) (oi := { dst := some 92, op := _, type := _, pos := _, after := _, guard := _ }) (v := ?_) rfl (by kernel_rfl) (by kernel_rfl) (by kernel_rfl) (fun _ _ _ h => h) (Or.inl ⟨by rfl, ?_⟩) ?_
                rotate_left
                · (intro w; go_simp) <;> with_reducible rfl
                (try simp only [Act.put, List.setIfInBounds_toArray, List.set_cons_zero, List.set_cons_succ])
                refine wpAny_take (i := 3) (oi := { dst := some 93, op := _, type := _, pos := _, after := _, guard := _ }) (v := ?_) rfl (by kernel_rfl) (by kernel_rfl) (by kernel_rfl) (fun _ _ _ h => h) (Or.inl ⟨by rfl, ?_⟩) ?_
                rotate_left
                · (intro w; go_simp) <;> with_reducible rfl
                (try simp only [Act.put, List.setIfInBounds_toArray, List.set_cons_zero, List.set_cons_succ])
                refine wpAny_ready (rs := [1, 4]) (by kernel_rfl) (by simp) ?_
                refine AllReady.cons (o := _) rfl (fun K hK => ?_) (AllReady.cons (o := _) rfl (fun K hK => ?_) (AllReady.nil))
                · go_simp
                  (try (refine hK _ _ ?_; clear hK K))
                  (try simp only [Act.put, List.setIfInBounds_toArray, List.set_cons_zero, List.set_cons_succ])
                  refine wpAny_ready (rs := [4]) (by kernel_rfl) (by simp) ?_
                  refine AllReady.cons (o := _) rfl (fun K hK => ?_) (AllReady.nil)
                  go_simp
                  refine (cur_change HS.out (G.out _ HM.out.drew.2.2.2.1) hp HM.out.drew.2.1 (by omega) (by omega) (by omega)).mono ?_; rintro e w8 ⟨x8, rfl, gx8, zx8, hc8, hg8⟩
                  have HM8 := Lib.hid (HM.out.drew.draw hg8 hc8)
                  have HO8 := Lib.hid ((HO.out.up (below_drewN (Below.refl _ _) 1)).past hg8 (by omega))
                  have d3 := HM8.out.1.cell 2
                  simp only [List.getElem?_cons_zero, List.getElem?_cons_succ] at d3
                  have d4 := (HM8.out.alloc (.cells #[.string x8] 9)).1.cell 2
                  simp only [List.getElem?_cons_zero, List.getElem?_cons_succ] at d4
                  try go_wp2_with fail
                  (try (refine hK _ _ ?_; clear hK K))
                  (try simp only [Act.put, List.setIfInBounds_toArray, List.set_cons_zero, List.set_cons_succ])
                  refine wpAny_ready (rs := [5]) (by kernel_rfl) (by simp) ?_
                  refine AllReady.cons (o := _) rfl (fun K hK => ?_) (AllReady.nil)
                  go_simp
                  (try (refine hK _ _ ?_; clear hK K))
                  (try simp only [Act.put, List.setIfInBounds_toArray, List.set_cons_zero, List.set_cons_succ])
                  refine wpAny_ready (rs := [6]) (by kernel_rfl) (by simp) ?_
                  refine AllReady.cons (o := _) rfl (fun K hK => ?_) (AllReady.nil)
                  refine step_append_rec Tryz.elStr (by rfl) _ _ (by rfl) (by rfl) (HO8.out.alloc _) x8 (by rfl) (Box.at_ _ [.string x8] _ (by rfl)) (strE_one _) (by omega) (by decide) (by have h1 := HM8.out.1.lt; have h2 := hg8.size; simp at h2 ⊢; omega) ?_
                  intro A3 c3 w9 ho9 hg9 hb9
                  have HM9 := Lib.hid ((HM8.out.alloc (.cells #[.string x8] 9)).grown hg9 (fun k hk => by have := (HO8.out.blk hk).1; omega))
                  have d5 := HM9.out.1.cell 2; have e5 := HM9.out.1.frozen 2
                  simp only [List.getElem?_cons_zero, List.getElem?_cons_succ] at d5
                  (try (refine hK _ _ ?_; clear hK K))
                  (try simp only [Act.put, List.setIfInBounds_toArray, List.set_cons_zero, List.set_cons_succ])
                  refine wpAny_ready (rs := [7]) (by kernel_rfl) (by simp) ?_
                  refine AllReady.cons (o := _) rfl (fun K hK => ?_) (AllReady.nil)
                  go_simp
                  (try (refine hK _ _ ?_; clear hK K))
                  (try simp only [Act.put, List.setIfInBounds_toArray, List.set_cons_zero, List.set_cons_succ])
                  refine wpAny_ready (rs := [8]) (by kernel_rfl) (by simp) ?_
                  refine AllReady.cons (o := _) rfl (fun K hK => ?_) (AllReady.nil)
                  go_simp
                  (try (refine hK _ _ ?_; clear hK K))
                  (try simp only [Act.put, List.setIfInBounds_toArray, List.set_cons_zero, List.set_cons_succ])
                  refine wpAny_done (by kernel_rfl) ?_ _
                  (try simp only [Act.put, List.setIfInBounds_toArray, List.set_cons_zero, List.set_cons_succ])
                  have HZ := Lib.hid (good_snoc HZ.out gx8)
                  have HM := Lib.hid (HM9.out.put (v' := .slice A3 (q + 1 + q + 1) c3))
                  have HO := Lib.hid ((own_put (b := w3.heap.size) (v' := .slice A3 (q + 1 + q + 1) c3) ho9 (by omega)).base_le (show w3.heap.size + 1 ≤ wb by omega))
                  clear d2 d3 d4 d5 e2 e5 HM8 HO8 HM9 ho9 hg9 hb9 hc8 hg8 K5 K6
                  obtain ⟨K1, K2, ⟨rx, ry, rz, K3⟩, K4, K5, K6⟩ := HM.out
                  have kc0 := K1.cell 0; have kc1 := K1.cell 1; have kc2 := K1.cell 2
                  have kd0 := K3.cell 0; have kd1 := K3.cell 1; have kd2 := K3.cell 2
                  have kf0 := K3.frozen 0; have kf1 := K3.frozen 1; have kf2 := K3.frozen 2
                  simp only [List.getElem?_cons_zero, List.getElem?_cons_succ] at kc0 kc1 kc2 kd0 kd1 kd2
                  have Z := ((K3.set_ 0 (.string nm)).set_ 1 (.int .i64 (st : Int))).set_ 2 (.slice A3 (q + 1 + q + 1) c3)
                  have y0 := Z.cell 0; have y1 := Z.cell 1; have y2 := Z.cell 2
                  simp only [List.set_cons_zero, List.set_cons_succ, List.getElem?_cons_zero, List.getElem?_cons_succ] at y0 y1 y2
                  have HK := Lib.hid K2; have HGR := Lib.hid K4
                  clear K1 K2 K3 K4 Z
                  go_wp2_with fail
                  refine bodyPost_ret (v := .agg #[.string nm, .int .i64 (st : Int), .slice A3 (q + 1 + q + 1) c3]) (by simp [results, Tryz.results180, go_sem, y0, y1, y2]) rfl ?_
                  exact fin.out _ _ _ _ _ _ HGR.out (HK.out.mono (by omega)) HO.out (by omega) (by omega) HZ.out (grownBy_trans (grownBy_trans (only_set _ (p := ⟨w.heap.size, 0, none⟩) _) (only_set _ (p := ⟨w.heap.size, 1, none⟩) _)) (only_set _ (p := ⟨w.heap.size, 2, none⟩) _))
                · go_simp
                  refine (cur_change HS.out (G.out _ HM.out.drew.2.2.2.1) hp HM.out.drew.2.1 (by omega) (by omega) (by omega)).mono ?_; rintro e w8 ⟨x8, rfl, gx8, zx8, hc8, hg8⟩
                  have HM8 := Lib.hid (HM.out.drew.draw hg8 hc8)
                  have HO8 := Lib.hid ((HO.out.up (below_drewN (Below.refl _ _) 1)).past hg8 (by omega))
                  have d3 := HM8.out.1.cell 2
                  simp only [List.getElem?_cons_zero, List.getElem?_cons_succ] at d3
                  have d4 := (HM8.out.alloc (.cells #[.string x8] 9)).1.cell 2
                  simp only [List.getElem?_cons_zero, List.getElem?_cons_succ] at d4
                  try go_wp2_with fail
                  (try (refine hK _ _ ?_; clear hK K))
                  (try simp only [Act.put, List.setIfInBounds_toArray, List.set_cons_zero, List.set_cons_succ])
                  refine wpAny_ready (rs := [1, 5]) (by kernel_rfl) (by simp) ?_
                  refine AllReady.cons (o := _) rfl (fun K hK => ?_) (AllReady.cons (o := _) rfl (fun K hK => ?_) (AllReady.nil))
                  · go_simp
                    (try (refine hK _ _ ?_; clear hK K))
                    (try simp only [Act.put, List.setIfInBounds_toArray, List.set_cons_zero, List.set_cons_succ])
                    refine wpAny_ready (rs := [5]) (by kernel_rfl) (by simp) ?_
                    refine AllReady.cons (o := _) rfl (fun K hK => ?_) (AllReady.nil)
                    go_simp
                    (try (refine hK _ _ ?_; clear hK K))
                    (try simp only [Act.put, List.setIfInBounds_toArray, List.set_cons_zero, List.set_cons_succ])
                    refine wpAny_ready (rs := [6]) (by kernel_rfl) (by simp) ?_
                    refine AllReady.cons (o := _) rfl (fun K hK => ?_) (AllReady.nil)
                    refine step_append_rec Tryz.elStr (by rfl) _ _ (by rfl) (by rfl) (HO8.out.alloc _) x8 (by rfl) (Box.at_ _ [.string x8] _ (by rfl)) (strE_one _) (by omega) (by decide) (by have h1 := HM8.out.1.lt; have h2 := hg8.size; simp at h2 ⊢; omega) ?_
                    intro A3 c3 w9 ho9 hg9 hb9
                    have HM9 := Lib.hid ((HM8.out.alloc (.cells #[.string x8] 9)).grown hg9 (fun k hk => by have := (HO8.out.blk hk).1; omega))
                    have d5 := HM9.out.1.cell 2; have e5 := HM9.out.1.frozen 2
                    simp only [List.getElem?_cons_zero, List.getElem?_cons_succ] at d5
                    (try (refine hK _ _ ?_; clear hK K))
                    (try simp only [Act.put, List.setIfInBounds_toArray, List.set_cons_zero, List.set_cons_succ])
                    refine wpAny_ready (rs := [7]) (by kernel_rfl) (by simp) ?_
                    refine AllReady.cons (o := _) rfl (fun K hK => ?_) (AllReady.nil)
                    go_simp
                    (try (refine hK _ _ ?_; clear hK K))
                    (try simp only [Act.put, List.setIfInBounds_toArray, List.set_cons_zero, List.set_cons_succ])
                    refine wpAny_ready (rs := [8]) (by kernel_rfl) (by simp) ?_
                    refine AllReady.cons (o := _) rfl (fun K hK => ?_) (AllReady.nil)
                    go_simp
                    (try (refine hK _ _ ?_; clear hK K))
                    (try simp only [Act.put, List.setIfInBounds_toArray, List.set_cons_zero, List.set_cons_succ])
                    refine wpAny_done (by kernel_rfl) ?_ _
                    (try simp only [Act.put, List.setIfInBounds_toArray, List.set_cons_zero, List.set_cons_succ])
                    have HZ := Lib.hid (good_snoc HZ.out gx8)
                    have HM := Lib.hid (HM9.out.put (v' := .slice A3 (q + 1 + q + 1) c3))
                    have HO := Lib.hid ((own_put (b := w3.heap.size) (v' := .slice A3 (q + 1 + q + 1) c3) ho9 (by omega)).base_le (show w3.heap.size + 1 ≤ wb by omega))
                    clear d2 d3 d4 d5 e2 e5 HM8 HO8 HM9 ho9 hg9 hb9 hc8 hg8 K5 K6
                    obtain ⟨K1, K2, ⟨rx, ry, rz, K3⟩, K4, K5, K6⟩ := HM.out
                    have kc0 := K1.cell 0; have kc1 := K1.cell 1; have kc2 := K1.cell 2
                    have kd0 := K3.cell 0; have kd1 := K3.cell 1; have kd2 := K3.cell 2
                    have kf0 := K3.frozen 0; have kf1 := K3.frozen 1; have kf2 := K3.frozen 2
                    simp only [List.getElem?_cons_zero, List.getElem?_cons_succ] at kc0 kc1 kc2 kd0 kd1 kd2
                    have Z := ((K3.set_ 0 (.string nm)).set_ 1 (.int .i64 (st : Int))).set_ 2 (.slice A3 (q + 1 + q + 1) c3)
                    have y0 := Z.cell 0; have y1 := Z.cell 1; have y2 := Z.cell 2
                    simp only [List.set_cons_zero, List.set_cons_succ, List.getElem?_cons_zero, List.getElem?_cons_succ] at y0 y1 y2
                    have HK := Lib.hid K2; have HGR := Lib.hid K4
                    clear K1 K2 K3 K4 Z
                    go_wp2_with fail
                    refine bodyPost_ret (v := .agg #[.string nm, .int .i64 (st : Int), .slice A3 (q + 1 + q + 1) c3]) (by simp [results, Tryz.results180, go_sem, y0, y1, y2]) rfl ?_
                    exact fin.out _ _ _ _ _ _ HGR.out (HK.out.mono (by omega)) HO.out (by omega) (by omega) HZ.out (grownBy_trans (grownBy_trans (only_set _ (p := ⟨w.heap.size, 0, none⟩) _) (only_set _ (p := ⟨w.heap.size, 1, none⟩) _)) (only_set _ (p := ⟨w.heap.size, 2, none⟩) _))
                  · go_simp
                    (try (refine hK _ _ ?_; clear hK K))
                    (try simp only [Act.put, List.setIfInBounds_toArray, List.set_cons_zero, List.set_cons_succ])
                    refine wpAny_ready (rs := [1]) (by kernel_rfl) (by simp) ?_
                    refine AllReady.cons (o := _) rfl (fun K hK => ?_) (AllReady.nil)
                    go_simp
                    (try (refine hK _ _ ?_; clear hK K))
                    (try simp only [Act.put, List.setIfInBounds_toArray, List.set_cons_zero, List.set_cons_succ])
                    refine wpAny_ready (rs := [6]) (by kernel_rfl) (by simp) ?_
                    refine AllReady.cons (o := _) rfl (fun K hK => ?_) (AllReady.nil)
                    refine step_append_rec Tryz.elStr (by rfl) _ _ (by rfl) (by rfl) (HO8.out.alloc _) x8 (by rfl) (Box.at_ _ [.string x8] _ (by rfl)) (strE_one _) (by omega) (by decide) (by have h1 := HM8.out.1.lt; have h2 := hg8.size; simp at h2 ⊢; omega) ?_
                    intro A3 c3 w9 ho9 hg9 hb9
                    have HM9 := Lib.hid ((HM8.out.alloc (.cells #[.string x8] 9)).grown hg9 (fun k hk => by have := (HO8.out.blk hk).1; omega))
                    have d5 := HM9.out.1.cell 2; have e5 := HM9.out.1.frozen 2
                    simp only [List.getElem?_cons_zero, List.getElem?_cons_succ] at d5
                    (try (refine hK _ _ ?_; clear hK K))
                    (try simp only [Act.put, List.setIfInBounds_toArray, List.set_cons_zero, List.set_cons_succ])
                    refine wpAny_ready (rs := [7]) (by kernel_rfl) (by simp) ?_
                    refine AllReady.cons (o := _) rfl (fun K hK => ?_) (AllReady.nil)
                    go_simp
                    (try (refine hK _ _ ?_; clear hK K))
                    (try simp only [Act.put, List.setIfInBounds_toArray, List.set_cons_zero, List.set_cons_succ])
                    refine wpAny_ready (rs := [8]) (by kernel_rfl) (by simp) ?_
                    refine AllReady.cons (o := _) rfl (fun K hK => ?_) (AllReady.nil)
                    go_simp
                    (try (refine hK _ _ ?_; clear hK K))
                    (try simp only [Act.put, List.setIfInBounds_toArray, List.set_cons_zero, List.set_cons_succ])
                    refine wpAny_done (by kernel_rfl) ?_ _
                    (try simp only [Act.put, List.setIfInBounds_toArray, List.set_cons_zero, List.set_cons_succ])
                    have HZ := Lib.hid (good_snoc HZ.out gx8)
                    have HM := Lib.hid (HM9.out.put (v' := .slice A3 (q + 1 + q + 1) c3))
                    have HO := Lib.hid ((own_put (b := w3.heap.size) (v' := .slice A3 (q + 1 + q + 1) c3) ho9 (by omega)).base_le (show w3.heap.size + 1 ≤ wb by omega))
                    clear d2 d3 d4 d5 e2 e5 HM8 HO8 HM9 ho9 hg9 hb9 hc8 hg8 K5 K6
                    obtain ⟨K1, K2, ⟨rx, ry, rz, K3⟩, K4, K5, K6⟩ := HM.out
                    have kc0 := K1.cell 0; have kc1 := K1.cell 1; have kc2 := K1.cell 2
                    have kd0 := K3.cell 0; have kd1 := K3.cell 1; have kd2 := K3.cell 2
                    have kf0 := K3.frozen 0; have kf1 := K3.frozen 1; have kf2 := K3.frozen 2
                    simp only [List.getElem?_cons_zero, List.getElem?_cons_succ] at kc0 kc1 kc2 kd0 kd1 kd2
                    have Z := ((K3.set_ 0 (.string nm)).set_ 1 (.int .i64 (st : Int))).set_ 2 (.slice A3 (q + 1 + q + 1) c3)
                    have y0 := Z.cell 0; have y1 := Z.cell 1; have y2 := Z.cell 2
                    simp only [List.set_cons_zero, List.set_cons_succ, List.getElem?_cons_zero, List.getElem?_cons_succ] at y0 y1 y2
                    have HK := Lib.hid K2; have HGR := Lib.hid K4
                    clear K1 K2 K3 K4 Z
                    go_wp2_with fail
                    refine bodyPost_ret (v := .agg #[.string nm, .int .i64 (st : Int), .slice A3 (q + 1 + q + 1) c3]) (by simp [results, Tryz.results180, go_sem, y0, y1, y2]) rfl ?_
                    exact fin.out _ _ _ _ _ _ HGR.out (HK.out.mono (by omega)) HO.out (by omega) (by omega) HZ.out (grownBy_trans (grownBy_trans (only_set _ (p := ⟨w.heap.size, 0, none⟩) _) (only_set _ (p := ⟨w.heap.size, 1, none⟩) _)) (only_set _ (p := ⟨w.heap.size, 2, none⟩) _))
              · rw [show (((k + 1 : Nat) : Int) - 1) = (k : Int) by omega]
                have hI : (0 : Int) ≤ (k : Int) := by omega
                obtain ⟨b3, o3, y, hA, hbb, hy, hcy⟩ := HR.out.at_str (k := k) (by omega)
                injection hA with hA
                injection hA with e1 e2 _
                subst e1 e2
                have gy := HG.out y (List.mem_of_getElem? hy)
                obtain ⟨K1, _, _, _, K5, K6⟩ := HM.out
                have d2 := K1.cell 2; have e2 := K1.frozen 2
                have d4 := (HM.out.alloc (.cells #[.string y] 9)).1.cell 2
                have hJ : (k : Int) < (m : Int) := by omega
                simp only [List.getElem?_cons_zero, List.getElem?_cons_succ, Nat.zero_add] at d2 d4 hcy
                have HO8 := Lib.hid (HO.out.up (below_drewN (Below.refl _ _) 1))
                clear K1 hy
                go_upto_region 22 with fail
                refine wp_region_any (by kernel_rfl) ?_
                (try (change wpAny _ _ _ _ _ _ _ (World.drew _)))
                refine wpAny_take (i := 0) (oi := { dst := some 81, op := _, type := _, pos := _, after := _, guard := _ }) (v := ?_) rfl (by kernel_rfl) (by kernel_rfl) (by kernel_rfl) (fun _ _ _ h => h) (Or.inl ⟨by rfl, ?_⟩) ?_
                rotate_left
                · (intro w; go_simp) <;> with_reducible rfl
                (try simp only [Act.put, List.setIfInBounds_toArray, List.set_cons_zero, List.set_cons_succ])
                refine wpAny_take (i := 2) (oi := { dst := some 83, op := _, type := _, pos := _, after := _, guard := _ }) (v := ?_) rfl (by kernel_rfl) (by kernel_rfl) (by kernel_rfl) (fun _ _ _ h => h) (Or.inl ⟨by rfl, ?_⟩) ?_
                rotate_left
                · (intro w; go_simp) <;> with_reducible rfl
                (try simp only [Act.put, List.setIfInBounds_toArray, List.set_cons_zero, List.set_cons_succ])
                refine wpAny_take (i := 3) (oi := { dst := some 84, op := _, type := _, pos := _, after := _, guard := _ }) (v := ?_) rfl (by kernel_rfl) (by kernel_rfl) (by kernel_rfl) (fun _ _ _ h => h) (Or.inl ⟨by rfl, ?_⟩) ?_
                rotate_left
                · (intro w; go_simp) <;> with_reducible rfl
                (try simp only [Act.put, List.setIfInBounds_toArray, List.set_cons_zero, List.set_cons_succ])
                refine wpAny_take (i := 4) (oi := { dst := some 85, op := _, type := _, pos := _, after := _, guard := _ }) (v := ?_) rfl (by kernel_rfl) (by kernel_rfl) (by kernel_rfl) (fun _ _ _ h => h) (Or.inl ⟨by rfl, ?_⟩) ?_
                rotate_left
                · (intro w; go_simp) <;> with_reducible rfl
                (try simp only [Act.put, List.setIfInBounds_toArray, List.set_cons_zero, List.set_cons_succ])
                refine wpAny_ready (rs := [1, 5]) (by kernel_rfl) (by simp) ?_
                refine AllReady.cons (o := _) rfl (fun K hK => ?_) (AllReady.cons (o := _) rfl (fun K hK => ?_) (AllReady.nil))
                · go_simp
                  (try (refine hK _ _ ?_; clear hK K))
                  (try simp only [Act.put, List.setIfInBounds_toArray, List.set_cons_zero, List.set_cons_succ])
                  refine wpAny_ready (rs := [5]) (by kernel_rfl) (by simp) ?_
                  refine AllReady.cons (o := _) rfl (fun K hK => ?_) (AllReady.nil)
                  go_simp
                  (try (refine hK _ _ ?_; clear hK K))
                  (try simp only [Act.put, List.setIfInBounds_toArray, List.set_cons_zero, List.set_cons_succ])
                  refine wpAny_ready (rs := [6]) (by kernel_rfl) (by simp) ?_
                  refine AllReady.cons (o := _) rfl (fun K hK => ?_) (AllReady.nil)
                  go_simp
                  (try (refine hK _ _ ?_; clear hK K))
                  (try simp only [Act.put, List.setIfInBounds_toArray, List.set_cons_zero, List.set_cons_succ])
                  refine wpAny_ready (rs := [7]) (by kernel_rfl) (by simp) ?_
                  refine AllReady.cons (o := _) rfl (fun K hK => ?_) (AllReady.nil)
                  refine step_append_rec Tryz.elStr (by rfl) _ _ (by rfl) (by rfl) (HO8.out.alloc _) y (by rfl) (Box.at_ _ [.string y] _ (by rfl)) (strE_one _) (by omega) (by decide) (by simp; omega) ?_
                  intro A3 c3 w9 ho9 hg9 hb9
                  have HM9 := Lib.hid ((HM.out.drew.alloc (.cells #[.string y] 9)).grown hg9 (fun k hk => by have := (HO8.out.blk hk).1; omega))
                  have HR9 := Lib.hid (strs_grown ((HR.out.up (below_drewN (Below.refl _ _) 1)).alloc (.cells #[.string y] 9)) hg9 (fun e => by have := (HO8.out.blk e.symm).1; omega))
                  have d5 := HM9.out.1.cell 2; have e5 := HM9.out.1.frozen 2
                  simp only [List.getElem?_cons_zero, List.getElem?_cons_succ] at d5
                  (try (refine hK _ _ ?_; clear hK K))
                  (try simp only [Act.put, List.setIfInBounds_toArray, List.set_cons_zero, List.set_cons_succ])
                  refine wpAny_ready (rs := [8]) (by kernel_rfl) (by simp) ?_
                  refine AllReady.cons (o := _) rfl (fun K hK => ?_) (AllReady.nil)
                  go_simp
                  (try (refine hK _ _ ?_; clear hK K))
                  (try simp only [Act.put, List.setIfInBounds_toArray, List.set_cons_zero, List.set_cons_succ])
                  refine wpAny_ready (rs := [9]) (by kernel_rfl) (by simp) ?_
                  refine AllReady.cons (o := _) rfl (fun K hK => ?_) (AllReady.nil)
                  go_simp
                  (try (refine hK _ _ ?_; clear hK K))
                  (try simp only [Act.put, List.setIfInBounds_toArray, List.set_cons_zero, List.set_cons_succ])
                  refine wpAny_done (by kernel_rfl) ?_ _
                  (try simp only [Act.put, List.setIfInBounds_toArray, List.set_cons_zero, List.set_cons_succ])
                  have HZ9 := Lib.hid (good_snoc HZ.out gy)
                  have HMF := Lib.hid (HM9.out.put (v' := .slice A3 (m + 1 + q + 1) c3))
                  have HOF := Lib.hid (own_put (b := w3.heap.size) (v' := .slice A3 (m + 1 + q + 1) c3) ho9 (by omega))
                  have HRF := Lib.hid (strs_grown HR9.out (only_set w9 (p := ⟨w3.heap.size, 2, none⟩) (.slice A3 (m + 1 + q + 1) c3)) (fun e => by injection e with e; dsimp only at e; omega))
                  have hs12 : wb ≤ (w9.setCell ⟨w3.heap.size, 2, none⟩ (.slice A3 (m + 1 + q + 1) c3)).heap.size := by have := hg9.size; simp at this ⊢; omega
                  clear d2 d4 d5 e2 e5
                  go_wp2
                  go_roundw
                  case rel => exact ⟨k, q + 1, A3, c3, L ++ [y], by omega, by go_num, HMF, HOF, HZ9, HRF, hs12⟩
                  case measure => simp [intOf] <;> omega
                · go_simp
                  (try (refine hK _ _ ?_; clear hK K))
                  (try simp only [Act.put, List.setIfInBounds_toArray, List.set_cons_zero, List.set_cons_succ])
                  refine wpAny_ready (rs := [1, 6]) (by kernel_rfl) (by simp) ?_
                  refine AllReady.cons (o := _) rfl (fun K hK => ?_) (AllReady.cons (o := _) rfl (fun K hK => ?_) (AllReady.nil))
                  · go_simp
                    (try (refine hK _ _ ?_; clear hK K))
                    (try simp only [Act.put, List.setIfInBounds_toArray, List.set_cons_zero, List.set_cons_succ])
                    refine wpAny_ready (rs := [6]) (by kernel_rfl) (by simp) ?_
                    refine AllReady.cons (o := _) rfl (fun K hK => ?_) (AllReady.nil)
                    go_simp
                    (try (refine hK _ _ ?_; clear hK K))
                    (try simp only [Act.put, List.setIfInBounds_toArray, List.set_cons_zero, List.set_cons_succ])
                    refine wpAny_ready (rs := [7]) (by kernel_rfl) (by simp) ?_
                    refine AllReady.cons (o := _) rfl (fun K hK => ?_) (AllReady.nil)
                    refine step_append_rec Tryz.elStr (by rfl) _ _ (by rfl) (by rfl) (HO8.out.alloc _) y (by rfl) (Box.at_ _ [.string y] _ (by rfl)) (strE_one _) (by omega) (by decide) (by simp; omega) ?_
                    intro A3 c3 w9 ho9 hg9 hb9
                    have HM9 := Lib.hid ((HM.out.drew.alloc (.cells #[.string y] 9)).grown hg9 (fun k hk => by have := (HO8.out.blk hk).1; omega))
                    have HR9 := Lib.hid (strs_grown ((HR.out.up (below_drewN (Below.refl _ _) 1)).alloc (.cells #[.string y] 9)) hg9 (fun e => by have := (HO8.out.blk e.symm).1; omega))
                    have d5 := HM9.out.1.cell 2; have e5 := HM9.out.1.frozen 2
                    simp only [List.getElem?_cons_zero, List.getElem?_cons_succ] at d5
                    (try (refine hK _ _ ?_; clear hK K))
                    (try simp only [Act.put, List.setIfInBounds_toArray, List.set_cons_zero, List.set_cons_succ])
                    refine wpAny_ready (rs := [8]) (by kernel_rfl) (by simp) ?_
                    refine AllReady.cons (o := _) rfl (fun K hK => ?_) (AllReady.nil)
                    go_simp
                    (try (refine hK _ _ ?_; clear hK K))
                    (try simp only [Act.put, List.setIfInBounds_toArray, List.set_cons_zero, List.set_cons_succ])
                    refine wpAny_ready (rs := [9]) (by kernel_rfl) (by simp) ?_
                    refine AllReady.cons (o := _) rfl (fun K hK => ?_) (AllReady.nil)
                    go_simp
                    (try (refine hK _ _ ?_; clear hK K))
                    (try simp only [Act.put, List.setIfInBounds_toArray, List.set_cons_zero, List.set_cons_succ])
                    refine wpAny_done (by kernel_rfl) ?_ _
                    (try simp only [Act.put, List.setIfInBounds_toArray, List.set_cons_zero, List.set_cons_succ])
                    have HZ9 := Lib.hid (good_snoc HZ.out gy)
                    have HMF := Lib.hid (HM9.out.put (v' := .slice A3 (m + 1 + q + 1) c3))
                    have HOF := Lib.hid (own_put (b := w3.heap.size) (v' := .slice A3 (m + 1 + q + 1) c3) ho9 (by omega))
                    have HRF := Lib.hid (strs_grown HR9.out (only_set w9 (p := ⟨w3.heap.size, 2, none⟩) (.slice A3 (m + 1 + q + 1) c3)) (fun e => by injection e with e; dsimp only at e; omega))
                    have hs12 : wb ≤ (w9.setCell ⟨w3.heap.size, 2, none⟩ (.slice A3 (m + 1 + q + 1) c3)).heap.size := by have := hg9.size; simp at this ⊢; omega
                    clear d2 d4 d5 e2 e5
                    go_wp2
                    go_roundw
                    case rel => exact ⟨k, q + 1, A3, c3, L ++ [y], by omega, by go_num, HMF, HOF, HZ9, HRF, hs12⟩
                    case measure => simp [intOf] <;> omega
                  · go_simp
                    (try (refine hK _ _ ?_; clear hK K))
                    (try simp only [Act.put, List.setIfInBounds_toArray, List.set_cons_zero, List.set_cons_succ])
                    refine wpAny_ready (rs := [1]) (by kernel_rfl) (by simp) ?_
                    refine AllReady.cons (o := _) rfl (fun K hK => ?_) (AllReady.nil)
                    go_simp
                    (try (refine hK _ _ ?_; clear hK K))
                    (try simp only [Act.put, List.setIfInBounds_toArray, List.set_cons_zero, List.set_cons_succ])
                    refine wpAny_ready (rs := [7]) (by kernel_rfl) (by simp) ?_
                    refine AllReady.cons (o := _) rfl (fun K hK => ?_) (AllReady.nil)
                    refine step_append_rec Tryz.elStr (by rfl) _ _ (by rfl) (by rfl) (HO8.out.alloc _) y (by rfl) (Box.at_ _ [.string y] _ (by rfl)) (strE_one _) (by omega) (by decide) (by simp; omega) ?_
                    intro A3 c3 w9 ho9 hg9 hb9
                    have HM9 := Lib.hid ((HM.out.drew.alloc (.cells #[.string y] 9)).grown hg9 (fun k hk => by have := (HO8.out.blk hk).1; omega))
                    have HR9 := Lib.hid (strs_grown ((HR.out.up (below_drewN (Below.refl _ _) 1)).alloc (.cells #[.string y] 9)) hg9 (fun e => by have := (HO8.out.blk e.symm).1; omega))
                    have d5 := HM9.out.1.cell 2; have e5 := HM9.out.1.frozen 2
                    simp only [List.getElem?_cons_zero, List.getElem?_cons_succ] at d5
                    (try (refine hK _ _ ?_; clear hK K))
                    (try simp only [Act.put, List.setIfInBounds_toArray, List.set_cons_zero, List.set_cons_succ])
                    refine wpAny_ready (rs := [8]) (by kernel_rfl) (by simp) ?_
                    refine AllReady.cons (o := _) rfl (fun K hK => ?_) (AllReady.nil)
                    go_simp
                    (try (refine hK _ _ ?_; clear hK K))
                    (try simp only [Act.put, List.setIfInBounds_toArray, List.set_cons_zero, List.set_cons_succ])
                    refine wpAny_ready (rs := [9]) (by kernel_rfl) (by simp) ?_
                    refine AllReady.cons (o := _) rfl (fun K hK => ?_) (AllReady.nil)
                    go_simp
                    (try (refine hK _ _ ?_; clear hK K))
                    (try simp only [Act.put, List.setIfInBounds_toArray, List.set_cons_zero, List.set_cons_succ])
                    refine wpAny_done (by kernel_rfl) ?_ _
                    (try simp only [Act.put, List.setIfInBounds_toArray, List.set_cons_zero, List.set_cons_succ])
                    have HZ9 := Lib.hid (good_snoc HZ.out gy)
                    have HMF := Lib.hid (HM9.out.put (v' := .slice A3 (m + 1 + q + 1) c3))
                    have HOF := Lib.hid (own_put (b := w3.heap.size) (v' := .slice A3 (m + 1 + q + 1) c3) ho9 (by omega))
                    have HRF := Lib.hid (strs_grown HR9.out (only_set w9 (p := ⟨w3.heap.size, 2, none⟩) (.slice A3 (m + 1 + q + 1) c3)) (fun e => by injection e with e; dsimp only at e; omega))
                    have hs12 : wb ≤ (w9.setCell ⟨w3.heap.size, 2, none⟩ (.slice A3 (m + 1 + q + 1) c3)).heap.size := by have := hg9.size; simp at this ⊢; omega
                    clear d2 d4 d5 e2 e5
                    go_wp2
                    go_roundw
                    case rel => exact ⟨k, q + 1, A3, c3, L ++ [y], by omega, by go_num, HMF, HOF, HZ9, HRF, hs12⟩
                    case measure => simp [intOf] <;> omega
    · have hM5 := HM5.out
      rcases Nat.mod_two_eq_zero_or_one st with hpar | hpar
      · have hI : ¬ ((st : Int) % 2 = 1) := by omega
        have hpe : ((st : Int) % 2 == 1) = false := by simpa using hI
        go_wp2_with fail
        refine (spec_l4Hunting (N := st) (by omega) (by omega) (hunt_one st (by omega) (by omega) hpar).2.2).mono ?_; rintro e w6 ⟨A6, c6, L6, rfl, HO6, HZ6, hb6⟩
        have HM6 := hM5.up hb6
        have g2 := HM6.1.cell 2; have e2 := HM6.1.frozen 2
        have hsw : w3.heap.size < w5.heap.size := hM5.1.lt
        simp only [List.getElem?_cons_zero, List.getElem?_cons_succ] at g2
        have HM := Lib.hid (HM6.put (v' := .slice A6 (2 * st) c6))
        have HO := Lib.hid ((own_put (b := w3.heap.size) (v' := .slice A6 (2 * st) c6) HO6 (by omega)).base_le (show w3.heap.size + 1 ≤ w5.heap.size by omega))
        have HZ := Lib.hid HZ6
        obtain ⟨K1, K2, ⟨rx, ry, rz, K3⟩, K4, K5, K6⟩ := HM.out
        have kc0 := K1.cell 0; have kc1 := K1.cell 1; have kc2 := K1.cell 2
        have kd0 := K3.cell 0; have kd1 := K3.cell 1; have kd2 := K3.cell 2
        have kf0 := K3.frozen 0; have kf1 := K3.frozen 1; have kf2 := K3.frozen 2
        simp only [List.getElem?_cons_zero, List.getElem?_cons_succ] at kc0 kc1 kc2 kd0 kd1 kd2
        have Z := ((K3.set_ 0 (.string nm)).set_ 1 (.int .i64 (st : Int))).set_ 2 (.slice A6 (2 * st) c6)
        have y0 := Z.cell 0; have y1 := Z.cell 1; have y2 := Z.cell 2
        simp only [List.set_cons_zero, List.set_cons_succ, List.getElem?_cons_zero, List.getElem?_cons_succ] at y0 y1 y2
        have HK := Lib.hid K2; have HGR := Lib.hid K4
        clear K1 K2 K3 K4 Z
        go_wp2_with fail
        refine bodyPost_ret (v := .agg #[.string nm, .int .i64 (st : Int), .slice A6 (2 * st) c6]) (by simp [results, Tryz.results180, go_sem, y0, y1, y2]) rfl ?_
        exact fin.out _ _ _ _ _ _ HGR.out (HK.out.mono (by omega)) HO.out (by omega) (by omega) HZ.out (grownBy_trans (grownBy_trans (only_set _ (p := ⟨w.heap.size, 0, none⟩) _) (only_set _ (p := ⟨w.heap.size, 1, none⟩) _)) (only_set _ (p := ⟨w.heap.size, 2, none⟩) _))
      · have hI : (st : Int) % 2 = 1 := by omega
        have hpe : ((st : Int) % 2 == 1) = true := by simpa using hI
        have hd1 : (dig1 (st : Int)).size = 1 := rfl
        go_wp2_with fail
        refine (spec_l1Num_1 (by omega) (by omega)).mono ?_; rintro e w7 ⟨rfl, hb7⟩
        have hM7 := hM5.up hb7
        go_wp2_with fail
        refine (spec_l4Hunting (N := st) (by omega) (by omega) (hunt_two st (by omega) (by omega) hpar).2.2).mono ?_; rintro e w6 ⟨A6, c6, L6, rfl, HO6, HZ6, hb6⟩
        have HM6 := hM7.up hb6
        have g2 := HM6.1.cell 2; have e2 := HM6.1.frozen 2
        have hsw : w3.heap.size < w7.heap.size := hM7.1.lt
        simp only [List.getElem?_cons_zero, List.getElem?_cons_succ] at g2
        have HM := Lib.hid (HM6.put (v' := .slice A6 (2 * st) c6))
        have HO := Lib.hid ((own_put (b := w3.heap.size) (v' := .slice A6 (2 * st) c6) HO6 (by omega)).base_le (show w3.heap.size + 1 ≤ w7.heap.size by omega))
        have HZ := Lib.hid HZ6
        obtain ⟨K1, K2, ⟨rx, ry, rz, K3⟩, K4, K5, K6⟩ := HM.out
        have kc0 := K1.cell 0; have kc1 := K1.cell 1; have kc2 := K1.cell 2
        have kd0 := K3.cell 0; have kd1 := K3.cell 1; have kd2 := K3.cell 2
        have kf0 := K3.frozen 0; have kf1 := K3.frozen 1; have kf2 := K3.frozen 2
        simp only [List.getElem?_cons_zero, List.getElem?_cons_succ] at kc0 kc1 kc2 kd0 kd1 kd2
        have Z := ((K3.set_ 0 (.string nm)).set_ 1 (.int .i64 (st : Int))).set_ 2 (.slice A6 (2 * st) c6)
        have y0 := Z.cell 0; have y1 := Z.cell 1; have y2 := Z.cell 2
        simp only [List.set_cons_zero, List.set_cons_succ, List.getElem?_cons_zero, List.getElem?_cons_succ] at y0 y1 y2
        have HK := Lib.hid K2; have HGR := Lib.hid K4
        clear K1 K2 K3 K4 Z
        go_wp2_with fail
        refine bodyPost_ret (v := .agg #[.string nm, .int .i64 (st : Int), .slice A6 (2 * st) c6]) (by simp [results, Tryz.results180, go_sem, y0, y1, y2]) rfl ?_
        exact fin.out _ _ _ _ _ _ HGR.out (HK.out.mono (by omega)) HO.out (by omega) (by omega) HZ.out (grownBy_trans (grownBy_trans (only_set _ (p := ⟨w.heap.size, 0, none⟩) _) (only_set _ (p := ⟨w.heap.size, 1, none⟩) _)) (only_set _ (p := ⟨w.heap.size, 2, none⟩) _))
  · have hI4 : ¬ (4 : Int) ≤ (st : Int) := by omega
    go_wp2_with fail
    obtain ⟨w4, hw4⟩ : ∃ u, u = w3.alloc (.cells #[.string nm, .int .i64 (st : Int), .slice none 0 0] 25) := ⟨_, rfl⟩
    rw [← hw4] at M3 ⊢
    clear hw4
    have HM5 := Lib.hid (M3.mono (show a + 1 + 1 ≤ a + 1 + 1 + 1 by omega))
    clear M3
    refine (cur_one HS.out (G.out _ HM5.out.2.2.2.1) hp HM5.out.2.1 (by omega) (by decide) (by decide)).mono ?_; rintro e w6 ⟨b2, rfl, hc6, hg6⟩
    have HM6 := Lib.hid (HM5.out.draw hg6 hc6)
    clear hc6 hg6
    rcases b2
    · go_wp2_with fail
      refine (cur_pick HS.out (G.out _ HM6.out.2.2.2.1) hp HM6.out.2.1 (by omega) (by decide) (by decide)).mono ?_; rintro e w7 ⟨x, rfl, ⟨x0, x1⟩, hc7, hg7⟩
      have HM7 := Lib.hid (HM6.out.draw hg7 hc7)
      obtain ⟨X, rfl⟩ := Int.eq_ofNat_of_zero_le x0
      have hX : X ≤ 7 := by omega
      clear hc7 hg7 x0 x1
      go_wp2
      go_loopw [9] (fun i wr => ∃ (k m : Nat) (A' : Option Addr) (c' : Nat) (L : List ByteArray), k + m = X + 1 ∧ i = .int .i64 k ∧ Hid (MSt w wr p A n c (a + 10 + m) w3.heap.size nm st (.slice A' m c')) ∧ Hid (Owned strE 1 9 wr (w3.heap.size + 1) A' m c' L) ∧ Hid (∀ x ∈ L, goodChange st x = true) ∧ w3.heap.size < wr.heap.size) (fun i _ => (intOf i).toNat)
      case atStart => exact ⟨X + 1, 0, none, 0, [], rfl, by go_num, Lib.hid (HM7.out.mono (by omega)), Lib.hid (Owned.nil strE_len _ _ _), Lib.hid (fun s hs => by cases hs), HM7.out.1.lt⟩
      case round =>
        obtain ⟨k, m, A2, c2, L, hkm, rfl, HM, HO, HZ, hbr⟩ := hrel
        rename World => wr
        by_cases h0 : 0 < k
        · have hI : (0 : Int) < (k : Int) := by omega
          have hOl := HO.out.len
          go_upto_region 6 with fail
          obtain ⟨K1, _, _, _, K5, K6⟩ := HM.out
          have d2 := K1.cell 2; have e2 := K1.frozen 2
          simp only [List.getElem?_cons_zero, List.getElem?_cons_succ] at d2
          clear K1
          refine wp_region_any (by kernel_rfl) ?_
          (try (change wpAny _ _ _ _ _ _ _ (World.drew _)))
          refine wpAny_take (i := 0) (oi := { dst := some 25, op := _, type := _, pos := _, after := _, guard := _ }) (v := ?_) rfl (by kernel_rfl) (by kernel_rfl) (by kernel_rfl) (fun _ _ _ h => h) (Or.inl ⟨by rfl, ?_⟩) ?_
          rotate_left
          · (intro w; go_simp) <;> with_reducible rfl
          (try simp only [Act.put, List.setIfInBounds_toArray, List.set_cons_zero, List.set_cons_succ])
          refine wpAny_take (i := 2) (oi := { dst := some 27, op := _, type := _, pos := _, after := _, guard := _ }) (v := ?_) rfl (by kernel_rfl) (by kernel_rfl) (by kernel_rfl) (fun _ _ _ h => h) (Or.inl ⟨by rfl, ?_⟩) ?_
          rotate_left
          · (intro w; go_simp) <;> with_reducible rfl
          (try simp only [Act.put, List.setIfInBounds_toArray, List.set_cons_zero, List.set_cons_succ])
          refine wpAny_take (i := 3) (oi := { dst := some 28, op := _, type := _, pos := _, after := _, guard := _ }) (v := ?_) rfl (by kernel_rfl) (by kernel_rfl) (by kernel_rfl) (fun _ _ _ h => h) (Or.inl ⟨by rfl, ?_⟩) ?_
          rotate_left
          · (intro w; go_simp) <;> with_reducible rfl
          (try simp only [Act.put, List.setIfInBounds_toArray, List.set_cons_zero, List.set_cons_succ])
          refine wpAny_ready (rs := [1, 4]) (by kernel_rfl) (by simp) ?_
          refine AllReady.cons (o := _) rfl (fun K hK => ?_) (AllReady.cons (o := _) rfl (fun K hK => ?_) (AllReady.nil))
          · go_simp
            (try (refine hK _ _ ?_; clear hK K))
            (try simp only [Act.put, List.setIfInBounds_toArray, List.set_cons_zero, List.set_cons_succ])
            refine wpAny_ready (rs := [4]) (by kernel_rfl) (by simp) ?_
            refine AllReady.cons (o := _) rfl (fun K hK => ?_) (AllReady.nil)
            go_simp
            refine (cur_change HS.out (G.out _ HM.out.drew.2.2.2.1) hp HM.out.drew.2.1 (by omega) (by omega) (by omega)).mono ?_; rintro e w8 ⟨x8, rfl, gx8, zx8, hc8, hg8⟩
            have HM8 := Lib.hid (HM.out.drew.draw hg8 hc8)
            have HO8 := Lib.hid ((HO.out.up (below_drewN (Below.refl _ _) 1)).past hg8 (by omega))
            have d3 := HM8.out.1.cell 2
            simp only [List.getElem?_cons_zero, List.getElem?_cons_succ] at d3
            have d4 := (HM8.out.alloc (.cells #[.string x8] 9)).1.cell 2
            simp only [List.getElem?_cons_zero, List.getElem?_cons_succ] at d4
            try go_wp2_with fail
            (try (refine hK _ _ ?_; clear hK K))
            (try simp only [Act.put, List.setIfInBounds_toArray, List.set_cons_zero, List.set_cons_succ])
            refine wpAny_ready (rs := [5]) (by kernel_rfl) (by simp) ?_
            refine AllReady.cons (o := _) rfl (fun K hK => ?_) (AllReady.nil)
            go_simp
            (try (refine hK _ _ ?_; clear hK K))
            (try simp only [Act.put, List.setIfInBounds_toArray, List.set_cons_zero, List.set_cons_succ])
            refine wpAny_ready (rs := [6]) (by kernel_rfl) (by simp) ?_
            refine AllReady.cons (o := _) rfl (fun K hK => ?_) (AllReady.nil)
            refine step_append_rec Tryz.elStr (by rfl) _ _ (by rfl) (by rfl) (HO8.out.alloc _) x8 (by rfl) (Box.at_ _ [.string x8] _ (by rfl)) (strE_one _) (by omega) (by decide) (by have h1 := HM8.out.1.lt; have h2 := hg8.size; simp at h2 ⊢; omega) ?_
            intro A3 c3 w9 ho9 hg9 hb9
            have HM9 := Lib.hid ((HM8.out.alloc (.cells #[.string x8] 9)).grown hg9 (fun k hk => by have := (HO8.out.blk hk).1; omega))
            have d5 := HM9.out.1.cell 2; have e5 := HM9.out.1.frozen 2
            simp only [List.getElem?_cons_zero, List.getElem?_cons_succ] at d5
            (try (refine hK _ _ ?_; clear hK K))
            (try simp only [Act.put, List.setIfInBounds_toArray, List.set_cons_zero, List.set_cons_succ])
            refine wpAny_ready (rs := [7]) (by kernel_rfl) (by simp) ?_
            refine AllReady.cons (o := _) rfl (fun K hK => ?_) (AllReady.nil)
            go_simp
            (try (refine hK _ _ ?_; clear hK K))
            (try simp only [Act.put, List.setIfInBounds_toArray, List.set_cons_zero, List.set_cons_succ])
            refine wpAny_ready (rs := [8]) (by kernel_rfl) (by simp) ?_
            refine AllReady.cons (o := _) rfl (fun K hK => ?_) (AllReady.nil)
            go_simp
            (try (refine hK _ _ ?_; clear hK K))
            (try simp only [Act.put, List.setIfInBounds_toArray, List.set_cons_zero, List.set_cons_succ])
            refine wpAny_done (by kernel_rfl) ?_ _
            (try simp only [Act.put, List.setIfInBounds_toArray, List.set_cons_zero, List.set_cons_succ])
            have HZ9 := Lib.hid (good_snoc HZ.out gx8)
            have HMF := Lib.hid (HM9.out.put (v' := .slice A3 (m + 1) c3))
            have HOF := Lib.hid (own_put (b := w3.heap.size) (v' := .slice A3 (m + 1) c3) ho9 (by omega))
            clear d2 d3 d4 d5 e2 e5
            go_wp2
            go_roundw
            case rel => exact ⟨k - 1, m + 1, A3, c3, L ++ [x8], by omega, by go_num, Lib.hid (HMF.out.mono (by omega)), HOF, HZ9, HMF.out.1.lt⟩
            case measure => simp [intOf]; omega
          · go_simp
            refine (cur_change HS.out (G.out _ HM.out.drew.2.2.2.1) hp HM.out.drew.2.1 (by omega) (by omega) (by omega)).mono ?_; rintro e w8 ⟨x8, rfl, gx8, zx8, hc8, hg8⟩
            have HM8 := Lib.hid (HM.out.drew.draw hg8 hc8)
            have HO8 := Lib.hid ((HO.out.up (below_drewN (Below.refl _ _) 1)).past hg8 (by omega))
            have d3 := HM8.out.1.cell 2
            simp only [List.getElem?_cons_zero, List.getElem?_cons_succ] at d3
            have d4 := (HM8.out.alloc (.cells #[.string x8] 9)).1.cell 2
            simp only [List.getElem?_cons_zero, List.getElem?_cons_succ] at d4
            try go_wp2_with fail
            (try (refine hK _ _ ?_; clear hK K))
            (try simp only [Act.put, List.setIfInBounds_toArray, List.set_cons_zero, List.set_cons_succ])
            refine wpAny_ready (rs := [1, 5]) (by kernel_rfl) (by simp) ?_
            refine AllReady.cons (o := _) rfl (fun K hK => ?_) (AllReady.cons (o := _) rfl (fun K hK => ?_) (AllReady.nil))
            · go_simp
              (try (refine hK _ _ ?_; clear hK K))
              (try simp only [Act.put, List.setIfInBounds_toArray, List.set_cons_zero, List.set_cons_succ])
              refine wpAny_ready (rs := [5]) (by kernel_rfl) (by simp) ?_
              refine AllReady.cons (o := _) rfl (fun K hK => ?_) (AllReady.nil)
              go_simp
              (try (refine hK _ _ ?_; clear hK K))
              (try simp only [Act.put, List.setIfInBounds_toArray, List.set_cons_zero, List.set_cons_succ])
              refine wpAny_ready (rs := [6]) (by kernel_rfl) (by simp) ?_
              refine AllReady.cons (o := _) rfl (fun K hK => ?_) (AllReady.nil)
              refine step_append_rec Tryz.elStr (by rfl) _ _ (by rfl) (by rfl) (HO8.out.alloc _) x8 (by rfl) (Box.at_ _ [.string x8] _ (by rfl)) (strE_one _) (by omega) (by decide) (by have h1 := HM8.out.1.lt; have h2 := hg8.size; simp at h2 ⊢; omega) ?_
              intro A3 c3 w9 ho9 hg9 hb9
              have HM9 := Lib.hid ((HM8.out.alloc (.cells #[.string x8] 9)).grown hg9 (fun k hk => by have := (HO8.out.blk hk).1; omega))
              have d5 := HM9.out.1.cell 2; have e5 := HM9.out.1.frozen 2
              simp only [List.getElem?_cons_zero, List.getElem?_cons_succ] at d5
              (try (refine hK _ _ ?_; clear hK K))
              (try simp only [Act.put, List.setIfInBounds_toArray, List.set_cons_zero, List.set_cons_succ])
              refine wpAny_ready (rs := [7]) (by kernel_rfl) (by simp) ?_
              refine AllReady.cons (o := _) rfl (fun K hK => ?_) (AllReady.nil)
              go_simp
              (try (refine hK _ _ ?_; clear hK K))
              (try simp only [Act.put, List.setIfInBounds_toArray, List.set_cons_zero, List.set_cons_succ])
              refine wpAny_ready (rs := [8]) (by kernel_rfl) (by simp) ?_
              refine AllReady.cons (o := _) rfl (fun K hK => ?_) (AllReady.nil)
              go_simp
              (try (refine hK _ _ ?_; clear hK K))
              (try simp only [Act.put, List.setIfInBounds_toArray, List.set_cons_zero, List.set_cons_succ])
              refine wpAny_done (by kernel_rfl) ?_ _
              (try simp only [Act.put, List.setIfInBounds_toArray, List.set_cons_zero, List.set_cons_succ])
              have HZ9 := Lib.hid (good_snoc HZ.out gx8)
              have HMF := Lib.hid (HM9.out.put (v' := .slice A3 (m + 1) c3))
              have HOF := Lib.hid (own_put (b := w3.heap.size) (v' := .slice A3 (m + 1) c3) ho9 (by omega))
              clear d2 d3 d4 d5 e2 e5
              go_wp2
              go_roundw
              case rel => exact ⟨k - 1, m + 1, A3, c3, L ++ [x8], by omega, by go_num, Lib.hid (HMF.out.mono (by omega)), HOF, HZ9, HMF.out.1.lt⟩
              case measure => simp [intOf]; omega
            · go_simp
              (try (refine hK _ _ ?_; clear hK K))
              (try simp only [Act.put, List.setIfInBounds_toArray, List.set_cons_zero, List.set_cons_succ])
              refine wpAny_ready (rs := [1]) (by kernel_rfl) (by simp) ?_
              refine AllReady.cons (o := _) rfl (fun K hK => ?_) (AllReady.nil)
              go_simp
              (try (refine hK _ _ ?_; clear hK K))
              (try simp only [Act.put, List.setIfInBounds_toArray, List.set_cons_zero, List.set_cons_succ])
              refine wpAny_ready (rs := [6]) (by kernel_rfl) (by simp) ?_
              refine AllReady.cons (o := _) rfl (fun K hK => ?_) (AllReady.nil)
              refine step_append_rec Tryz.elStr (by rfl) _ _ (by rfl) (by rfl) (HO8.out.alloc _) x8 (by rfl) (Box.at_ _ [.string x8] _ (by rfl)) (strE_one _) (by omega) (by decide) (by have h1 := HM8.out.1.lt; have h2 := hg8.size; simp at h2 ⊢; omega) ?_
              intro A3 c3 w9 ho9 hg9 hb9
              have HM9 := Lib.hid ((HM8.out.alloc (.cells #[.string x8] 9)).grown hg9 (fun k hk => by have := (HO8.out.blk hk).1; omega))
              have d5 := HM9.out.1.cell 2; have e5 := HM9.out.1.frozen 2
              simp only [List.getElem?_cons_zero, List.getElem?_cons_succ] at d5
              (try (refine hK _ _ ?_; clear hK K))
              (try simp only [Act.put, List.setIfInBounds_toArray, List.set_cons_zero, List.set_cons_succ])
              refine wpAny_ready (rs := [7]) (by kernel_rfl) (by simp) ?_
              refine AllReady.cons (o := _) rfl (fun K hK => ?_) (AllReady.nil)
              go_simp
              (try (refine hK _ _ ?_; clear hK K))
              (try simp only [Act.put, List.setIfInBounds_toArray, List.set_cons_zero, List.set_cons_succ])
              refine wpAny_ready (rs := [8]) (by kernel_rfl) (by simp) ?_
              refine AllReady.cons (o := _) rfl (fun K hK => ?_) (AllReady.nil)
              go_simp
              (try (refine hK _ _ ?_; clear hK K))
              (try simp only [Act.put, List.setIfInBounds_toArray, List.set_cons_zero, List.set_cons_succ])
              refine wpAny_done (by kernel_rfl) ?_ _
              (try simp only [Act.put, List.setIfInBounds_toArray, List.set_cons_zero, List.set_cons_succ])
              have HZ9 := Lib.hid (good_snoc HZ.out gx8)
              have HMF := Lib.hid (HM9.out.put (v' := .slice A3 (m + 1) c3))
              have HOF := Lib.hid (own_put (b := w3.heap.size) (v' := .slice A3 (m + 1) c3) ho9 (by omega))
              clear d2 d3 d4 d5 e2 e5
              go_wp2
              go_roundw
              case rel => exact ⟨k - 1, m + 1, A3, c3, L ++ [x8], by omega, by go_num, Lib.hid (HMF.out.mono (by omega)), HOF, HZ9, HMF.out.1.lt⟩
              case measure => simp [intOf]; omega
        · obtain rfl : k = 0 := by omega
          have hOl := HO.out.len
          obtain ⟨K1, K2, ⟨rx, ry, rz, K3⟩, K4, K5, K6⟩ := HM.out
          have kc0 := K1.cell 0; have kc1 := K1.cell 1; have kc2 := K1.cell 2
          have kd0 := K3.cell 0; have kd1 := K3.cell 1; have kd2 := K3.cell 2
          have kf0 := K3.frozen 0; have kf1 := K3.frozen 1; have kf2 := K3.frozen 2
          simp only [List.getElem?_cons_zero, List.getElem?_cons_succ] at kc0 kc1 kc2 kd0 kd1 kd2
          have Z := ((K3.set_ 0 (.string nm)).set_ 1 (.int .i64 (st : Int))).set_ 2 (.slice A2 (m) c2)
          have y0 := Z.cell 0; have y1 := Z.cell 1; have y2 := Z.cell 2
          simp only [List.set_cons_zero, List.set_cons_succ, List.getElem?_cons_zero, List.getElem?_cons_succ] at y0 y1 y2
          have HK := Lib.hid K2; have HGR := Lib.hid K4
          clear K1 K2 K3 K4 Z
          go_wp2_with fail
          refine bodyPost_ret (v := .agg #[.string nm, .int .i64 (st : Int), .slice A2 (m) c2]) (by simp [results, Tryz.results180, go_sem, y0, y1, y2]) rfl ?_
          exact fin.out _ _ _ _ _ _ HGR.out (HK.out.mono (by omega)) HO.out (by omega) (by omega) HZ.out (grownBy_trans (grownBy_trans (only_set _ (p := ⟨w.heap.size, 0, none⟩) _) (only_set _ (p := ⟨w.heap.size, 1, none⟩) _)) (only_set _ (p := ⟨w.heap.size, 2, none⟩) _))
    · go_wp2_with fail
      refine (cur_pick HS.out (G.out _ HM6.out.2.2.2.1) hp HM6.out.2.1 (by omega) (by decide) (by decide)).mono ?_; rintro e w7 ⟨x, rfl, ⟨x0, x1⟩, hc7, hg7⟩
      have HM7 := Lib.hid (HM6.out.draw hg7 hc7)
      obtain ⟨X, rfl⟩ := Int.eq_ofNat_of_zero_le x0
      have hX : X ≤ 3 := by omega
      clear hc7 hg7 x0 x1
      go_wp2
      go_loopw [6, 7] (fun v i wr => ∃ (k m : Nat) (A' : Option Addr) (c' : Nat) (H : List ByteArray), k + m = X + 1 ∧ i = .int .i64 k ∧ v = .slice A' m c' ∧ Hid (MSt w wr p A n c (a + 10 + m) w3.heap.size nm st (.slice none 0 0)) ∧ Hid (Owned strE 1 9 wr (w3.heap.size + 1) A' m c' H) ∧ Hid (∀ x ∈ H, goodChange st x = true) ∧ w3.heap.size < wr.heap.size) (fun _ i _ => (intOf i).toNat)
      case atStart => exact ⟨X + 1, 0, none, 0, [], rfl, by go_num, rfl, Lib.hid (HM7.out.mono (by omega)), Lib.hid (Owned.nil strE_len _ _ _), Lib.hid (fun s hs => by cases hs), HM7.out.1.lt⟩
      case round =>
        obtain ⟨k, m, A2, c2, H, hkm, rfl, rfl, HM, HO, HZ, hbr⟩ := hrel
        rename World => wr
        by_cases h0 : 0 < k
        · have hI : (0 : Int) < (k : Int) := by omega
          have hOl := HO.out.len
          go_wp2_with fail
          refine (cur_change HS.out (G.out _ HM.out.2.2.2.1) hp HM.out.2.1 (by omega) (by omega) (by omega)).mono ?_; rintro e w8 ⟨x8, rfl, gx8, zx8, hc8, hg8⟩
          have HM8 := Lib.hid (HM.out.draw hg8 hc8)
          have HO8 := Lib.hid (HO.out.past hg8 (by have := HM.out.2.2.2.2; omega))
          have hs8 := HM8.out.1.lt
          have HZ9 := Lib.hid (good_snoc HZ.out gx8)
          clear hc8 hg8
          go_wp2_with (first | (at_builtin; go_must ((refine wpList_append_recs Tryz.elStr strE_one rfl (.tmp 60) (.tmp 64) rfl rfl (HO8.out.alloc _) rfl (own_lit1_at' strE_len _ 9 x8 rfl (Nat.le_refl _)).recs rfl ?_ (by decide) ?_ ?_; (focus (first | omega | (simp only [World.size_alloc]; done) | (simp only [World.size_alloc]; omega) | (simp; done) | (simp; omega))); (simp; omega); intro A3 c3 w9 ho9 hg9 hl9; have HM9 := Lib.hid ((HM8.out.alloc (.cells ⟨[Value.string x8]⟩ 9)).grown hg9 (fun k hk => by have := (HO8.out.blk hk).1; omega))))))
          go_roundw
          case rel => exact ⟨k - 1, m + 1, A3, c3, H ++ [x8], by omega, by go_num, rfl, Lib.hid (HM9.out.mono (by omega)), Lib.hid ho9, HZ9, HM9.out.1.lt⟩
          case measure => simp [intOf]; omega
        · obtain rfl : k = 0 := by omega
          have hHl := HO.out.len
          obtain ⟨gH, rfl, gH0, gH1, _, _⟩ := HO.out.at_ (by omega)
          have HR := Lib.hid HO.out.recs
          have HG := Lib.hid HZ.out
          go_wp2_with fail
          refine (spec_l1OwnS hHl HR.out (by omega)).mono ?_; rintro e w8 ⟨A3, c3, rfl, ho3, hb3⟩
          have HM3 := Lib.hid (HM.out.up hb3)
          have HR3 := Lib.hid (HR.out.up hb3)
          have hs3 := hb3.size
          clear hb3
          go_wp2_with fail
          refine (cur_change HS.out (G.out _ HM3.out.2.2.2.1) hp HM3.out.2.1 (by omega) (by omega) (by omega)).mono ?_; rintro e w9 ⟨x9, rfl, gx9, zx9, hc9, hg9⟩
          have hpb := HM3.out.2.2.2.2
          have HM4 := Lib.hid (HM3.out.draw hg9 hc9)
          have HO4 := Lib.hid (ho3.past hg9 (by omega))
          have HR4 := Lib.hid (strs_grown HR3.out hg9 (fun e => by injection e with e; omega))
          have hs9 := hg9.size
          have HZ4 := Lib.hid (good_snoc HZ.out gx9)
          have HML := Lib.hid (HM4.out.alloc (.cells ⟨[Value.string x9]⟩ 9))
          have HRL := Lib.hid (HR4.out.alloc (.cells ⟨[Value.string x9]⟩ 9))
          have hs9' : wr.heap.size ≤ (w9.alloc (.cells ⟨[Value.string x9]⟩ 9)).heap.size := by simp; omega
          obtain ⟨wb, hwb⟩ : ∃ b, b = wr.heap.size := ⟨_, rfl⟩
          rw [← hwb] at ho3 HO4 gH1 hs3 hs9' 
          clear hc9 hg9 ho3 HM3 HR3
          go_wp2_with (first | (at_builtin; go_must ((refine wpList_append_recs Tryz.elStr strE_one rfl (.tmp 67) (.tmp 71) rfl rfl (HO4.out.alloc _) rfl (own_lit1_at' strE_len _ 9 x9 rfl (Nat.le_refl _)).recs rfl ?_ (by decide) ?_ ?_; (focus (first | omega | (simp only [World.size_alloc]; done) | (simp only [World.size_alloc]; omega) | (simp; done) | (simp; omega))); (simp; omega); intro A5 c5 w10 ho5 hg5 hl5; have HM5 := Lib.hid (HML.out.grown hg5 (fun k hk => by have := (HO4.out.blk hk).1; omega)); have HR5 := Lib.hid (strs_grown HRL.out hg5 (fun e => by have := (HO4.out.blk e.symm).1; omega)); have g2 := HM5.out.1.cell 2; have e2 := HM5.out.1.frozen 2; simp only [List.getElem?_cons_zero, List.getElem?_cons_succ] at g2; have HMF := Lib.hid (HM5.out.put (v' := .slice A5 (m + 1) c5)); have HOF := Lib.hid (own_put (b := w3.heap.size) (v' := .slice A5 (m + 1) c5) ho5 (by omega)); have HRF := Lib.hid (strs_grown HR5.out (only_set w10 (p := ⟨w3.heap.size, 2, none⟩) (.slice A5 (m + 1) c5)) (fun e => by injection e with e; dsimp only at e; omega))))))
          obtain ⟨w11, hw11⟩ : ∃ u, u = w10.setCell ⟨w3.heap.size, 2, none⟩ (.slice A5 (m + 1) c5) := ⟨_, rfl⟩
          rw [← hw11] at HMF HOF HRF ⊢
          have hB4 : w3.heap.size < wb := by omega
          have hs11 : wb ≤ w11.heap.size := by have := hg5.size; rw [hw11]; simp at this ⊢; omega
          clear hw11 ho5 hg5 hl5 HM5 HR5 g2 e2 HM4 HO4 HR4 HML HRL
          go_wp2
          go_loopw [8] (fun i wr => ∃ (k q : Nat) (A' : Option Addr) (c' : Nat) (L : List ByteArray), k + q = m ∧ i = .int .i64 ((k : Int) - 1) ∧ Hid (MSt w wr p A n c (a + 20 + m) w3.heap.size nm st (.slice A' (m + 1 + q) c')) ∧ Hid (Owned strE 1 9 wr wb A' (m + 1 + q) c' L) ∧ Hid (∀ x ∈ L, goodChange st x = true) ∧ Hid (Strs wr (some ⟨gH, 0, none⟩) H) ∧ wb ≤ wr.heap.size) (fun i _ => (intOf i + 1).toNat)
          case atStart => exact ⟨m, 0, A5, c5, H ++ [x9], rfl, by go_num, Lib.hid (HMF.out.mono (by omega)), HOF, HZ4, HRF, hs11⟩
          case round =>
            obtain ⟨k, q, A2, c2, L, hkq, rfl, HM, HO, HZ, HR, hsr⟩ := hrel
            rename World => wr
            have hOl := HO.out.len
            rcases k with _ | k
            · rw [show (((0 : Nat) : Int) - 1) = -1 by omega]
              obtain rfl : q = m := by omega
              go_upto_region 23 with fail
              obtain ⟨K1, _, _, _, K5, K6⟩ := HM.out
              have d2 := K1.cell 2; have e2 := K1.frozen 2
              simp only [List.getElem?_cons_zero, List.getElem?_cons_succ] at d2
              clear K1
              refine wp_region_any (by kernel_rfl) ?_
              (try (change wpAny _ _ _ _ _ _ _ (World.drew _)))
              refine wpAny_take (i := 0) (oi := { dst := some 90, op := _, type := _, pos := _, after := _, guard := _ }) (v := ?_) rfl (by kernel_rfl) (by kernel_rfl) (by kernel_rfl) (fun _ _ _ h => h) (Or.inl ⟨by rfl, ?_⟩) ?_
              rotate_left
              · (intro w; go_simp) <;> with_reducible rfl
              (try simp only [Act.put, List.setIfInBounds_toArray, List.set_cons_zero, List.set_cons_succ])
              refine wpAny_take (i := 2) (oi := { dst := some 92, op := _, type := _, pos := _, after := _, guard := _ }) (v := ?_) rfl (by kernel_rfl) (by kernel_rfl) (by kernel_rfl) (fun _ _ _ h => h) (Or.inl ⟨by rfl, ?_⟩) ?_
              rotate_left
              · (intro w; go_simp) <;> with_reducible rfl
              (try simp only [Act.put, List.setIfInBounds_toArray, List.set_cons_zero, List.set_cons_succ])
              refine wpAny_take (i := 3) (oi := { dst := some 93, op := _, type := _, pos := _, after := _, guard := _ }) (v := ?_) rfl (by kernel_rfl) (by kernel_rfl) (by kernel_rfl) (fun _ _ _ h => h) (Or.inl ⟨by rfl, ?_⟩) ?_
              rotate_left
              · (intro w; go_simp) <;> with_reducible rfl
              (try simp only [Act.put, List.setIfInBounds_toArray, List.set_cons_zero, List.set_cons_succ])
              refine wpAny_ready (rs := [1, 4]) (by kernel_rfl) (by simp) ?_
              refine AllReady.cons (o := _) rfl (fun K hK => ?_) (AllReady.cons (o := _) rfl (fun K hK => ?_) (AllReady.nil))
              · go_simp
                (try (refine hK _ _ ?_; clear hK K))
                (try simp only [Act.put, List.setIfInBounds_toArray, List.set_cons_zero, List.set_cons_succ])
                refine wpAny_ready (rs := [4]) (by kernel_rfl) (by simp) ?_
                refine AllReady.cons (o := _) rfl (fun K hK => ?_) (AllReady.nil)
                go_simp
                refine (cur_change HS.out (G.out _ HM.out.drew.2.2.2.1) hp HM.out.drew.2.1 (by omega) (by omega) (by omega)).mono ?_; rintro e w8 ⟨x8, rfl, gx8, zx8, hc8, hg8⟩
                have HM8 := Lib.hid (HM.out.drew.draw hg8 hc8)
                have HO8 := Lib.hid ((HO.out.up (below_drewN (Below.refl _ _) 1)).past hg8 (by omega))
                have d3 := HM8.out.1.cell 2
                simp only [List.getElem?_cons_zero, List.getElem?_cons_succ] at d3
                have d4 := (HM8.out.alloc (.cells #[.string x8] 9)).1.cell 2
                simp only [List.getElem?_cons_zero, List.getElem?_cons_succ] at d4
                try go_wp2_with fail
                (try (refine hK _ _ ?_; clear hK K))
                (try simp only [Act.put, List.setIfInBounds_toArray, List.set_cons_zero, List.set_cons_succ])
                refine wpAny_ready (rs := [5]) (by kernel_rfl) (by simp) ?_
                refine AllReady.cons (o := _) rfl (fun K hK => ?_) (AllReady.nil)
                go_simp
                (try (refine hK _ _ ?_; clear hK K))
                (try simp only [Act.put, List.setIfInBounds_toArray, List.set_cons_zero, List.set_cons_succ])
                refine wpAny_ready (rs := [6]) (by kernel_rfl) (by simp) ?_
                refine AllReady.cons (o := _) rfl (fun K hK => ?_) (AllReady.nil)
                refine step_append_rec Tryz.elStr (by rfl) _ _ (by rfl) (by rfl) (HO8.out.alloc _) x8 (by rfl) (Box.at_ _ [.string x8] _ (by rfl)) (strE_one _) (by omega) (by decide) (by have h1 := HM8.out.1.lt; have h2 := hg8.size; simp at h2 ⊢; omega) ?_
                intro A3 c3 w9 ho9 hg9 hb9
                have HM9 := Lib.hid ((HM8.out.alloc (.cells #[.string x8] 9)).grown hg9 (fun k hk => by have := (HO8.out.blk hk).1; omega))
                have d5 := HM9.out.1.cell 2; have e5 := HM9.out.1.frozen 2
                simp only [List.getElem?_cons_zero, List.getElem?_cons_succ] at d5
                (try (refine hK _ _ ?_; clear hK K))
                (try simp only [Act.put, List.setIfInBounds_toArray, List.set_cons_zero, List.set_cons_succ])
                refine wpAny_ready (rs := [7]) (by kernel_rfl) (by simp) ?_
                refine AllReady.cons (o := _) rfl (fun K hK => ?_) (AllReady.nil)
                go_simp
                (try (refine hK _ _ ?_; clear hK K))
                (try simp only [Act.put, List.setIfInBounds_toArray, List.set_cons_zero, List.set_cons_succ])
                refine wpAny_ready (rs := [8]) (by kernel_rfl) (by simp) ?_
                refine AllReady.cons (o := _) rfl (fun K hK => ?_) (AllReady.nil)
                go_simp
                (try (refine hK _ _ ?_; clear hK K))
                (try simp only [Act.put, List.setIfInBounds_toArray, List.set_cons_zero, List.set_cons_succ])
                refine wpAny_done (by kernel_rfl) ?_ _
                (try simp only [Act.put, List.setIfInBounds_toArray, List.set_cons_zero, List.set_cons_succ])
                have HZ := Lib.hid (good_snoc HZ.out gx8)
                have HM := Lib.hid (HM9.out.put (v' := .slice A3 (q + 1 + q + 1) c3))
                have HO := Lib.hid ((own_put (b := w3.heap.size) (v' := .slice A3 (q + 1 + q + 1) c3) ho9 (by omega)).base_le (show w3.heap.size + 1 ≤ wb by omega))
                clear d2 d3 d4 d5 e2 e5 HM8 HO8 HM9 ho9 hg9 hb9 hc8 hg8 K5 K6
                obtain ⟨K1, K2, ⟨rx, ry, rz, K3⟩, K4, K5, K6⟩ := HM.out
                have kc0 := K1.cell 0; have kc1 := K1.cell 1; have kc2 := K1.cell 2
                have kd0 := K3.cell 0; have kd1 := K3.cell 1; have kd2 := K3.cell 2
                have kf0 := K3.frozen 0; have kf1 := K3.frozen 1; have kf2 := K3.frozen 2
                simp only [List.getElem?_cons_zero, List.getElem?_cons_succ] at kc0 kc1 kc2 kd0 kd1 kd2
                have Z := ((K3.set_ 0 (.string nm)).set_ 1 (.int .i64 (st : Int))).set_ 2 (.slice A3 (q + 1 + q + 1) c3)
                have y0 := Z.cell 0; have y1 := Z.cell 1; have y2 := Z.cell 2
                simp only [List.set_cons_zero, List.set_cons_succ, List.getElem?_cons_zero, List.getElem?_cons_succ] at y0 y1 y2
                have HK := Lib.hid K2; have HGR := Lib.hid K4
                clear K1 K2 K3 K4 Z
                go_wp2_with fail
                refine bodyPost_ret (v := .agg #[.string nm, .int .i64 (st : Int), .slice A3 (q + 1 + q + 1) c3]) (by simp [results, Tryz.results180, go_sem, y0, y1, y2]) rfl ?_
                exact fin.out _ _ _ _ _ _ HGR.out (HK.out.mono (by omega)) HO.out (by omega) (by omega) HZ.out (grownBy_trans (grownBy_trans (only_set _ (p := ⟨w.heap.size, 0, none⟩) _) (only_set _ (p := ⟨w.heap.size, 1, none⟩) _)) (only_set _ (p := ⟨w.heap.size, 2, none⟩) _))
              · go_simp
                refine (cur_change HS.out (G.out _ HM.out.drew.2.2.2.1) hp HM.out.drew.2.1 (by omega) (by omega) (by omega)).mono ?_; rintro e w8 ⟨x8, rfl, gx8, zx8, hc8, hg8⟩
                have HM8 := Lib.hid (HM.out.drew.draw hg8 hc8)
                have HO8 := Lib.hid ((HO.out.up (below_drewN (Below.refl _ _) 1)).past hg8 (by omega))
                have d3 := HM8.out.1.cell 2
                simp only [List.getElem?_cons_zero, List.getElem?_cons_succ] at d3
                have d4 := (HM8.out.alloc (.cells #[.string x8] 9)).1.cell 2
                simp only [List.getElem?_cons_zero, List.getElem?_cons_succ] at d4
                try go_wp2_with fail
                (try (refine hK _ _ ?_; clear hK K))
                (try simp only [Act.put, List.setIfInBounds_toArray, List.set_cons_zero, List.set_cons_succ])
                refine wpAny_ready (rs := [1, 5]) (by kernel_rfl) (by simp) ?_
                refine AllReady.cons (o := _) rfl (fun K hK => ?_) (AllReady.cons (o := _) rfl (fun K hK => ?_) (AllReady.nil))
                · go_simp
                  (try (refine hK _ _ ?_; clear hK K))
                  (try simp only [Act.put, List.setIfInBounds_toArray, List.set_cons_zero, List.set_cons_succ])
                  refine wpAny_ready (rs := [5]) (by kernel_rfl) (by simp) ?_
                  refine AllReady.cons (o := _) rfl (fun K hK => ?_) (AllReady.nil)
                  go_simp
                  (try (refine hK _ _ ?_; clear hK K))
                  (try simp only [Act.put, List.setIfInBounds_toArray, List.set_cons_zero, List.set_cons_succ])
                  refine wpAny_ready (rs := [6]) (by kernel_rfl) (by simp) ?_
                  refine AllReady.cons (o := _) rfl (fun K hK => ?_) (AllReady.nil)
                  refine step_append_rec Tryz.elStr (by rfl) _ _ (by rfl) (by rfl) (HO8.out.alloc _) x8 (by rfl) (Box.at_ _ [.string x8] _ (by rfl)) (strE_one _) (by omega) (by decide) (by have h1 := HM8.out.1.lt; have h2 := hg8.size; simp at h2 ⊢; omega) ?_
                  intro A3 c3 w9 ho9 hg9 hb9
                  have HM9 := Lib.hid ((HM8.out.alloc (.cells #[.string x8] 9)).grown hg9 (fun k hk => by have := (HO8.out.blk hk).1; omega))
                  have d5 := HM9.out.1.cell 2; have e5 := HM9.out.1.frozen 2
                  simp only [List.getElem?_cons_zero, List.getElem?_cons_succ] at d5
                  (try (refine hK _ _ ?_; clear hK K))
                  (try simp only [Act.put, List.setIfInBounds_toArray, List.set_cons_zero, List.set_cons_succ])
                  refine wpAny_ready (rs := [7]) (by kernel_rfl) (by simp) ?_
                  refine AllReady.cons (o := _) rfl (fun K hK => ?_) (AllReady.nil)
                  go_simp
                  (try (refine hK _ _ ?_; clear hK K))
                  (try simp only [Act.put, List.setIfInBounds_toArray, List.set_cons_zero, List.set_cons_succ])
                  refine wpAny_ready (rs := [8]) (by kernel_rfl) (by simp) ?_
                  refine AllReady.cons (o := _) rfl (fun K hK => ?_) (AllReady.nil)
                  go_simp
                  (try (refine hK _ _ ?_; clear hK K))
                  (try simp only [Act.put, List.setIfInBounds_toArray, List.set_cons_zero, List.set_cons_succ])
                  refine wpAny_done (by kernel_rfl) ?_ _
                  (try simp only [Act.put, List.setIfInBounds_toArray, List.set_cons_zero, List.set_cons_succ])
                  have HZ := Lib.hid (good_snoc HZ.out gx8)
                  have HM := Lib.hid (HM9.out.put (v' := .slice A3 (q + 1 + q + 1) c3))
                  have HO := Lib.hid ((own_put (b := w3.heap.size) (v' := .slice A3 (q + 1 + q + 1) c3) ho9 (by omega)).base_le (show w3.heap.size + 1 ≤ wb by omega))
                  clear d2 d3 d4 d5 e2 e5 HM8 HO8 HM9 ho9 hg9 hb9 hc8 hg8 K5 K6
                  obtain ⟨K1, K2, ⟨rx, ry, rz, K3⟩, K4, K5, K6⟩ := HM.out
                  have kc0 := K1.cell 0; have kc1 := K1.cell 1; have kc2 := K1.cell 2
                  have kd0 := K3.cell 0; have kd1 := K3.cell 1; have kd2 := K3.cell 2
                  have kf0 := K3.frozen 0; have kf1 := K3.frozen 1; have kf2 := K3.frozen 2
                  simp only [List.getElem?_cons_zero, List.getElem?_cons_succ] at kc0 kc1 kc2 kd0 kd1 kd2
                  have Z := ((K3.set_ 0 (.string nm)).set_ 1 (.int .i64 (st : Int))).set_ 2 (.slice A3 (q + 1 + q + 1) c3)
                  have y0 := Z.cell 0; have y1 := Z.cell 1; have y2 := Z.cell 2
                  simp only [List.set_cons_zero, List.set_cons_succ, List.getElem?_cons_zero, List.getElem?_cons_succ] at y0 y1 y2
                  have HK := Lib.hid K2; have HGR := Lib.hid K4
                  clear K1 K2 K3 K4 Z
                  go_wp2_with fail
                  refine bodyPost_ret (v := .agg #[.string nm, .int .i64 (st : Int), .slice A3 (q + 1 + q + 1) c3]) (by simp [results, Tryz.results180, go_sem, y0, y1, y2]) rfl ?_
                  exact fin.out _ _ _ _ _ _ HGR.out (HK.out.mono (by omega)) HO.out (by omega) (by omega) HZ.out (grownBy_trans (grownBy_trans (only_set _ (p := ⟨w.heap.size, 0, none⟩) _) (only_set _ (p := ⟨w.heap.size, 1, none⟩) _)) (only_set _ (p := ⟨w.heap.size, 2, none⟩) _))
                · go_simp
                  (try (refine hK _ _ ?_; clear hK K))
                  (try simp only [Act.put, List.setIfInBounds_toArray, List.set_cons_zero, List.set_cons_succ])
                  refine wpAny_ready (rs := [1]) (by kernel_rfl) (by simp) ?_
                  refine AllReady.cons (o := _) rfl (fun K hK => ?_) (AllReady.nil)
                  go_simp
                  (try (refine hK _ _ ?_; clear hK K))
                  (try simp only [Act.put, List.setIfInBounds_toArray, List.set_cons_zero, List.set_cons_succ])
                  refine wpAny_ready (rs := [6]) (by kernel_rfl) (by simp) ?_
                  refine AllReady.cons (o := _) rfl (fun K hK => ?_) (AllReady.nil)
                  refine step_append_rec Tryz.elStr (by rfl) _ _ (by rfl) (by rfl) (HO8.out.alloc _) x8 (by rfl) (Box.at_ _ [.string x8] _ (by rfl)) (strE_one _) (by omega) (by decide) (by have h1 := HM8.out.1.lt; have h2 := hg8.size; simp at h2 ⊢; omega) ?_
                  intro A3 c3 w9 ho9 hg9 hb9
                  have HM9 := Lib.hid ((HM8.out.alloc (.cells #[.string x8] 9)).grown hg9 (fun k hk => by have := (HO8.out.blk hk).1; omega))
                  have d5 := HM9.out.1.cell 2; have e5 := HM9.out.1.frozen 2
                  simp only [List.getElem?_cons_zero, List.getElem?_cons_succ] at d5
                  (try (refine hK _ _ ?_; clear hK K))
                  (try simp only [Act.put, List.setIfInBounds_toArray, List.set_cons_zero, List.set_cons_succ])
                  refine wpAny_ready (rs := [7]) (by kernel_rfl) (by simp) ?_
                  refine AllReady.cons (o := _) rfl (fun K hK => ?_) (AllReady.nil)
                  go_simp
                  (try (refine hK _ _ ?_; clear hK K))
                  (try simp only [Act.put, List.setIfInBounds_toArray, List.set_cons_zero, List.set_cons_succ])
                  refine wpAny_ready (rs := [8]) (by kernel_rfl) (by simp) ?_
                  refine AllReady.cons (o := _) rfl (fun K hK => ?_) (AllReady.nil)
                  go_simp
                  (try (refine hK _ _ ?_; clear hK K))
                  (try simp only [Act.put, List.setIfInBounds_toArray, List.set_cons_zero, List.set_cons_succ])
                  refine wpAny_done (by kernel_rfl) ?_ _
                  (try simp only [Act.put, List.setIfInBounds_toArray, List.set_cons_zero, List.set_cons_succ])
                  have HZ := Lib.hid (good_snoc HZ.out gx8)
                  have HM := Lib.hid (HM9.out.put (v' := .slice A3 (q + 1 + q + 1) c3))
                  have HO := Lib.hid ((own_put (b := w3.heap.size) (v' := .slice A3 (q + 1 + q + 1) c3) ho9 (by omega)).base_le (show w3.heap.size + 1 ≤ wb by omega))
                  clear d2 d3 d4 d5 e2 e5 HM8 HO8 HM9 ho9 hg9 hb9 hc8 hg8 K5 K6
                  obtain ⟨K1, K2, ⟨rx, ry, rz, K3⟩, K4, K5, K6⟩ := HM.out
                  have kc0 := K1.cell 0; have kc1 := K1.cell 1; have kc2 := K1.cell 2
                  have kd0 := K3.cell 0; have kd1 := K3.cell 1; have kd2 := K3.cell 2
                  have kf0 := K3.frozen 0; have kf1 := K3.frozen 1; have kf2 := K3.frozen 2
                  simp only [List.getElem?_cons_zero, List.getElem?_cons_succ] at kc0 kc1 kc2 kd0 kd1 kd2
                  have Z := ((K3.set_ 0 (.string nm)).set_ 1 (.int .i64 (st : Int))).set_ 2 (.slice A3 (q + 1 + q + 1) c3)
                  have y0 := Z.cell 0; have y1 := Z.cell 1; have y2 := Z.cell 2
                  simp only [List.set_cons_zero, List.set_cons_succ, List.getElem?_cons_zero, List.getElem?_cons_succ] at y0 y1 y2
                  have HK := Lib.hid K2; have HGR := Lib.hid K4
                  clear K1 K2 K3 K4 Z
                  go_wp2_with fail
                  refine bodyPost_ret (v := .agg #[.string nm, .int .i64 (st : Int), .slice A3 (q + 1 + q + 1) c3]) (by simp [results, Tryz.results180, go_sem, y0, y1, y2]) rfl ?_
                  exact fin.out _ _ _ _ _ _ HGR.out (HK.out.mono (by omega)) HO.out (by omega) (by omega) HZ.out (grownBy_trans (grownBy_trans (only_set _ (p := ⟨w.heap.size, 0, none⟩) _) (only_set _ (p := ⟨w.heap.size, 1, none⟩) _)) (only_set _ (p := ⟨w.heap.size, 2, none⟩) _))
            · rw [show (((k + 1 : Nat) : Int) - 1) = (k : Int) by omega]
              have hI : (0 : Int) ≤ (k : Int) := by omega
              obtain ⟨b3, o3, y, hA, hbb, hy, hcy⟩ := HR.out.at_str (k := k) (by omega)
              injection hA with hA
              injection hA with e1 e2 _
              subst e1 e2
              have gy := HG.out y (List.mem_of_getElem? hy)
              obtain ⟨K1, _, _, _, K5, K6⟩ := HM.out
              have d2 := K1.cell 2; have e2 := K1.frozen 2
              have d4 := (HM.out.alloc (.cells #[.string y] 9)).1.cell 2
              have hJ : (k : Int) < (m : Int) := by omega
              simp only [List.getElem?_cons_zero, List.getElem?_cons_succ, Nat.zero_add] at d2 d4 hcy
              have HO8 := Lib.hid (HO.out.up (below_drewN (Below.refl _ _) 1))
              clear K1 hy
              go_upto_region 22 with fail
              refine wp_region_any (by kernel_rfl) ?_
              (try (change wpAny _ _ _ _ _ _ _ (World.drew _)))
              refine wpAny_take (i := 0) (oi := { dst := some 81, op := _, type := _, pos := _, after := _, guard := _ }) (v := ?_) rfl (by kernel_rfl) (by kernel_rfl) (by kernel_rfl) (fun _ _ _ h => h) (Or.inl ⟨by rfl, ?_⟩) ?_
              rotate_left
              · (intro w; go_simp) <;> with_reducible rfl
              (try simp only [Act.put, List.setIfInBounds_toArray, List.set_cons_zero, List.set_cons_succ])
              refine wpAny_take (i := 2) (oi := { dst := some 83, op := _, type := _, pos := _, after := _, guard := _ }) (v := ?_) rfl (by kernel_rfl) (by kernel_rfl) (by kernel_rfl) (fun _ _ _ h => h) (Or.inl ⟨by rfl, ?_⟩) ?_
              rotate_left
              · (intro w; go_simp) <;> with_reducible rfl
              (try simp only [Act.put, List.setIfInBounds_toArray, List.set_cons_zero, List.set_cons_succ])
              refine wpAny_take (i := 3) (oi := { dst := some 84, op := _, type := _, pos := _, after := _, guard := _ }) (v := ?_) rfl (by kernel_rfl) (by kernel_rfl) (by kernel_rfl) (fun _ _ _ h => h) (Or.inl ⟨by rfl, ?_⟩) ?_
              rotate_left
              · (intro w; go_simp) <;> with_reducible rfl
              (try simp only [Act.put, List.setIfInBounds_toArray, List.set_cons_zero, List.set_cons_succ])
              refine wpAny_take (i := 4) (oi := { dst := some 85, op := _, type := _, pos := _, after := _, guard := _ }) (v := ?_) rfl (by kernel_rfl) (by kernel_rfl) (by kernel_rfl) (fun _ _ _ h => h) (Or.inl ⟨by rfl, ?_⟩) ?_
              rotate_left
              · (intro w; go_simp) <;> with_reducible rfl
              (try simp only [Act.put, List.setIfInBounds_toArray, List.set_cons_zero, List.set_cons_succ])
              refine wpAny_ready (rs := [1, 5]) (by kernel_rfl) (by simp) ?_
              refine AllReady.cons (o := _) rfl (fun K hK => ?_) (AllReady.cons (o := _) rfl (fun K hK => ?_) (AllReady.nil))
              · go_simp
                (try (refine hK _ _ ?_; clear hK K))
                (try simp only [Act.put, List.setIfInBounds_toArray, List.set_cons_zero, List.set_cons_succ])
                refine wpAny_ready (rs := [5]) (by kernel_rfl) (by simp) ?_
                refine AllReady.cons (o := _) rfl (fun K hK => ?_) (AllReady.nil)
                go_simp
                (try (refine hK _ _ ?_; clear hK K))
                (try simp only [Act.put, List.setIfInBounds_toArray, List.set_cons_zero, List.set_cons_succ])
                refine wpAny_ready (rs := [6]) (by kernel_rfl) (by simp) ?_
                refine AllReady.cons (o := _) rfl (fun K hK => ?_) (AllReady.nil)
                go_simp
                (try (refine hK _ _ ?_; clear hK K))
                (try simp only [Act.put, List.setIfInBounds_toArray, List.set_cons_zero, List.set_cons_succ])
                refine wpAny_ready (rs := [7]) (by kernel_rfl) (by simp) ?_
                refine AllReady.cons (o := _) rfl (fun K hK => ?_) (AllReady.nil)
                refine step_append_rec Tryz.elStr (by rfl) _ _ (by rfl) (by rfl) (HO8.out.alloc _) y (by rfl) (Box.at_ _ [.string y] _ (by rfl)) (strE_one _) (by omega) (by decide) (by simp; omega) ?_
                intro A3 c3 w9 ho9 hg9 hb9
                have HM9 := Lib.hid ((HM.out.drew.alloc (.cells #[.string y] 9)).grown hg9 (fun k hk => by have := (HO8.out.blk hk).1; omega))
                have HR9 := Lib.hid (strs_grown ((HR.out.up (below_drewN (Below.refl _ _) 1)).alloc (.cells #[.string y] 9)) hg9 (fun e => by have := (HO8.out.blk e.symm).1; omega))
                have d5 := HM9.out.1.cell 2; have e5 := HM9.out.1.frozen 2
                simp only [List.getElem?_cons_zero, List.getElem?_cons_succ] at d5
                (try (refine hK _ _ ?_; clear hK K))
                (try simp only [Act.put, List.setIfInBounds_toArray, List.set_cons_zero, List.set_cons_succ])
                refine wpAny_ready (rs := [8]) (by kernel_rfl) (by simp) ?_
                refine AllReady.cons (o := _) rfl (fun K hK => ?_) (AllReady.nil)
                go_simp
                (try (refine hK _ _ ?_; clear hK K))
                (try simp only [Act.put, List.setIfInBounds_toArray, List.set_cons_zero, List.set_cons_succ])
                refine wpAny_ready (rs := [9]) (by kernel_rfl) (by simp) ?_
                refine AllReady.cons (o := _) rfl (fun K hK => ?_) (AllReady.nil)
                go_simp
                (try (refine hK _ _ ?_; clear hK K))
                (try simp only [Act.put, List.setIfInBounds_toArray, List.set_cons_zero, List.set_cons_succ])
                refine wpAny_done (by kernel_rfl) ?_ _
                (try simp only [Act.put, List.setIfInBounds_toArray, List.set_cons_zero, List.set_cons_succ])
                have HZ9 := Lib.hid (good_snoc HZ.out gy)
                have HMF := Lib.hid (HM9.out.put (v' := .slice A3 (m + 1 + q + 1) c3))
                have HOF := Lib.hid (own_put (b := w3.heap.size) (v' := .slice A3 (m + 1 + q + 1) c3) ho9 (by omega))
                have HRF := Lib.hid (strs_grown HR9.out (only_set w9 (p := ⟨w3.heap.size, 2, none⟩) (.slice A3 (m + 1 + q + 1) c3)) (fun e => by injection e with e; dsimp only at e; omega))
                have hs12 : wb ≤ (w9.setCell ⟨w3.heap.size, 2, none⟩ (.slice A3 (m + 1 + q + 1) c3)).heap.size := by have := hg9.size; simp at this ⊢; omega
                clear d2 d4 d5 e2 e5
                go_wp2
                go_roundw
                case rel => exact ⟨k, q + 1, A3, c3, L ++ [y], by omega, by go_num, HMF, HOF, HZ9, HRF, hs12⟩
                case measure => simp [intOf] <;> omega
              · go_simp
                (try (refine hK _ _ ?_; clear hK K))
                (try simp only [Act.put, List.setIfInBounds_toArray, List.set_cons_zero, List.set_cons_succ])
                refine wpAny_ready (rs := [1, 6]) (by kernel_rfl) (by simp) ?_
                refine AllReady.cons (o := _) rfl (fun K hK => ?_) (AllReady.cons (o := _) rfl (fun K hK => ?_) (AllReady.nil))
                · go_simp
                  (try (refine hK _ _ ?_; clear hK K))
                  (try simp only [Act.put, List.setIfInBounds_toArray, List.set_cons_zero, List.set_cons_succ])
                  refine wpAny_ready (rs := [6]) (by kernel_rfl) (by simp) ?_
                  refine AllReady.cons (o := _) rfl (fun K hK => ?_) (AllReady.nil)
                  go_simp
                  (try (refine hK _ _ ?_; clear hK K))
                  (try simp only [Act.put, List.setIfInBounds_toArray, List.set_cons_zero, List.set_cons_succ])
                  refine wpAny_ready (rs := [7]) (by kernel_rfl) (by simp) ?_
                  refine AllReady.cons (o := _) rfl (fun K hK => ?_) (AllReady.nil)
                  refine step_append_rec Tryz.elStr (by rfl) _ _ (by rfl) (by rfl) (HO8.out.alloc _) y (by rfl) (Box.at_ _ [.string y] _ (by rfl)) (strE_one _) (by omega) (by decide) (by simp; omega) ?_
                  intro A3 c3 w9 ho9 hg9 hb9
                  have HM9 := Lib.hid ((HM.out.drew.alloc (.cells #[.string y] 9)).grown hg9 (fun k hk => by have := (HO8.out.blk hk).1; omega))
                  have HR9 := Lib.hid (strs_grown ((HR.out.up (below_drewN (Below.refl _ _) 1)).alloc (.cells #[.string y] 9)) hg9 (fun e => by have := (HO8.out.blk e.symm).1; omega))
                  have d5 := HM9.out.1.cell 2; have e5 := HM9.out.1.frozen 2
                  simp only [List.getElem?_cons_zero, List.getElem?_cons_succ] at d5
                  (try (refine hK _ _ ?_; clear hK K))
                  (try simp only [Act.put, List.setIfInBounds_toArray, List.set_cons_zero, List.set_cons_succ])
                  refine wpAny_ready (rs := [8]) (by kernel_rfl) (by simp) ?_
                  refine AllReady.cons (o := _) rfl (fun K hK => ?_) (AllReady.nil)
                  go_simp
                  (try (refine hK _ _ ?_; clear hK K))
                  (try simp only [Act.put, List.setIfInBounds_toArray, List.set_cons_zero, List.set_cons_succ])
                  refine wpAny_ready (rs := [9]) (by kernel_rfl) (by simp) ?_
                  refine AllReady.cons (o := _) rfl (fun K hK => ?_) (AllReady.nil)
                  go_simp
                  (try (refine hK _ _ ?_; clear hK K))
                  (try simp only [Act.put, List.setIfInBounds_toArray, List.set_cons_zero, List.set_cons_succ])
                  refine wpAny_done (by kernel_rfl) ?_ _
                  (try simp only [Act.put, List.setIfInBounds_toArray, List.set_cons_zero, List.set_cons_succ])
                  have HZ9 := Lib.hid (good_snoc HZ.out gy)
                  have HMF := Lib.hid (HM9.out.put (v' := .slice A3 (m + 1 + q + 1) c3))
                  have HOF := Lib.hid (own_put (b := w3.heap.size) (v' := .slice A3 (m + 1 + q + 1) c3) ho9 (by omega))
                  have HRF := Lib.hid (strs_grown HR9.out (only_set w9 (p := ⟨w3.heap.size, 2, none⟩) (.slice A3 (m + 1 + q + 1) c3)) (fun e => by injection e with e; dsimp only at e; omega))
                  have hs12 : wb ≤ (w9.setCell ⟨w3.heap.size, 2, none⟩ (.slice A3 (m + 1 + q + 1) c3)).heap.size := by have := hg9.size; simp at this ⊢; omega
                  clear d2 d4 d5 e2 e5
                  go_wp2
                  go_roundw
                  case rel => exact ⟨k, q + 1, A3, c3, L ++ [y], by omega, by go_num, HMF, HOF, HZ9, HRF, hs12⟩
                  case measure => simp [intOf] <;> omega
                · go_simp
                  (try (refine hK _ _ ?_; clear hK K))
                  (try simp only [Act.put, List.setIfInBounds_toArray, List.set_cons_zero, List.set_cons_succ])
                  refine wpAny_ready (rs := [1]) (by kernel_rfl) (by simp) ?_
                  refine AllReady.cons (o := _) rfl (fun K hK => ?_) (AllReady.nil)
                  go_simp
                  (try (refine hK _ _ ?_; clear hK K))
                  (try simp only [Act.put, List.setIfInBounds_toArray, List.set_cons_zero, List.set_cons_succ])
                  refine wpAny_ready (rs := [7]) (by kernel_rfl) (by simp) ?_
                  refine AllReady.cons (o := _) rfl (fun K hK => ?_) (AllReady.nil)
                  refine step_append_rec Tryz.elStr (by rfl) _ _ (by rfl) (by rfl) (HO8.out.alloc _) y (by rfl) (Box.at_ _ [.string y] _ (by rfl)) (strE_one _) (by omega) (by decide) (by simp; omega) ?_
                  intro A3 c3 w9 ho9 hg9 hb9
                  have HM9 := Lib.hid ((HM.out.drew.alloc (.cells #[.string y] 9)).grown hg9 (fun k hk => by have := (HO8.out.blk hk).1; omega))
                  have HR9 := Lib.hid (strs_grown ((HR.out.up (below_drewN (Below.refl _ _) 1)).alloc (.cells #[.string y] 9)) hg9 (fun e => by have := (HO8.out.blk e.symm).1; omega))
                  have d5 := HM9.out.1.cell 2; have e5 := HM9.out.1.frozen 2
                  simp only [List.getElem?_cons_zero, List.getElem?_cons_succ] at d5
                  (try (refine hK _ _ ?_; clear hK K))
                  (try simp only [Act.put, List.setIfInBounds_toArray, List.set_cons_zero, List.set_cons_succ])
                  refine wpAny_ready (rs := [8]) (by kernel_rfl) (by simp) ?_
                  refine AllReady.cons (o := _) rfl (fun K hK => ?_) (AllReady.nil)
                  go_simp
                  (try (refine hK _ _ ?_; clear hK K))
                  (try simp only [Act.put, List.setIfInBounds_toArray, List.set_cons_zero, List.set_cons_succ])
                  refine wpAny_ready (rs := [9]) (by kernel_rfl) (by simp) ?_
                  refine AllReady.cons (o := _) rfl (fun K hK => ?_) (AllReady.nil)
                  go_simp
                  (try (refine hK _ _ ?_; clear hK K))
                  (try simp only [Act.put, List.setIfInBounds_toArray, List.set_cons_zero, List.set_cons_succ])
                  refine wpAny_done (by kernel_rfl) ?_ _
                  (try simp only [Act.put, List.setIfInBounds_toArray, List.set_cons_zero, List.set_cons_succ])
                  have HZ9 := Lib.hid (good_snoc HZ.out gy)
                  have HMF := Lib.hid (HM9.out.put (v' := .slice A3 (m + 1 + q + 1) c3))
                  have HOF := Lib.hid (own_put (b := w3.heap.size) (v' := .slice A3 (m + 1 + q + 1) c3) ho9 (by omega))
                  have HRF := Lib.hid (strs_grown HR9.out (only_set w9 (p := ⟨w3.heap.size, 2, none⟩) (.slice A3 (m + 1 + q + 1) c3)) (fun e => by injection e with e; dsimp only at e; omega))
                  have hs12 : wb ≤ (w9.setCell ⟨w3.heap.size, 2, none⟩ (.slice A3 (m + 1 + q + 1) c3)).heap.size := by have := hg9.size; simp at this ⊢; omega
                  clear d2 d4 d5 e2 e5
                  go_wp2
                  go_roundw
                  case rel => exact ⟨k, q + 1, A3, c3, L ++ [y], by omega, by go_num, HMF, HOF, HZ9, HRF, hs12⟩
                  case measure => simp [intOf] <;> omega
end Go.Proofs.YtidolgonmimicaaGreat
/- The walks through the generators of any method. -/
namespace Go.Proofs.YtidolgonmimicaaGreat
set_option linter.unusedVariables false
set_option linter.unusedSimpArgs false
open Go.ChangeShapes Go.WideShapes Go.ChangeAt Go.RowKit Go.Deep
/-- A drawn method: its name is small, its stage lies between 2 and 9, its changes are few and small. -/
def drM (nm : ByteArray) (st : Nat) (L : List ByteArray) : Prop := nm.size ≤ 16 ∧ 2 ≤ st ∧ st ≤ 9 ∧ L.length ≤ 41 ∧ ∀ s ∈ L, s.size ≤ 8
theorem goodM_changes {nm : ByteArray} {st : Int} {l : List ByteArray} (h : goodM nm st l = true) : ∀ s ∈ l, s.size ≤ 8 := fun s hs => by
  have h1 := (goodM_t h).2.2.2
  rw [allCh, List.all_eq_true] at h1
  obtain ⟨k, hk⟩ := List.getElem?_of_mem hs
  have h2 := h1 k (List.mem_range.2 (List.getElem?_eq_some_iff.1 hk).1)
  rw [okCh_at hk] at h2
  have := goodChange_small h2
  omega
theorem goodM_name {nm : ByteArray} {st : Int} {l : List ByteArray} (h : goodM nm st l = true) : nm.size ≤ 10 := by
  have h1 := (goodM_t h).1
  rw [nameOk, Bool.and_eq_true] at h1
  have := inB_t h1.2
  omega
theorem own_fld {u u' : World} {b base m d : Nat} {B : Option Addr} {l : List ByteArray} {cs : List Value} (ho : Owned strE 1 9 u base B m d l) (hk : Blk u b 25 cs) (hg : u.grownBy u' (some b)) : Owned strE 1 9 u' base B m d l :=
  ho.kept hg (fun k hk' e => by have hne := ho.ne_blk hk (by decide) k hk'; injection e with e; omega)
section
variable {w u u' : World} {p n c a a' b : Nat} {A : Option Addr} {nm : ByteArray} {st : Int} {v v' : Value}
theorem MSt.put0 {x : ByteArray} (h : MSt w u p A n c a b nm st v) : MSt w (u.setCell ⟨b, 0, none⟩ (.string x)) p A n c a b x st v := by
  obtain ⟨h1, h2, ⟨q, y, z, h3⟩, h4, h5, h6⟩ := h
  have hg : u.grownBy (u.setCell ⟨b, 0, none⟩ (.string x)) (some b) := only_set u (p := ⟨b, 0, none⟩) (.string x)
  exact ⟨h1.set_ 0 (.string x), h2.grown hg (fun e => by injection e with e; omega), ⟨q, y, z, h3.grown hg (fun e => by injection e with e; omega)⟩, grow_own h4 hg (fun k e => by injection e with e; omega), h5, h6⟩
theorem MSt.put1 {x : Int} (h : MSt w u p A n c a b nm st v) : MSt w (u.setCell ⟨b, 1, none⟩ (.int .i64 x)) p A n c a b nm x v := by
  obtain ⟨h1, h2, ⟨q, y, z, h3⟩, h4, h5, h6⟩ := h
  have hg : u.grownBy (u.setCell ⟨b, 1, none⟩ (.int .i64 x)) (some b) := only_set u (p := ⟨b, 1, none⟩) (.int .i64 x)
  exact ⟨h1.set_ 1 (.int .i64 x), h2.grown hg (fun e => by injection e with e; omega), ⟨q, y, z, h3.grown hg (fun e => by injection e with e; omega)⟩, grow_own h4 hg (fun k e => by injection e with e; omega), h5, h6⟩
theorem MSt.grown2 {row : Option Nat} (h : MSt w u p A n c a b nm st v) (hg : u.grownBy u' row) (hr : ∀ k, row = some k → w.heap.size < k ∧ k ≠ b) : MSt w u' p A n c a b nm st v := by
  obtain ⟨h1, h2, ⟨x, y, z, h3⟩, h4, h5, h6⟩ := h
  exact ⟨h1.grown hg (fun e => (hr b e.symm).2 rfl), h2.grown hg (fun e => by have := (hr p e.symm).1; omega), ⟨x, y, z, h3.grown hg (fun e => by have := (hr _ e.symm).1; omega)⟩, grow_own h4 hg (fun k e => by have := (hr k e).1; omega), h5, h6⟩
/-- A list that the method has, in a block of its own: appending to it leaves the method as it is. -/
theorem MSt.app {m d base : Nat} {B : Option Addr} {l : List ByteArray} (h : MSt w u p A n c a b nm st v) (ho : Owned strE 1 9 u base B m d l) (hb : w.heap.size < base) (hg : u.grownBy u' (Value.slice B m d).ownBlock) : MSt w u' p A n c a b nm st v :=
  h.grown2 hg (fun k hk => ⟨by have := (ho.blk hk).1; omega, ho.ne_blk h.1 (by decide) k hk⟩)
end
def clen : Option Value → Nat
  | some (.slice _ n _) => n
  | _ => 0
set_option maxHeartbeats 4000000 in
set_option maxRecDepth 100000 in
theorem cur_anyMethod {A : Option Addr} {n c a p : Nat} {w0 w : World} (hS : Src w0 A n) (hb : Below w0.heap.size w0 w) (hp : w0.heap.size ≤ p) (hc : Cur w p A n c a) (ha : a ≤ 900000) :
    Calls Tryz.prog 92 #[.pointer (some ⟨p, 0, none⟩)] w fun e w' => ∃ (nm : ByteArray) (st : Nat) (A' : Option Addr) (m c' : Nat) (L : List ByteArray), e = .returned (.agg #[.string nm, .int .i64 st, .slice A' m c']) ∧ drM nm st L ∧ Owned strE 1 9 w' w.heap.size A' m c' L ∧ Cur w' p A n c (a + 200) ∧ w.grownBy w' (some p) := by
  have hpw := hc.lt
  have R0 := Blk.at_ w 25 [.string ⟨#[]⟩, .int .i64 0, .slice none 0 0] (b := w.heap.size) rfl
  have b0 : Below w.heap.size w (w.alloc (.cells #[.string ⟨#[]⟩, .int .i64 0, .slice none 0 0] 25)) := by (repeat' (first | (with_reducible exact Below.refl _ _) | (with_reducible assumption) | (with_reducible refine below_drewN ?_ _) | (with_reducible refine Below.drew ?_) | (with_reducible refine below_alloc ?_ _) | (with_reducible refine Below.alloc ?_ ?_ _) | (with_reducible refine Below.setCell ?_ ?_ _) | (with_reducible refine below_go ?_ (by with_reducible assumption)) | (with_reducible refine below_then (by with_reducible assumption) ?_ ?_) | go_size))
  have G : Hid (∀ u : World, w.grownBy u (some p) → Below w0.heap.size w0 u) := Lib.hid (fun u hg => grown_below hb hp hg)
  have HS := Lib.hid hS
  clear hS hb
  go_in
  go_wp2_with fail
  obtain ⟨w1, hw1⟩ : ∃ u, u = w.alloc (.cells #[.string ⟨#[]⟩, .int .i64 0, .slice none 0 0] 25) := ⟨_, rfl⟩
  have z1 : w1.heap.size = w.heap.size + 1 := by rw [hw1]; simp
  rw [← hw1] at b0 ⊢
  have R1 : Blk w1 w.heap.size 25 [.string ⟨#[]⟩, .int .i64 0, .slice none 0 0] := by rw [hw1]; exact R0
  clear hw1 R0
  refine (cur_method HS.out (G.out _ (grown_any b0 _)) hp (hc.up b0) (by omega)).mono ?_; rintro e w2 ⟨nm, st, A2, m, c2, L, rfl, hgm, h3, h6, hm, ho2, hc2, hg2⟩
  have g2 : w.grownBy w2 (some p) := grownBy_trans (grown_any b0 _) hg2
  have R2 := R1.grown hg2 (fun e => by injection e with e; omega)
  have s2 := hg2.size
  have zl := goodM_changes hgm
  have zn := goodM_name hgm
  have zL : L.length ≤ 12 := by rw [ho2.len]; exact hm
  have K3 := Blk.at_ w2 25 [.string nm, .int .i64 (st : Int), .slice A2 m c2] (b := w2.heap.size) rfl
  have a3 : Below w2.heap.size w2 (w2.alloc (.cells #[.string nm, .int .i64 (st : Int), .slice A2 m c2] 25)) := by (repeat' (first | (with_reducible exact Below.refl _ _) | (with_reducible assumption) | (with_reducible refine below_drewN ?_ _) | (with_reducible refine Below.drew ?_) | (with_reducible refine below_alloc ?_ _) | (with_reducible refine Below.alloc ?_ ?_ _) | (with_reducible refine Below.setCell ?_ ?_ _) | (with_reducible refine below_go ?_ (by with_reducible assumption)) | (with_reducible refine below_then (by with_reducible assumption) ?_ ?_) | go_size))
  have M3 : MSt w (w2.alloc (.cells #[.string nm, .int .i64 (st : Int), .slice A2 m c2] 25)) p A n c (a + 100) w2.heap.size nm st (.slice A2 m c2) := ⟨K3, hc2.up a3, ⟨_, _, _, R2.up a3⟩, grownBy_trans g2 (grown_any a3 _), hpw, by omega⟩
  have HO3 := Lib.hid (ho2.up a3)
  have HZL := Lib.hid zl
  have hzL := Lib.hid zL
  have fin : Hid (∀ (u v : World) (nm' : ByteArray) (st' : Nat) (A' : Option Addr) (m c' : Nat) (L : List ByteArray), w.grownBy u (some p) → Cur u p A n c (a + 190) → Owned strE 1 9 u (w.heap.size + 1) A' m c' L → nm'.size ≤ 16 → 2 ≤ st' → st' ≤ 9 → m ≤ 41 → (∀ x ∈ L, x.size ≤ 8) → u.grownBy v (some w.heap.size) → ∃ (nm'' : ByteArray) (st'' : Nat) (A'' : Option Addr) (m' c'' : Nat) (L' : List ByteArray), Ending.returned (Value.agg #[.string nm', .int .i64 (st' : Int), .slice A' m c']) = .returned (.agg #[.string nm'', .int .i64 (st'' : Int), .slice A'' m' c'']) ∧ drM nm'' st'' L' ∧ Owned strE 1 9 v w.heap.size A'' m' c'' L' ∧ Cur v p A n c (a + 200) ∧ w.grownBy v (some p)) := Lib.hid (fun u v nm' st' A' m c' L h1 h2 h3 h4 h5 h6 h7 h8 h9 =>
    ⟨nm', st', A', m, c', L, rfl, ⟨h4, h5, h6, by rw [h3.len]; exact h7, h8⟩, (h3.past h9 (by omega)).base_le (by omega), (h2.grown h9 (fun e => by injection e with e; omega)).mono (by omega), grow_own h1 h9 (fun k e => by injection e with e; omega)⟩)
  clear K3 a3 R2 g2 hc2 ho2 hg2 hgm R1 hc zl zL
  go_upto_region 2 with fail
  obtain ⟨w3, hw3⟩ : ∃ u, u = w2.alloc (.cells #[.string nm, .int .i64 (st : Int), .slice A2 m c2] 25) := ⟨_, rfl⟩
  rw [← hw3] at M3 HO3 ⊢
  clear hw3
  rw [z1] at HO3
  obtain ⟨b, hb⟩ : ∃ b, b = w2.heap.size := ⟨_, rfl⟩
  rw [← hb] at M3 ⊢
  clear hb
  go_wp2_with fail
  refine (cur_pick HS.out (G.out _ M3.2.2.2.1) hp M3.2.1 (by omega) (by decide) (by decide)).mono ?_; rintro e w4 ⟨x, rfl, ⟨x0, x1⟩, hc4, hg4⟩
  have HM4 := Lib.hid (M3.draw hg4 hc4)
  have HO4 := Lib.hid (HO3.out.past hg4 (by omega))
  clear hc4 hg4 M3 HO3
  have hx : x = 0 ∨ x = 1 ∨ x = 2 ∨ x = 3 ∨ x = 4 ∨ 5 ≤ x := by omega
  clear x1
  rcases hx with rfl | rfl | rfl | rfl | rfl | hx
  · go_wp2_with fail
    have hl := lit_strs2 w4 9 [⟨#[]⟩, ⟨#[65]⟩, ⟨#[101, 108, 101, 118, 101, 110, 108, 101, 116, 114, 115]⟩]
    have a5 : ∀ o : Obj, Below w4.heap.size w4 (w4.alloc o) := fun o => (Below.refl _ _).alloc (Nat.le_refl _) o
    have HM5 := Lib.hid (HM4.out.alloc (.cells #[.string ⟨#[]⟩, .string ⟨#[65]⟩, .string ⟨#[101, 108, 101, 118, 101, 110, 108, 101, 116, 114, 115]⟩] 9))
    have HO5 := Lib.hid (HO4.out.up (a5 (.cells #[.string ⟨#[]⟩, .string ⟨#[65]⟩, .string ⟨#[101, 108, 101, 118, 101, 110, 108, 101, 116, 114, 115]⟩] 9)))
    have hp4 := HM4.out.2.1.lt
    refine (cur_of HS.out (G.out _ HM5.out.2.2.2.1) hp HM5.out.2.1 (by omega) rfl hl (by decide) (by decide) (fun b o e => by injection e with e; injection e with e; omega)).mono ?_; rintro e w6 ⟨y, hy, rfl, hc6, hg6⟩
    have HM6 := Lib.hid (HM5.out.draw hg6 hc6)
    have HO6 := Lib.hid (HO5.out.past hg6 (by omega))
    have hyz : y.size ≤ 16 := by
      simp only [List.mem_cons, List.not_mem_nil, or_false] at hy
      rcases hy with rfl | rfl | rfl <;> decide
    have g0 := HM6.out.1.cell 0; have e0 := HM6.out.1.frozen 0
    simp only [List.getElem?_cons_zero, List.getElem?_cons_succ] at g0
    have HM := Lib.hid (HM6.out.put0 (x := y))
    have HO := Lib.hid (own_fld HO6.out HM6.out.1 (only_set w6 (p := ⟨b, 0, none⟩) (.string y)))
    have HZ := HZL
    have hOl := HO.out.len
    have hLz := hzL.out
    clear hl a5 hc6 hg6 hy HM6 HO6 HM5 HO5 HM4 HO4
    obtain ⟨K1, K2, ⟨rx, ry, rz, K3⟩, K4, K5, K6⟩ := HM.out
    have kc0 := K1.cell 0; have kc1 := K1.cell 1; have kc2 := K1.cell 2
    have kd0 := K3.cell 0; have kd1 := K3.cell 1; have kd2 := K3.cell 2
    have kf0 := K3.frozen 0; have kf1 := K3.frozen 1; have kf2 := K3.frozen 2
    simp only [List.getElem?_cons_zero, List.getElem?_cons_succ] at kc0 kc1 kc2 kd0 kd1 kd2
    have Z := ((K3.set_ 0 (.string y)).set_ 1 (.int .i64 (st : Int))).set_ 2 (.slice A2 (m) c2)
    have y0 := Z.cell 0; have y1 := Z.cell 1; have y2 := Z.cell 2
    simp only [List.set_cons_zero, List.set_cons_succ, List.getElem?_cons_zero, List.getElem?_cons_succ] at y0 y1 y2
    have HK := Lib.hid K2; have HGR := Lib.hid K4
    clear K1 K2 K3 K4 Z
    go_wp2_with fail
    refine bodyPost_ret (v := .agg #[.string y, .int .i64 (st : Int), .slice A2 (m) c2]) (by simp [results, Tryz.results92, go_sem, y0, y1, y2]) rfl ?_
    have X := fin.out _ _ y st _ _ _ _ HGR.out (HK.out.mono (by omega)) HO.out (by omega) (by omega) (by omega) (by omega) HZ.out (grownBy_trans (grownBy_trans (only_set _ (p := ⟨w.heap.size, 0, none⟩) (.string y)) (only_set _ (p := ⟨w.heap.size, 1, none⟩) (.int .i64 (st : Int)))) (only_set _ (p := ⟨w.heap.size, 2, none⟩) (.slice A2 (m) c2)))
    first | exact X | (obtain ⟨z1, z2, z3, z4, z5, z6, z7, z8⟩ := X; exact ⟨z1, z2, z3, z4, z5, z7, z6, z8⟩)
  · have hOl := HO4.out.len
    have hLz := hzL.out
    have g2 := HM4.out.1.cell 2
    simp only [List.getElem?_cons_zero, List.getElem?_cons_succ] at g2
    have HM5 := Lib.hid (HM4.out.alloc (.cells ⟨[Value.string ⟨#[120]⟩]⟩ 9))
    have HO5 := Lib.hid (HO4.out.alloc (.cells ⟨[Value.string ⟨#[120]⟩]⟩ 9))
    have g2' := HM5.out.1.cell 2
    simp only [List.getElem?_cons_zero, List.getElem?_cons_succ] at g2'
    have hs4 := HM4.out.2.2.2.1.size
    have hbs := HM4.out.1.lt
    go_upto_region 15 with (first | (at_builtin; go_must ((refine wpList_append_recs Tryz.elStr strE_one rfl (.tmp 18) (.tmp 19) rfl rfl HO5.out rfl (own_lit1_at' strE_len _ 9 ⟨#[120]⟩ rfl (Nat.le_refl _)).recs rfl ?_ (by decide) ?_ ?_; (focus (first | omega | (simp only [World.size_alloc]; done) | (simp only [World.size_alloc]; omega) | (simp; done) | (simp; omega))); (simp; omega); intro A3 c3 w9 ho9 hg9 hl9; have HM9 := Lib.hid (HM5.out.app HO5.out (by omega) hg9); have g3 := HM9.out.1.cell 2; have e3 := HM9.out.1.frozen 2; simp only [List.getElem?_cons_zero, List.getElem?_cons_succ] at g3; have HM := Lib.hid (HM9.out.put (v' := .slice A3 (m + 1) c3)); have HO := Lib.hid (own_fld ho9 HM9.out.1 (only_set w9 (p := ⟨b, 2, none⟩) (.slice A3 (m + 1) c3))); have HZ := Lib.hid (show ∀ y ∈ L ++ [(⟨#[120]⟩ : ByteArray)], y.size ≤ 8 from fun y hy => (List.mem_append.1 hy).elim (fun q => HZL.out y q) (fun q => by rw [List.mem_singleton.1 q]; decide)); clear hg9 hl9 ho9 HM5 HO5 g2 g2' HM4 HO4))))
    obtain ⟨K1, K2, ⟨rx, ry, rz, K3⟩, K4, K5, K6⟩ := HM.out
    have kc0 := K1.cell 0; have kc1 := K1.cell 1; have kc2 := K1.cell 2
    have kd0 := K3.cell 0; have kd1 := K3.cell 1; have kd2 := K3.cell 2
    have kf0 := K3.frozen 0; have kf1 := K3.frozen 1; have kf2 := K3.frozen 2
    simp only [List.getElem?_cons_zero, List.getElem?_cons_succ] at kc0 kc1 kc2 kd0 kd1 kd2
    have Z := ((K3.set_ 0 (.string nm)).set_ 1 (.int .i64 (st : Int))).set_ 2 (.slice A3 (m + 1) c3)
    have y0 := Z.cell 0; have y1 := Z.cell 1; have y2 := Z.cell 2
    simp only [List.set_cons_zero, List.set_cons_succ, List.getElem?_cons_zero, List.getElem?_cons_succ] at y0 y1 y2
    have HK := Lib.hid K2; have HGR := Lib.hid K4
    clear K1 K2 K3 K4 Z
    go_wp2_with fail
    refine bodyPost_ret (v := .agg #[.string nm, .int .i64 (st : Int), .slice A3 (m + 1) c3]) (by simp [results, Tryz.results92, go_sem, y0, y1, y2]) rfl ?_
    have X := fin.out _ _ nm st _ _ _ _ HGR.out (HK.out.mono (by omega)) HO.out (by omega) (by omega) (by omega) (by omega) HZ.out (grownBy_trans (grownBy_trans (only_set _ (p := ⟨w.heap.size, 0, none⟩) (.string nm)) (only_set _ (p := ⟨w.heap.size, 1, none⟩) (.int .i64 (st : Int)))) (only_set _ (p := ⟨w.heap.size, 2, none⟩) (.slice A3 (m + 1) c3)))
    first | exact X | (obtain ⟨z1, z2, z3, z4, z5, z6, z7, z8⟩ := X; exact ⟨z1, z2, z3, z4, z5, z7, z6, z8⟩)
  · go_wp2_with fail
    have hl := lit_ints w4 3 [2, 9, 5]
    have a5 : ∀ o : Obj, Below w4.heap.size w4 (w4.alloc o) := fun o => (Below.refl _ _).alloc (Nat.le_refl _) o
    have HM5 := Lib.hid (HM4.out.alloc (.cells #[.int .i64 2, .int .i64 9, .int .i64 5] 3))
    have HO5 := Lib.hid (HO4.out.up (a5 (.cells #[.int .i64 2, .int .i64 9, .int .i64 5] 3)))
    have hp4 := HM4.out.2.1.lt
    refine (cur_among HS.out (G.out _ HM5.out.2.2.2.1) hp HM5.out.2.1 (by omega) rfl hl (by decide) (by decide) (fun b o e => by injection e with e; injection e with e; omega)).mono ?_; rintro e w6 ⟨y, hy, rfl, hc6, hg6⟩
    have HM6 := Lib.hid (HM5.out.draw hg6 hc6)
    have HO6 := Lib.hid (HO5.out.past hg6 (by omega))
    simp only [List.mem_cons, List.not_mem_nil, or_false] at hy
    obtain ⟨y, rfl⟩ : ∃ z : Nat, y = (z : Int) := ⟨y.toNat, by omega⟩
    have hyz : 2 ≤ y ∧ y ≤ 9 := by omega
    have g0 := HM6.out.1.cell 1; have e0 := HM6.out.1.frozen 1
    simp only [List.getElem?_cons_zero, List.getElem?_cons_succ] at g0
    have HM := Lib.hid (HM6.out.put1 (x := (y : Int)))
    have HO := Lib.hid (own_fld HO6.out HM6.out.1 (only_set w6 (p := ⟨b, 1, none⟩) (.int .i64 (y : Int))))
    have HZ := HZL
    have hOl := HO.out.len
    have hLz := hzL.out
    clear hl a5 hc6 hg6 hy HM6 HO6 HM5 HO5 HM4 HO4
    obtain ⟨K1, K2, ⟨rx, ry, rz, K3⟩, K4, K5, K6⟩ := HM.out
    have kc0 := K1.cell 0; have kc1 := K1.cell 1; have kc2 := K1.cell 2
    have kd0 := K3.cell 0; have kd1 := K3.cell 1; have kd2 := K3.cell 2
    have kf0 := K3.frozen 0; have kf1 := K3.frozen 1; have kf2 := K3.frozen 2
    simp only [List.getElem?_cons_zero, List.getElem?_cons_succ] at kc0 kc1 kc2 kd0 kd1 kd2
    have Z := ((K3.set_ 0 (.string nm)).set_ 1 (.int .i64 (y : Int))).set_ 2 (.slice A2 (m) c2)
    have y0 := Z.cell 0; have y1 := Z.cell 1; have y2 := Z.cell 2
    simp only [List.set_cons_zero, List.set_cons_succ, List.getElem?_cons_zero, List.getElem?_cons_succ] at y0 y1 y2
    have HK := Lib.hid K2; have HGR := Lib.hid K4
    clear K1 K2 K3 K4 Z
    go_wp2_with fail
    refine bodyPost_ret (v := .agg #[.string nm, .int .i64 (y : Int), .slice A2 (m) c2]) (by simp [results, Tryz.results92, go_sem, y0, y1, y2]) rfl ?_
    have X := fin.out _ _ nm y _ _ _ _ HGR.out (HK.out.mono (by omega)) HO.out (by omega) (by omega) (by omega) (by omega) HZ.out (grownBy_trans (grownBy_trans (only_set _ (p := ⟨w.heap.size, 0, none⟩) (.string nm)) (only_set _ (p := ⟨w.heap.size, 1, none⟩) (.int .i64 (y : Int)))) (only_set _ (p := ⟨w.heap.size, 2, none⟩) (.slice A2 (m) c2)))
    first | exact X | (obtain ⟨z1, z2, z3, z4, z5, z6, z7, z8⟩ := X; exact ⟨z1, z2, z3, z4, z5, z7, z6, z8⟩)
  · have g0 := HM4.out.1.cell 2; have e0 := HM4.out.1.frozen 2
    simp only [List.getElem?_cons_zero, List.getElem?_cons_succ] at g0
    have HM := Lib.hid (HM4.out.put (v' := .slice none 0 0))
    have HO := Lib.hid (Owned.nil strE_len 9 (w4.setCell ⟨b, 2, none⟩ (.slice none 0 0)) (w.heap.size + 1))
    have HZ := Lib.hid (show ∀ y ∈ ([] : List ByteArray), y.size ≤ 8 from fun y hy => by cases hy)
    clear HM4 HO4
    obtain ⟨K1, K2, ⟨rx, ry, rz, K3⟩, K4, K5, K6⟩ := HM.out
    have kc0 := K1.cell 0; have kc1 := K1.cell 1; have kc2 := K1.cell 2
    have kd0 := K3.cell 0; have kd1 := K3.cell 1; have kd2 := K3.cell 2
    have kf0 := K3.frozen 0; have kf1 := K3.frozen 1; have kf2 := K3.frozen 2
    simp only [List.getElem?_cons_zero, List.getElem?_cons_succ] at kc0 kc1 kc2 kd0 kd1 kd2
    have Z := ((K3.set_ 0 (.string nm)).set_ 1 (.int .i64 (st : Int))).set_ 2 (.slice none (0) 0)
    have y0 := Z.cell 0; have y1 := Z.cell 1; have y2 := Z.cell 2
    simp only [List.set_cons_zero, List.set_cons_succ, List.getElem?_cons_zero, List.getElem?_cons_succ] at y0 y1 y2
    have HK := Lib.hid K2; have HGR := Lib.hid K4
    clear K1 K2 K3 K4 Z
    go_wp2_with fail
    refine bodyPost_ret (v := .agg #[.string nm, .int .i64 (st : Int), .slice none (0) 0]) (by simp [results, Tryz.results92, go_sem, y0, y1, y2]) rfl ?_
    have X := fin.out _ _ nm st _ _ _ _ HGR.out (HK.out.mono (by omega)) HO.out (by omega) (by omega) (by omega) (by omega) HZ.out (grownBy_trans (grownBy_trans (only_set _ (p := ⟨w.heap.size, 0, none⟩) (.string nm)) (only_set _ (p := ⟨w.heap.size, 1, none⟩) (.int .i64 (st : Int)))) (only_set _ (p := ⟨w.heap.size, 2, none⟩) (.slice none (0) 0)))
    first | exact X | (obtain ⟨z1, z2, z3, z4, z5, z6, z7, z8⟩ := X; exact ⟨z1, z2, z3, z4, z5, z7, z6, z8⟩)
  · go_wp2_with fail
    refine (cur_pick HS.out (G.out _ HM4.out.2.2.2.1) hp HM4.out.2.1 (by omega) (by decide) (by decide)).mono ?_; rintro e w5 ⟨z, rfl, ⟨z0, z1⟩, hc5, hg5⟩
    have HM5 := Lib.hid (HM4.out.draw hg5 hc5)
    have HO5 := Lib.hid (HO4.out.past hg5 (by omega))
    obtain ⟨Z, rfl⟩ := Int.eq_ofNat_of_zero_le z0
    have hZ : Z ≤ 1 := by omega
    have hm5 : m ≤ 12 := by have h1 := HO4.out.len; have h2 := hzL.out; omega
    clear hc5 hg5 z0 z1 HM4 HO4
    go_wp2
    go_loopw [] (fun wr => ∃ (m : Nat) (A' : Option Addr) (c' : Nat) (L : List ByteArray), m ≤ 40 + Z ∧ Hid (MSt w wr p A n c (a + 110 + m) b nm st (.slice A' m c')) ∧ Hid (Owned strE 1 9 wr (w.heap.size + 1) A' m c' L) ∧ Hid (∀ x ∈ L, x.size ≤ 8)) (fun wr => 41 - clen (wr.cell? ⟨b, 2, none⟩))
    case atStart => exact ⟨m, A2, c2, L, by omega, Lib.hid (HM5.out.mono (by omega)), HO5, HZL⟩
    case round =>
      obtain ⟨m, A2, c2, L, hmZ, HM, HO, HZ⟩ := hrel
      rename World => wr
      have d2 := HM.out.1.cell 2; have d1 := HM.out.1.cell 1
      simp only [List.getElem?_cons_zero, List.getElem?_cons_succ] at d2 d1
      have HCL := Lib.hid d2
      have hOl := HO.out.len
      have hbs := HM.out.1.lt
      have hs4 := HM.out.2.2.2.1.size
      by_cases h0 : m < 40 + Z
      · have hI : (m : Int) < 40 + (Z : Int) := by omega
        go_upto_region 14 with fail
        refine wp_region_any (by kernel_rfl) ?_
        (try (change wpAny _ _ _ _ _ _ _ (World.drew _)))
        refine wpAny_take (i := 0) (oi := { dst := some 41, op := _, type := _, pos := _, after := _, guard := _ }) (v := ?_) rfl (by kernel_rfl) (by kernel_rfl) (by kernel_rfl) (fun _ _ _ h => h) (Or.inl ⟨by rfl, ?_⟩) ?_
        rotate_left
        · (intro w; go_simp) <;> with_reducible rfl
        (try simp only [Act.put, List.setIfInBounds_toArray, List.set_cons_zero, List.set_cons_succ])
        refine wpAny_take (i := 2) (oi := { dst := some 43, op := _, type := _, pos := _, after := _, guard := _ }) (v := ?_) rfl (by kernel_rfl) (by kernel_rfl) (by kernel_rfl) (fun _ _ _ h => h) (Or.inl ⟨by rfl, ?_⟩) ?_
        rotate_left
        · (intro w; go_simp) <;> with_reducible rfl
        (try simp only [Act.put, List.setIfInBounds_toArray, List.set_cons_zero, List.set_cons_succ])
        refine wpAny_take (i := 3) (oi := { dst := some 44, op := _, type := _, pos := _, after := _, guard := _ }) (v := ?_) rfl (by kernel_rfl) (by kernel_rfl) (by kernel_rfl) (fun _ _ _ h => h) (Or.inl ⟨by rfl, ?_⟩) ?_
        rotate_left
        · (intro w; go_simp) <;> with_reducible rfl
        (try simp only [Act.put, List.setIfInBounds_toArray, List.set_cons_zero, List.set_cons_succ])
        refine wpAny_ready (rs := [1, 4]) (by kernel_rfl) (by simp) ?_
        refine AllReady.cons (o := _) rfl (fun K hK => ?_) (AllReady.cons (o := _) rfl (fun K hK => ?_) (AllReady.nil))
        · go_simp
          (try (refine hK _ _ ?_; clear hK K))
          (try simp only [Act.put, List.setIfInBounds_toArray, List.set_cons_zero, List.set_cons_succ])
          refine wpAny_ready (rs := [4]) (by kernel_rfl) (by simp) ?_
          refine AllReady.cons (o := _) rfl (fun K hK => ?_) (AllReady.nil)
          go_simp
          (try (refine hK _ _ ?_; clear hK K))
          (try simp only [Act.put, List.setIfInBounds_toArray, List.set_cons_zero, List.set_cons_succ])
          refine wpAny_ready (rs := [5]) (by kernel_rfl) (by simp) ?_
          refine AllReady.cons (o := _) rfl (fun K hK => ?_) (AllReady.nil)
          go_simp
          refine (cur_change HS.out (G.out _ HM.out.drew.2.2.2.1) hp HM.out.drew.2.1 (by omega) (by omega) (by omega)).mono ?_; rintro e w8 ⟨x8, rfl, gx8, zx8, hc8, hg8⟩
          have HM8 := Lib.hid (HM.out.drew.draw hg8 hc8)
          have HO8 := Lib.hid ((HO.out.up (below_drewN (Below.refl _ _) 1)).past hg8 (by omega))
          have d3 := HM8.out.1.cell 2
          simp only [List.getElem?_cons_zero, List.getElem?_cons_succ] at d3
          have d4 := (HM8.out.alloc (.cells #[.string x8] 9)).1.cell 2
          simp only [List.getElem?_cons_zero, List.getElem?_cons_succ] at d4
          try go_wp2_with fail
          (try (refine hK _ _ ?_; clear hK K))
          (try simp only [Act.put, List.setIfInBounds_toArray, List.set_cons_zero, List.set_cons_succ])
          refine wpAny_ready (rs := [6]) (by kernel_rfl) (by simp) ?_
          refine AllReady.cons (o := _) rfl (fun K hK => ?_) (AllReady.nil)
          go_simp
          (try (refine hK _ _ ?_; clear hK K))
          (try simp only [Act.put, List.setIfInBounds_toArray, List.set_cons_zero, List.set_cons_succ])
          refine wpAny_ready (rs := [7]) (by kernel_rfl) (by simp) ?_
          refine AllReady.cons (o := _) rfl (fun K hK => ?_) (AllReady.nil)
          refine step_append_rec Tryz.elStr (by rfl) _ _ (by rfl) (by rfl) (HO8.out.alloc _) x8 (by rfl) (Box.at_ _ [.string x8] _ (by rfl)) (strE_one _) (by omega) (by decide) (by have h1 := HM8.out.1.lt; have h2 := hg8.size; simp at h2 ⊢; omega) ?_
          intro A3 c3 w9 ho9 hg9 hb9
          have HM9 := Lib.hid ((HM8.out.alloc (.cells #[.string x8] 9)).app (HO8.out.alloc _) (by omega) hg9)
          have d5 := HM9.out.1.cell 2; have e5 := HM9.out.1.frozen 2
          simp only [List.getElem?_cons_zero, List.getElem?_cons_succ] at d5
          (try (refine hK _ _ ?_; clear hK K))
          (try simp only [Act.put, List.setIfInBounds_toArray, List.set_cons_zero, List.set_cons_succ])
          refine wpAny_ready (rs := [8]) (by kernel_rfl) (by simp) ?_
          refine AllReady.cons (o := _) rfl (fun K hK => ?_) (AllReady.nil)
          go_simp
          (try (refine hK _ _ ?_; clear hK K))
          (try simp only [Act.put, List.setIfInBounds_toArray, List.set_cons_zero, List.set_cons_succ])
          refine wpAny_ready (rs := [9]) (by kernel_rfl) (by simp) ?_
          refine AllReady.cons (o := _) rfl (fun K hK => ?_) (AllReady.nil)
          go_simp
          (try (refine hK _ _ ?_; clear hK K))
          (try simp only [Act.put, List.setIfInBounds_toArray, List.set_cons_zero, List.set_cons_succ])
          refine wpAny_done (by kernel_rfl) ?_ _
          (try simp only [Act.put, List.setIfInBounds_toArray, List.set_cons_zero, List.set_cons_succ])
          have HZ9 := Lib.hid (show ∀ y ∈ L ++ [x8], y.size ≤ 8 from fun y hy => (List.mem_append.1 hy).elim (fun q => HZ.out y q) (fun q => by rw [List.mem_singleton.1 q]; exact zx8))
          have HMF := Lib.hid (HM9.out.put (v' := .slice A3 (m + 1) c3))
          have HOF := Lib.hid (own_fld ho9 HM9.out.1 (only_set w9 (p := ⟨b, 2, none⟩) (.slice A3 (m + 1) c3)))
          have hmc := HMF.out.1.cell 2
          simp only [List.getElem?_cons_zero, List.getElem?_cons_succ] at hmc
          have HMC := Lib.hid hmc
          clear d2 d1 d3 d4 d5 e5 hmc
          go_wp2
          go_roundw
          case rel => exact ⟨m + 1, A3, c3, L ++ [x8], by omega, Lib.hid (HMF.out.mono (by omega)), HOF, HZ9⟩
          case measure => rw [HMC.out, HCL.out]; simp only [clen]; omega
        · go_simp
          (try (refine hK _ _ ?_; clear hK K))
          (try simp only [Act.put, List.setIfInBounds_toArray, List.set_cons_zero, List.set_cons_succ])
          refine wpAny_ready (rs := [1, 5]) (by kernel_rfl) (by simp) ?_
          refine AllReady.cons (o := _) rfl (fun K hK => ?_) (AllReady.cons (o := _) rfl (fun K hK => ?_) (AllReady.nil))
          · go_simp
            (try (refine hK _ _ ?_; clear hK K))
            (try simp only [Act.put, List.setIfInBounds_toArray, List.set_cons_zero, List.set_cons_succ])
            refine wpAny_ready (rs := [5]) (by kernel_rfl) (by simp) ?_
            refine AllReady.cons (o := _) rfl (fun K hK => ?_) (AllReady.nil)
            go_simp
            refine (cur_change HS.out (G.out _ HM.out.drew.2.2.2.1) hp HM.out.drew.2.1 (by omega) (by omega) (by omega)).mono ?_; rintro e w8 ⟨x8, rfl, gx8, zx8, hc8, hg8⟩
            have HM8 := Lib.hid (HM.out.drew.draw hg8 hc8)
            have HO8 := Lib.hid ((HO.out.up (below_drewN (Below.refl _ _) 1)).past hg8 (by omega))
            have d3 := HM8.out.1.cell 2
            simp only [List.getElem?_cons_zero, List.getElem?_cons_succ] at d3
            have d4 := (HM8.out.alloc (.cells #[.string x8] 9)).1.cell 2
            simp only [List.getElem?_cons_zero, List.getElem?_cons_succ] at d4
            try go_wp2_with fail
            (try (refine hK _ _ ?_; clear hK K))
            (try simp only [Act.put, List.setIfInBounds_toArray, List.set_cons_zero, List.set_cons_succ])
            refine wpAny_ready (rs := [6]) (by kernel_rfl) (by simp) ?_
            refine AllReady.cons (o := _) rfl (fun K hK => ?_) (AllReady.nil)
            go_simp
            (try (refine hK _ _ ?_; clear hK K))
            (try simp only [Act.put, List.setIfInBounds_toArray, List.set_cons_zero, List.set_cons_succ])
            refine wpAny_ready (rs := [7]) (by kernel_rfl) (by simp) ?_
            refine AllReady.cons (o := _) rfl (fun K hK => ?_) (AllReady.nil)
            refine step_append_rec Tryz.elStr (by rfl) _ _ (by rfl) (by rfl) (HO8.out.alloc _) x8 (by rfl) (Box.at_ _ [.string x8] _ (by rfl)) (strE_one _) (by omega) (by decide) (by have h1 := HM8.out.1.lt; have h2 := hg8.size; simp at h2 ⊢; omega) ?_
            intro A3 c3 w9 ho9 hg9 hb9
            have HM9 := Lib.hid ((HM8.out.alloc (.cells #[.string x8] 9)).app (HO8.out.alloc _) (by omega) hg9)
            have d5 := HM9.out.1.cell 2; have e5 := HM9.out.1.frozen 2
            simp only [List.getElem?_cons_zero, List.getElem?_cons_succ] at d5
            (try (refine hK _ _ ?_; clear hK K))
            (try simp only [Act.put, List.setIfInBounds_toArray, List.set_cons_zero, List.set_cons_succ])
            refine wpAny_ready (rs := [8]) (by kernel_rfl) (by simp) ?_
            refine AllReady.cons (o := _) rfl (fun K hK => ?_) (AllReady.nil)
            go_simp
            (try (refine hK _ _ ?_; clear hK K))
            (try simp only [Act.put, List.setIfInBounds_toArray, List.set_cons_zero, List.set_cons_succ])
            refine wpAny_ready (rs := [9]) (by kernel_rfl) (by simp) ?_
            refine AllReady.cons (o := _) rfl (fun K hK => ?_) (AllReady.nil)
            go_simp
            (try (refine hK _ _ ?_; clear hK K))
            (try simp only [Act.put, List.setIfInBounds_toArray, List.set_cons_zero, List.set_cons_succ])
            refine wpAny_done (by kernel_rfl) ?_ _
            (try simp only [Act.put, List.setIfInBounds_toArray, List.set_cons_zero, List.set_cons_succ])
            have HZ9 := Lib.hid (show ∀ y ∈ L ++ [x8], y.size ≤ 8 from fun y hy => (List.mem_append.1 hy).elim (fun q => HZ.out y q) (fun q => by rw [List.mem_singleton.1 q]; exact zx8))
            have HMF := Lib.hid (HM9.out.put (v' := .slice A3 (m + 1) c3))
            have HOF := Lib.hid (own_fld ho9 HM9.out.1 (only_set w9 (p := ⟨b, 2, none⟩) (.slice A3 (m + 1) c3)))
            have hmc := HMF.out.1.cell 2
            simp only [List.getElem?_cons_zero, List.getElem?_cons_succ] at hmc
            have HMC := Lib.hid hmc
            clear d2 d1 d3 d4 d5 e5 hmc
            go_wp2
            go_roundw
            case rel => exact ⟨m + 1, A3, c3, L ++ [x8], by omega, Lib.hid (HMF.out.mono (by omega)), HOF, HZ9⟩
            case measure => rw [HMC.out, HCL.out]; simp only [clen]; omega
          · go_simp
            refine (cur_change HS.out (G.out _ HM.out.drew.2.2.2.1) hp HM.out.drew.2.1 (by omega) (by omega) (by omega)).mono ?_; rintro e w8 ⟨x8, rfl, gx8, zx8, hc8, hg8⟩
            have HM8 := Lib.hid (HM.out.drew.draw hg8 hc8)
            have HO8 := Lib.hid ((HO.out.up (below_drewN (Below.refl _ _) 1)).past hg8 (by omega))
            have d3 := HM8.out.1.cell 2
            simp only [List.getElem?_cons_zero, List.getElem?_cons_succ] at d3
            have d4 := (HM8.out.alloc (.cells #[.string x8] 9)).1.cell 2
            simp only [List.getElem?_cons_zero, List.getElem?_cons_succ] at d4
            try go_wp2_with fail
            (try (refine hK _ _ ?_; clear hK K))
            (try simp only [Act.put, List.setIfInBounds_toArray, List.set_cons_zero, List.set_cons_succ])
            refine wpAny_ready (rs := [1, 6]) (by kernel_rfl) (by simp) ?_
            refine AllReady.cons (o := _) rfl (fun K hK => ?_) (AllReady.cons (o := _) rfl (fun K hK => ?_) (AllReady.nil))
            · go_simp
              (try (refine hK _ _ ?_; clear hK K))
              (try simp only [Act.put, List.setIfInBounds_toArray, List.set_cons_zero, List.set_cons_succ])
              refine wpAny_ready (rs := [6]) (by kernel_rfl) (by simp) ?_
              refine AllReady.cons (o := _) rfl (fun K hK => ?_) (AllReady.nil)
              go_simp
              (try (refine hK _ _ ?_; clear hK K))
              (try simp only [Act.put, List.setIfInBounds_toArray, List.set_cons_zero, List.set_cons_succ])
              refine wpAny_ready (rs := [7]) (by kernel_rfl) (by simp) ?_
              refine AllReady.cons (o := _) rfl (fun K hK => ?_) (AllReady.nil)
              refine step_append_rec Tryz.elStr (by rfl) _ _ (by rfl) (by rfl) (HO8.out.alloc _) x8 (by rfl) (Box.at_ _ [.string x8] _ (by rfl)) (strE_one _) (by omega) (by decide) (by have h1 := HM8.out.1.lt; have h2 := hg8.size; simp at h2 ⊢; omega) ?_
              intro A3 c3 w9 ho9 hg9 hb9
              have HM9 := Lib.hid ((HM8.out.alloc (.cells #[.string x8] 9)).app (HO8.out.alloc _) (by omega) hg9)
              have d5 := HM9.out.1.cell 2; have e5 := HM9.out.1.frozen 2
              simp only [List.getElem?_cons_zero, List.getElem?_cons_succ] at d5
              (try (refine hK _ _ ?_; clear hK K))
              (try simp only [Act.put, List.setIfInBounds_toArray, List.set_cons_zero, List.set_cons_succ])
              refine wpAny_ready (rs := [8]) (by kernel_rfl) (by simp) ?_
              refine AllReady.cons (o := _) rfl (fun K hK => ?_) (AllReady.nil)
              go_simp
              (try (refine hK _ _ ?_; clear hK K))
              (try simp only [Act.put, List.setIfInBounds_toArray, List.set_cons_zero, List.set_cons_succ])
              refine wpAny_ready (rs := [9]) (by kernel_rfl) (by simp) ?_
              refine AllReady.cons (o := _) rfl (fun K hK => ?_) (AllReady.nil)
              go_simp
              (try (refine hK _ _ ?_; clear hK K))
              (try simp only [Act.put, List.setIfInBounds_toArray, List.set_cons_zero, List.set_cons_succ])
              refine wpAny_done (by kernel_rfl) ?_ _
              (try simp only [Act.put, List.setIfInBounds_toArray, List.set_cons_zero, List.set_cons_succ])
              have HZ9 := Lib.hid (show ∀ y ∈ L ++ [x8], y.size ≤ 8 from fun y hy => (List.mem_append.1 hy).elim (fun q => HZ.out y q) (fun q => by rw [List.mem_singleton.1 q]; exact zx8))
              have HMF := Lib.hid (HM9.out.put (v' := .slice A3 (m + 1) c3))
              have HOF := Lib.hid (own_fld ho9 HM9.out.1 (only_set w9 (p := ⟨b, 2, none⟩) (.slice A3 (m + 1) c3)))
              have hmc := HMF.out.1.cell 2
              simp only [List.getElem?_cons_zero, List.getElem?_cons_succ] at hmc
              have HMC := Lib.hid hmc
              clear d2 d1 d3 d4 d5 e5 hmc
              go_wp2
              go_roundw
              case rel => exact ⟨m + 1, A3, c3, L ++ [x8], by omega, Lib.hid (HMF.out.mono (by omega)), HOF, HZ9⟩
              case measure => rw [HMC.out, HCL.out]; simp only [clen]; omega
            · go_simp
              (try (refine hK _ _ ?_; clear hK K))
              (try simp only [Act.put, List.setIfInBounds_toArray, List.set_cons_zero, List.set_cons_succ])
              refine wpAny_ready (rs := [1]) (by kernel_rfl) (by simp) ?_
              refine AllReady.cons (o := _) rfl (fun K hK => ?_) (AllReady.nil)
              go_simp
              (try (refine hK _ _ ?_; clear hK K))
              (try simp only [Act.put, List.setIfInBounds_toArray, List.set_cons_zero, List.set_cons_succ])
              refine wpAny_ready (rs := [7]) (by kernel_rfl) (by simp) ?_
              refine AllReady.cons (o := _) rfl (fun K hK => ?_) (AllReady.nil)
              refine step_append_rec Tryz.elStr (by rfl) _ _ (by rfl) (by rfl) (HO8.out.alloc _) x8 (by rfl) (Box.at_ _ [.string x8] _ (by rfl)) (strE_one _) (by omega) (by decide) (by have h1 := HM8.out.1.lt; have h2 := hg8.size; simp at h2 ⊢; omega) ?_
              intro A3 c3 w9 ho9 hg9 hb9
              have HM9 := Lib.hid ((HM8.out.alloc (.cells #[.string x8] 9)).app (HO8.out.alloc _) (by omega) hg9)
              have d5 := HM9.out.1.cell 2; have e5 := HM9.out.1.frozen 2
              simp only [List.getElem?_cons_zero, List.getElem?_cons_succ] at d5
              (try (refine hK _ _ ?_; clear hK K))
              (try simp only [Act.put, List.setIfInBounds_toArray, List.set_cons_zero, List.set_cons_succ])
              refine wpAny_ready (rs := [8]) (by kernel_rfl) (by simp) ?_
              refine AllReady.cons (o := _) rfl (fun K hK => ?_) (AllReady.nil)
              go_simp
              (try (refine hK _ _ ?_; clear hK K))
              (try simp only [Act.put, List.setIfInBounds_toArray, List.set_cons_zero, List.set_cons_succ])
              refine wpAny_ready (rs := [9]) (by kernel_rfl) (by simp) ?_
              refine AllReady.cons (o := _) rfl (fun K hK => ?_) (AllReady.nil)
              go_simp
              (try (refine hK _ _ ?_; clear hK K))
              (try simp only [Act.put, List.setIfInBounds_toArray, List.set_cons_zero, List.set_cons_succ])
              refine wpAny_done (by kernel_rfl) ?_ _
              (try simp only [Act.put, List.setIfInBounds_toArray, List.set_cons_zero, List.set_cons_succ])
              have HZ9 := Lib.hid (show ∀ y ∈ L ++ [x8], y.size ≤ 8 from fun y hy => (List.mem_append.1 hy).elim (fun q => HZ.out y q) (fun q => by rw [List.mem_singleton.1 q]; exact zx8))
              have HMF := Lib.hid (HM9.out.put (v' := .slice A3 (m + 1) c3))
              have HOF := Lib.hid (own_fld ho9 HM9.out.1 (only_set w9 (p := ⟨b, 2, none⟩) (.slice A3 (m + 1) c3)))
              have hmc := HMF.out.1.cell 2
              simp only [List.getElem?_cons_zero, List.getElem?_cons_succ] at hmc
              have HMC := Lib.hid hmc
              clear d2 d1 d3 d4 d5 e5 hmc
              go_wp2
              go_roundw
              case rel => exact ⟨m + 1, A3, c3, L ++ [x8], by omega, Lib.hid (HMF.out.mono (by omega)), HOF, HZ9⟩
              case measure => rw [HMC.out, HCL.out]; simp only [clen]; omega
      · have hI : ¬ (m : Int) < 40 + (Z : Int) := by omega
        go_upto_region 15 with fail
        obtain ⟨K1, K2, ⟨rx, ry, rz, K3⟩, K4, K5, K6⟩ := HM.out
        have kc0 := K1.cell 0; have kc1 := K1.cell 1; have kc2 := K1.cell 2
        have kd0 := K3.cell 0; have kd1 := K3.cell 1; have kd2 := K3.cell 2
        have kf0 := K3.frozen 0; have kf1 := K3.frozen 1; have kf2 := K3.frozen 2
        simp only [List.getElem?_cons_zero, List.getElem?_cons_succ] at kc0 kc1 kc2 kd0 kd1 kd2
        have Z := ((K3.set_ 0 (.string nm)).set_ 1 (.int .i64 (st : Int))).set_ 2 (.slice A2 (m) c2)
        have y0 := Z.cell 0; have y1 := Z.cell 1; have y2 := Z.cell 2
        simp only [List.set_cons_zero, List.set_cons_succ, List.getElem?_cons_zero, List.getElem?_cons_succ] at y0 y1 y2
        have HK := Lib.hid K2; have HGR := Lib.hid K4
        clear K1 K2 K3 K4 Z
        go_wp2_with fail
        refine bodyPost_ret (v := .agg #[.string nm, .int .i64 (st : Int), .slice A2 (m) c2]) (by simp [results, Tryz.results92, go_sem, y0, y1, y2]) rfl ?_
        have X := fin.out _ _ nm st _ _ _ _ HGR.out (HK.out.mono (by omega)) HO.out (by omega) (by omega) (by omega) (by omega) HZ.out (grownBy_trans (grownBy_trans (only_set _ (p := ⟨w.heap.size, 0, none⟩) (.string nm)) (only_set _ (p := ⟨w.heap.size, 1, none⟩) (.int .i64 (st : Int)))) (only_set _ (p := ⟨w.heap.size, 2, none⟩) (.slice A2 (m) c2)))
        first | exact X | (obtain ⟨z1, z2, z3, z4, z5, z6, z7, z8⟩ := X; exact ⟨z1, z2, z3, z4, z5, z7, z6, z8⟩)
  · have n0 : (x == 0) = false := by simp; omega
    have n1 : (x == 1) = false := by simp; omega
    have n2 : (x == 2) = false := by simp; omega
    have n3 : (x == 3) = false := by simp; omega
    have n4 : (x == 4) = false := by simp; omega
    have HM := HM4
    have HO := HO4
    have HZ := HZL
    have hOl := HO.out.len
    have hLz := hzL.out
    clear HM4 HO4
    obtain ⟨K1, K2, ⟨rx, ry, rz, K3⟩, K4, K5, K6⟩ := HM.out
    have kc0 := K1.cell 0; have kc1 := K1.cell 1; have kc2 := K1.cell 2
    have kd0 := K3.cell 0; have kd1 := K3.cell 1; have kd2 := K3.cell 2
    have kf0 := K3.frozen 0; have kf1 := K3.frozen 1; have kf2 := K3.frozen 2
    simp only [List.getElem?_cons_zero, List.getElem?_cons_succ] at kc0 kc1 kc2 kd0 kd1 kd2
    have Z := ((K3.set_ 0 (.string nm)).set_ 1 (.int .i64 (st : Int))).set_ 2 (.slice A2 (m) c2)
    have y0 := Z.cell 0; have y1 := Z.cell 1; have y2 := Z.cell 2
    simp only [List.set_cons_zero, List.set_cons_succ, List.getElem?_cons_zero, List.getElem?_cons_succ] at y0 y1 y2
    have HK := Lib.hid K2; have HGR := Lib.hid K4
    clear K1 K2 K3 K4 Z
    go_wp2_with fail
    refine bodyPost_ret (v := .agg #[.string nm, .int .i64 (st : Int), .slice A2 (m) c2]) (by simp [results, Tryz.results92, go_sem, y0, y1, y2]) rfl ?_
    have X := fin.out _ _ nm st _ _ _ _ HGR.out (HK.out.mono (by omega)) HO.out (by omega) (by omega) (by omega) (by omega) HZ.out (grownBy_trans (grownBy_trans (only_set _ (p := ⟨w.heap.size, 0, none⟩) (.string nm)) (only_set _ (p := ⟨w.heap.size, 1, none⟩) (.int .i64 (st : Int)))) (only_set _ (p := ⟨w.heap.size, 2, none⟩) (.slice A2 (m) c2)))
    first | exact X | (obtain ⟨z1, z2, z3, z4, z5, z6, z7, z8⟩ := X; exact ⟨z1, z2, z3, z4, z5, z7, z6, z8⟩)
end Go.Proofs.YtidolgonmimicaaGreat
/- The walks through the generators of touches and calls. -/
namespace Go.Proofs.YtidolgonmimicaaGreat
set_option linter.unusedVariables false
set_option linter.unusedSimpArgs false
open Go.ChangeShapes Go.WideShapes Go.ChangeAt Go.RowKit Go.Deep
theorem sets3_grown (u : World) (r : Nat) (a b c : Value) : u.grownBy (((u.setCell ⟨r, 0, none⟩ a).setCell ⟨r, 1, none⟩ b).setCell ⟨r, 2, none⟩ c) (some r) :=
  grownBy_trans (grownBy_trans (only_set _ (p := ⟨r, 0, none⟩) _) (only_set _ (p := ⟨r, 1, none⟩) _)) (only_set _ (p := ⟨r, 2, none⟩) _)
theorem sets2_grown (u : World) (r : Nat) (a b : Value) : u.grownBy ((u.setCell ⟨r, 0, none⟩ a).setCell ⟨r, 1, none⟩ b) (some r) :=
  grownBy_trans (only_set _ (p := ⟨r, 0, none⟩) _) (only_set _ (p := ⟨r, 1, none⟩) _)
end Go.Proofs.YtidolgonmimicaaGreat
/- Texts of calls. -/
namespace Go.Proofs.YtidolgonmimicaaGreat
set_option linter.unusedVariables false
set_option linter.unusedSimpArgs false
open Go.ChangeShapes Go.WideShapes Go.ChangeAt Go.RowKit Go.Deep
/-- A text of calls alone. -/
def calT (t : ByteArray) : Prop := ∀ z ∈ nums t, z = 112 ∨ z = 98 ∨ z = 115
theorem calT_app {a b : ByteArray} (h : calT a) (g : calT b) : calT (a ++ b) := fun z hz => by
  rw [nums_app] at hz
  exact (List.mem_append.1 hz).elim (h z) (g z)
theorem calT_at {t : ByteArray} (h : calT t) : ∀ k, k < t.size → callB t k = true := fun k hk => by
  have := h _ (List.mem_of_getElem? (nums_at hk))
  rw [callB]
  rcases this with e | e | e <;> rw [e] <;> rfl
theorem calT_of {t : ByteArray} (h : ∀ k, k < t.size → callB t k = true) : calT t := fun z hz => by
  obtain ⟨k, hk⟩ := List.getElem?_of_mem hz
  have hl := (List.getElem?_eq_some_iff.1 hk).1
  rw [nums_len] at hl
  rw [nums_at hl] at hk
  injection hk with hk
  have h1 := h k hl
  rw [callB] at h1
  simp only [Bool.or_eq_true, beq_iff_eq] at h1
  rw [← hk]
  exact h1
theorem goodT_of {t : ByteArray} (h : calT t) (h1 : 1 ≤ t.size) (h2 : t.size ≤ 60) : goodT t = true := by
  rw [goodT, Bool.and_eq_true, List.all_eq_true]
  exact ⟨fun k hk => calT_at h k (List.mem_range.1 hk), by rw [inB, decide_eq_true_iff]; omega⟩
theorem calT_good {t : ByteArray} (h : goodT t = true) : calT t := calT_of (goodT_t h).2.2
theorem calT_nil : calT ⟨#[]⟩ := fun z hz => by cases hz
theorem calT_b : calT ⟨#[98]⟩ := by
  intro z hz
  have : nums ⟨#[98]⟩ = [98] := by rfl
  rw [this] at hz; simp at hz; omega
theorem calT_p : calT ⟨#[112]⟩ := by
  intro z hz
  have : nums ⟨#[112]⟩ = [112] := by rfl
  rw [this] at hz; simp at hz; omega
theorem calT_s : calT ⟨#[115]⟩ := by
  intro z hz
  have : nums ⟨#[115]⟩ = [115] := by rfl
  rw [this] at hz; simp at hz; omega
end Go.Proofs.YtidolgonmimicaaGreat
/- The walks through the generators of calls and touches. -/
namespace Go.Proofs.YtidolgonmimicaaGreat
set_option linter.unusedVariables false
set_option linter.unusedSimpArgs false
open Go.ChangeShapes Go.WideShapes Go.ChangeAt Go.RowKit Go.Deep
/-- The state of calls that are being made in block b: the argument's block comes first, then the result's. -/
def CSt (w u : World) (p : Nat) (A : Option Addr) (n c a b : Nat) (kb ks : ByteArray) : Prop :=
  Blk u b 27 [.string kb, .string ks] ∧ Cur u p A n c a ∧ (∃ x y, Blk u (w.heap.size + 1) 27 [x, y]) ∧ w.grownBy u (some p) ∧ p < w.heap.size ∧ w.heap.size + 1 < b
section
variable {w u u' : World} {p n c a a' b : Nat} {A : Option Addr} {kb ks : ByteArray}
theorem CSt.mono (h : CSt w u p A n c a b kb ks) (ha : a ≤ a') : CSt w u p A n c a' b kb ks := ⟨h.1, h.2.1.mono ha, h.2.2⟩
theorem CSt.draw (h : CSt w u p A n c a b kb ks) (hg : u.grownBy u' (some p)) (hc : Cur u' p A n c a') : CSt w u' p A n c a' b kb ks := by
  obtain ⟨h1, _, ⟨x, y, h3⟩, h4, h5, h6⟩ := h
  exact ⟨h1.grown hg (fun e => by injection e with e; omega), hc, ⟨x, y, h3.grown hg (fun e => by injection e with e; omega)⟩, grownBy_trans h4 hg, h5, h6⟩
theorem CSt.up (h : CSt w u p A n c a b kb ks) (hb : Below u.heap.size u u') : CSt w u' p A n c a b kb ks := by
  obtain ⟨h1, h2, ⟨x, y, h3⟩, h4, h5, h6⟩ := h
  exact ⟨h1.up hb, h2.up hb, ⟨x, y, h3.up hb⟩, grownBy_trans h4 (grown_any hb _), h5, h6⟩
theorem CSt.put0 {x : ByteArray} (h : CSt w u p A n c a b kb ks) : CSt w (u.setCell ⟨b, 0, none⟩ (.string x)) p A n c a b x ks := by
  obtain ⟨h1, h2, ⟨q, y, h3⟩, h4, h5, h6⟩ := h
  have hg : u.grownBy (u.setCell ⟨b, 0, none⟩ (.string x)) (some b) := only_set u (p := ⟨b, 0, none⟩) (.string x)
  exact ⟨h1.set_ 0 (.string x), h2.grown hg (fun e => by injection e with e; omega), ⟨q, y, h3.grown hg (fun e => by injection e with e; omega)⟩, grow_own h4 hg (fun k e => by injection e with e; omega), h5, h6⟩
theorem CSt.put1 {x : ByteArray} (h : CSt w u p A n c a b kb ks) : CSt w (u.setCell ⟨b, 1, none⟩ (.string x)) p A n c a b kb x := by
  obtain ⟨h1, h2, ⟨q, y, h3⟩, h4, h5, h6⟩ := h
  have hg : u.grownBy (u.setCell ⟨b, 1, none⟩ (.string x)) (some b) := only_set u (p := ⟨b, 1, none⟩) (.string x)
  exact ⟨h1.set_ 1 (.string x), h2.grown hg (fun e => by injection e with e; omega), ⟨q, y, h3.grown hg (fun e => by injection e with e; omega)⟩, grow_own h4 hg (fun k e => by injection e with e; omega), h5, h6⟩
end
set_option maxHeartbeats 4000000 in
set_option maxRecDepth 100000 in
theorem cur_calls {A B : Option Addr} {n c a p st m d : Nat} {nm : ByteArray} {w0 w : World} (hS : Src w0 A n) (hb : Below w0.heap.size w0 w) (hp : w0.heap.size ≤ p) (hc : Cur w p A n c a) (ha : a ≤ 1000000) (h3 : 3 ≤ st) (h8 : st ≤ 8) :
    Calls Tryz.prog 195 #[.pointer (some ⟨p, 0, none⟩), .agg #[.string nm, .int .i64 st, .slice B m d]] w fun e w' => ∃ kb ks : ByteArray, e = .returned (.agg #[.string kb, .string ks]) ∧ kb.size ≤ 8 ∧ ks.size ≤ 8 ∧ Cur w' p A n c (a + 10) ∧ w.grownBy w' (some p) := by
  have hpw := hc.lt
  have R0 := Blk.at_ (w.alloc (.cells #[.string nm, .int .i64 (st : Int), .slice B m d] 25)) 27 [.string ⟨#[]⟩, .string ⟨#[]⟩] (b := w.heap.size + 1) (by simp)
  have b0 : Below w.heap.size w ((w.alloc (.cells #[.string nm, .int .i64 (st : Int), .slice B m d] 25)).alloc (.cells #[.string ⟨#[]⟩, .string ⟨#[]⟩] 27)) := by (repeat' (first | (with_reducible exact Below.refl _ _) | (with_reducible assumption) | (with_reducible refine below_drewN ?_ _) | (with_reducible refine Below.drew ?_) | (with_reducible refine below_alloc ?_ _) | (with_reducible refine Below.alloc ?_ ?_ _) | (with_reducible refine Below.setCell ?_ ?_ _) | (with_reducible refine below_go ?_ (by with_reducible assumption)) | (with_reducible refine below_then (by with_reducible assumption) ?_ ?_) | go_size))
  have G : Hid (∀ u : World, w.grownBy u (some p) → Below w0.heap.size w0 u) := Lib.hid (fun u hg => grown_below hb hp hg)
  have HS := Lib.hid hS
  clear hS hb
  go_in
  go_wp2_with fail
  obtain ⟨w1, hw1⟩ : ∃ u, u = ((w.alloc (.cells #[.string nm, .int .i64 (st : Int), .slice B m d] 25)).alloc (.cells #[.string ⟨#[]⟩, .string ⟨#[]⟩] 27)) := ⟨_, rfl⟩
  have z1 : w1.heap.size = w.heap.size + 2 := by rw [hw1]; simp
  rw [← hw1] at b0 R0 ⊢
  clear hw1
  refine (cur_change HS.out (G.out _ (grown_any b0 _)) hp (hc.up b0) (by omega) h8 h3).mono ?_; rintro e w2 ⟨x, rfl, _, zx, hc2, hg2⟩
  have g2 : w.grownBy w2 (some p) := grownBy_trans (grown_any b0 _) hg2
  have R2 := R0.grown hg2 (fun e => by injection e with e; omega)
  clear R0 hc b0
  go_wp2_with fail
  refine (cur_change HS.out (G.out _ g2) hp hc2 (by omega) h8 h3).mono ?_; rintro e w3 ⟨y, rfl, _, zy, hc3, hg3⟩
  have g3 := grownBy_trans g2 hg3
  have R3 := R2.grown hg3 (fun e => by injection e with e; omega)
  have s2 := hg2.size
  have s3 := hg3.size
  have K3 := Blk.at_ w3 27 [.string x, .string y] (b := w3.heap.size) rfl
  have a3 : Below w3.heap.size w3 (w3.alloc (.cells #[.string x, .string y] 27)) := by (repeat' (first | (with_reducible exact Below.refl _ _) | (with_reducible assumption) | (with_reducible refine below_drewN ?_ _) | (with_reducible refine Below.drew ?_) | (with_reducible refine below_alloc ?_ _) | (with_reducible refine Below.alloc ?_ ?_ _) | (with_reducible refine Below.setCell ?_ ?_ _) | (with_reducible refine below_go ?_ (by with_reducible assumption)) | (with_reducible refine below_then (by with_reducible assumption) ?_ ?_) | go_size))
  have HM3 := Lib.hid (show CSt w (w3.alloc (.cells #[.string x, .string y] 27)) p A n c (a + 2) w3.heap.size x y from ⟨K3, hc3.up a3, ⟨_, _, R3.up a3⟩, grownBy_trans g3 (grown_any a3 _), hpw, by omega⟩)
  clear R2 R3 hc2 hc3 hg2 hg3 K3 a3 g2 g3
  go_upto_region 3 with fail
  obtain ⟨w4, hw4⟩ : ∃ u, u = w3.alloc (.cells #[.string x, .string y] 27) := ⟨_, rfl⟩
  obtain ⟨b, hb⟩ : ∃ b, b = w3.heap.size := ⟨_, rfl⟩
  rw [← hw4] at HM3 ⊢
  rw [← hb] at HM3 ⊢
  clear hw4 hb s2 s3 z1
  have hst : st = 3 ∨ st = 4 ∨ st = 5 ∨ st = 6 ∨ st = 7 ∨ st = 8 := by omega
  clear h3 h8
  rcases hst with rfl | rfl | rfl | rfl | rfl | rfl
  · skip
    have HM := HM3
    clear HM3
    obtain ⟨K1, K2, ⟨rx, ry, K3⟩, K4, K5, K6⟩ := HM.out
    have kc0 := K1.cell 0; have kc1 := K1.cell 1
    have kd0 := K3.cell 0; have kd1 := K3.cell 1
    have kf0 := K3.frozen 0; have kf1 := K3.frozen 1
    simp only [List.getElem?_cons_zero, List.getElem?_cons_succ] at kc0 kc1 kd0 kd1
    have Z := (K3.set_ 0 (.string x)).set_ 1 (.string y)
    have y0 := Z.cell 0; have y1 := Z.cell 1
    simp only [List.set_cons_zero, List.set_cons_succ, List.getElem?_cons_zero, List.getElem?_cons_succ] at y0 y1
    have HK := Lib.hid K2; have HGR := Lib.hid K4
    clear K1 K2 K3 K4 Z
    go_wp2_with fail
    refine bodyPost_ret (v := .agg #[.string x, .string y]) (by simp [results, Tryz.results195, go_sem, y0, y1]) rfl ?_
    have hq := sets2_grown w4 (w.heap.size + 1) (.string x) (.string y)
    exact ⟨x, y, rfl, zx, zy, (HK.out.grown hq (fun e => by injection e with e; omega)).mono (by omega), grow_own HGR.out hq (fun k e => by injection e with e; omega)⟩
  · skip
    go_wp2_with fail
    refine (cur_one HS.out (G.out _ HM3.out.2.2.2.1) hp HM3.out.2.1 (by omega) (by decide) (by decide)).mono ?_; rintro e w5 ⟨b1, rfl, hc5, hg5⟩
    have HM5 := Lib.hid (HM3.out.draw hg5 hc5)
    clear hc5 hg5 HM3
    rcases b1
    · skip
      have g0 := HM5.out.1.cell 0; have g1 := HM5.out.1.cell 1; have e0 := HM5.out.1.frozen 0; have e1 := HM5.out.1.frozen 1
      simp only [List.getElem?_cons_zero, List.getElem?_cons_succ] at g0 g1
      have HM := Lib.hid ((((HM5.out.put0 (x := ⟨#[49, 52]⟩)).put1 (x := ⟨#[49, 50, 51, 52]⟩)).put1 (x := ⟨#[49, 50]⟩)).put0 (x := ⟨#[49, 52]⟩))
      clear HM5
      obtain ⟨K1, K2, ⟨rx, ry, K3⟩, K4, K5, K6⟩ := HM.out
      have kc0 := K1.cell 0; have kc1 := K1.cell 1
      have kd0 := K3.cell 0; have kd1 := K3.cell 1
      have kf0 := K3.frozen 0; have kf1 := K3.frozen 1
      simp only [List.getElem?_cons_zero, List.getElem?_cons_succ] at kc0 kc1 kd0 kd1
      have Z := (K3.set_ 0 (.string ⟨#[49, 52]⟩)).set_ 1 (.string ⟨#[49, 50]⟩)
      have y0 := Z.cell 0; have y1 := Z.cell 1
      simp only [List.set_cons_zero, List.set_cons_succ, List.getElem?_cons_zero, List.getElem?_cons_succ] at y0 y1
      have HK := Lib.hid K2; have HGR := Lib.hid K4
      clear K1 K2 K3 K4 Z
      go_wp2_with fail
      refine bodyPost_ret (v := .agg #[.string ⟨#[49, 52]⟩, .string ⟨#[49, 50]⟩]) (by simp [results, Tryz.results195, go_sem, y0, y1]) rfl ?_
      have hq := sets2_grown ((((w5.setCell ⟨b, 0, none⟩ (.string ⟨#[49, 52]⟩)).setCell ⟨b, 1, none⟩ (.string ⟨#[49, 50, 51, 52]⟩)).setCell ⟨b, 1, none⟩ (.string ⟨#[49, 50]⟩)).setCell ⟨b, 0, none⟩ (.string ⟨#[49, 52]⟩)) (w.heap.size + 1) (.string ⟨#[49, 52]⟩) (.string ⟨#[49, 50]⟩)
      exact ⟨⟨#[49, 52]⟩, ⟨#[49, 50]⟩, rfl, by decide, by decide, (HK.out.grown hq (fun e => by injection e with e; omega)).mono (by omega), grow_own HGR.out hq (fun k e => by injection e with e; omega)⟩
    · skip
      have HM := HM5
      clear HM5
      obtain ⟨K1, K2, ⟨rx, ry, K3⟩, K4, K5, K6⟩ := HM.out
      have kc0 := K1.cell 0; have kc1 := K1.cell 1
      have kd0 := K3.cell 0; have kd1 := K3.cell 1
      have kf0 := K3.frozen 0; have kf1 := K3.frozen 1
      simp only [List.getElem?_cons_zero, List.getElem?_cons_succ] at kc0 kc1 kd0 kd1
      have Z := (K3.set_ 0 (.string x)).set_ 1 (.string y)
      have y0 := Z.cell 0; have y1 := Z.cell 1
      simp only [List.set_cons_zero, List.set_cons_succ, List.getElem?_cons_zero, List.getElem?_cons_succ] at y0 y1
      have HK := Lib.hid K2; have HGR := Lib.hid K4
      clear K1 K2 K3 K4 Z
      go_wp2_with fail
      refine bodyPost_ret (v := .agg #[.string x, .string y]) (by simp [results, Tryz.results195, go_sem, y0, y1]) rfl ?_
      have hq := sets2_grown w5 (w.heap.size + 1) (.string x) (.string y)
      exact ⟨x, y, rfl, zx, zy, (HK.out.grown hq (fun e => by injection e with e; omega)).mono (by omega), grow_own HGR.out hq (fun k e => by injection e with e; omega)⟩
  · skip
    go_wp2_with fail
    refine (cur_one HS.out (G.out _ HM3.out.2.2.2.1) hp HM3.out.2.1 (by omega) (by decide) (by decide)).mono ?_; rintro e w5 ⟨b1, rfl, hc5, hg5⟩
    have HM5 := Lib.hid (HM3.out.draw hg5 hc5)
    clear hc5 hg5 HM3
    rcases b1
    · skip
      have g0 := HM5.out.1.cell 0; have g1 := HM5.out.1.cell 1; have e0 := HM5.out.1.frozen 0; have e1 := HM5.out.1.frozen 1
      simp only [List.getElem?_cons_zero, List.getElem?_cons_succ] at g0 g1
      have HM := Lib.hid ((HM5.out.put0 (x := ⟨#[49, 52, 53]⟩)).put1 (x := ⟨#[49, 50, 51]⟩))
      clear HM5
      obtain ⟨K1, K2, ⟨rx, ry, K3⟩, K4, K5, K6⟩ := HM.out
      have kc0 := K1.cell 0; have kc1 := K1.cell 1
      have kd0 := K3.cell 0; have kd1 := K3.cell 1
      have kf0 := K3.frozen 0; have kf1 := K3.frozen 1
      simp only [List.getElem?_cons_zero, List.getElem?_cons_succ] at kc0 kc1 kd0 kd1
      have Z := (K3.set_ 0 (.string ⟨#[49, 52, 53]⟩)).set_ 1 (.string ⟨#[49, 50, 51]⟩)
      have y0 := Z.cell 0; have y1 := Z.cell 1
      simp only [List.set_cons_zero, List.set_cons_succ, List.getElem?_cons_zero, List.getElem?_cons_succ] at y0 y1
      have HK := Lib.hid K2; have HGR := Lib.hid K4
      clear K1 K2 K3 K4 Z
      go_wp2_with fail
      refine bodyPost_ret (v := .agg #[.string ⟨#[49, 52, 53]⟩, .string ⟨#[49, 50, 51]⟩]) (by simp [results, Tryz.results195, go_sem, y0, y1]) rfl ?_
      have hq := sets2_grown ((w5.setCell ⟨b, 0, none⟩ (.string ⟨#[49, 52, 53]⟩)).setCell ⟨b, 1, none⟩ (.string ⟨#[49, 50, 51]⟩)) (w.heap.size + 1) (.string ⟨#[49, 52, 53]⟩) (.string ⟨#[49, 50, 51]⟩)
      exact ⟨⟨#[49, 52, 53]⟩, ⟨#[49, 50, 51]⟩, rfl, by decide, by decide, (HK.out.grown hq (fun e => by injection e with e; omega)).mono (by omega), grow_own HGR.out hq (fun k e => by injection e with e; omega)⟩
    · skip
      have HM := HM5
      clear HM5
      obtain ⟨K1, K2, ⟨rx, ry, K3⟩, K4, K5, K6⟩ := HM.out
      have kc0 := K1.cell 0; have kc1 := K1.cell 1
      have kd0 := K3.cell 0; have kd1 := K3.cell 1
      have kf0 := K3.frozen 0; have kf1 := K3.frozen 1
      simp only [List.getElem?_cons_zero, List.getElem?_cons_succ] at kc0 kc1 kd0 kd1
      have Z := (K3.set_ 0 (.string x)).set_ 1 (.string y)
      have y0 := Z.cell 0; have y1 := Z.cell 1
      simp only [List.set_cons_zero, List.set_cons_succ, List.getElem?_cons_zero, List.getElem?_cons_succ] at y0 y1
      have HK := Lib.hid K2; have HGR := Lib.hid K4
      clear K1 K2 K3 K4 Z
      go_wp2_with fail
      refine bodyPost_ret (v := .agg #[.string x, .string y]) (by simp [results, Tryz.results195, go_sem, y0, y1]) rfl ?_
      have hq := sets2_grown w5 (w.heap.size + 1) (.string x) (.string y)
      exact ⟨x, y, rfl, zx, zy, (HK.out.grown hq (fun e => by injection e with e; omega)).mono (by omega), grow_own HGR.out hq (fun k e => by injection e with e; omega)⟩
  · skip
    go_wp2_with fail
    refine (cur_one HS.out (G.out _ HM3.out.2.2.2.1) hp HM3.out.2.1 (by omega) (by decide) (by decide)).mono ?_; rintro e w5 ⟨b1, rfl, hc5, hg5⟩
    have HM5 := Lib.hid (HM3.out.draw hg5 hc5)
    clear hc5 hg5 HM3
    rcases b1
    · skip
      have g0 := HM5.out.1.cell 0; have g1 := HM5.out.1.cell 1; have e0 := HM5.out.1.frozen 0; have e1 := HM5.out.1.frozen 1
      simp only [List.getElem?_cons_zero, List.getElem?_cons_succ] at g0 g1
      have HM := Lib.hid ((HM5.out.put0 (x := ⟨#[49, 52]⟩)).put1 (x := ⟨#[49, 50, 51, 52]⟩))
      clear HM5
      obtain ⟨K1, K2, ⟨rx, ry, K3⟩, K4, K5, K6⟩ := HM.out
      have kc0 := K1.cell 0; have kc1 := K1.cell 1
      have kd0 := K3.cell 0; have kd1 := K3.cell 1
      have kf0 := K3.frozen 0; have kf1 := K3.frozen 1
      simp only [List.getElem?_cons_zero, List.getElem?_cons_succ] at kc0 kc1 kd0 kd1
      have Z := (K3.set_ 0 (.string ⟨#[49, 52]⟩)).set_ 1 (.string ⟨#[49, 50, 51, 52]⟩)
      have y0 := Z.cell 0; have y1 := Z.cell 1
      simp only [List.set_cons_zero, List.set_cons_succ, List.getElem?_cons_zero, List.getElem?_cons_succ] at y0 y1
      have HK := Lib.hid K2; have HGR := Lib.hid K4
      clear K1 K2 K3 K4 Z
      go_wp2_with fail
      refine bodyPost_ret (v := .agg #[.string ⟨#[49, 52]⟩, .string ⟨#[49, 50, 51, 52]⟩]) (by simp [results, Tryz.results195, go_sem, y0, y1]) rfl ?_
      have hq := sets2_grown ((w5.setCell ⟨b, 0, none⟩ (.string ⟨#[49, 52]⟩)).setCell ⟨b, 1, none⟩ (.string ⟨#[49, 50, 51, 52]⟩)) (w.heap.size + 1) (.string ⟨#[49, 52]⟩) (.string ⟨#[49, 50, 51, 52]⟩)
      exact ⟨⟨#[49, 52]⟩, ⟨#[49, 50, 51, 52]⟩, rfl, by decide, by decide, (HK.out.grown hq (fun e => by injection e with e; omega)).mono (by omega), grow_own HGR.out hq (fun k e => by injection e with e; omega)⟩
    · skip
      have HM := HM5
      clear HM5
      obtain ⟨K1, K2, ⟨rx, ry, K3⟩, K4, K5, K6⟩ := HM.out
      have kc0 := K1.cell 0; have kc1 := K1.cell 1
      have kd0 := K3.cell 0; have kd1 := K3.cell 1
      have kf0 := K3.frozen 0; have kf1 := K3.frozen 1
      simp only [List.getElem?_cons_zero, List.getElem?_cons_succ] at kc0 kc1 kd0 kd1
      have Z := (K3.set_ 0 (.string x)).set_ 1 (.string y)
      have y0 := Z.cell 0; have y1 := Z.cell 1
      simp only [List.set_cons_zero, List.set_cons_succ, List.getElem?_cons_zero, List.getElem?_cons_succ] at y0 y1
      have HK := Lib.hid K2; have HGR := Lib.hid K4
      clear K1 K2 K3 K4 Z
      go_wp2_with fail
      refine bodyPost_ret (v := .agg #[.string x, .string y]) (by simp [results, Tryz.results195, go_sem, y0, y1]) rfl ?_
      have hq := sets2_grown w5 (w.heap.size + 1) (.string x) (.string y)
      exact ⟨x, y, rfl, zx, zy, (HK.out.grown hq (fun e => by injection e with e; omega)).mono (by omega), grow_own HGR.out hq (fun k e => by injection e with e; omega)⟩
  · skip
    have HM := HM3
    clear HM3
    obtain ⟨K1, K2, ⟨rx, ry, K3⟩, K4, K5, K6⟩ := HM.out
    have kc0 := K1.cell 0; have kc1 := K1.cell 1
    have kd0 := K3.cell 0; have kd1 := K3.cell 1
    have kf0 := K3.frozen 0; have kf1 := K3.frozen 1
    simp only [List.getElem?_cons_zero, List.getElem?_cons_succ] at kc0 kc1 kd0 kd1
    have Z := (K3.set_ 0 (.string x)).set_ 1 (.string y)
    have y0 := Z.cell 0; have y1 := Z.cell 1
    simp only [List.set_cons_zero, List.set_cons_succ, List.getElem?_cons_zero, List.getElem?_cons_succ] at y0 y1
    have HK := Lib.hid K2; have HGR := Lib.hid K4
    clear K1 K2 K3 K4 Z
    go_wp2_with fail
    refine bodyPost_ret (v := .agg #[.string x, .string y]) (by simp [results, Tryz.results195, go_sem, y0, y1]) rfl ?_
    have hq := sets2_grown w4 (w.heap.size + 1) (.string x) (.string y)
    exact ⟨x, y, rfl, zx, zy, (HK.out.grown hq (fun e => by injection e with e; omega)).mono (by omega), grow_own HGR.out hq (fun k e => by injection e with e; omega)⟩
  · skip
    go_wp2_with fail
    refine (cur_one HS.out (G.out _ HM3.out.2.2.2.1) hp HM3.out.2.1 (by omega) (by decide) (by decide)).mono ?_; rintro e w5 ⟨b1, rfl, hc5, hg5⟩
    have HM5 := Lib.hid (HM3.out.draw hg5 hc5)
    clear hc5 hg5 HM3
    rcases b1
    · skip
      have g0 := HM5.out.1.cell 0; have g1 := HM5.out.1.cell 1; have e0 := HM5.out.1.frozen 0; have e1 := HM5.out.1.frozen 1
      simp only [List.getElem?_cons_zero, List.getElem?_cons_succ] at g0 g1
      have HM := Lib.hid ((HM5.out.put0 (x := ⟨#[49, 52]⟩)).put1 (x := ⟨#[49, 50, 51, 52]⟩))
      clear HM5
      obtain ⟨K1, K2, ⟨rx, ry, K3⟩, K4, K5, K6⟩ := HM.out
      have kc0 := K1.cell 0; have kc1 := K1.cell 1
      have kd0 := K3.cell 0; have kd1 := K3.cell 1
      have kf0 := K3.frozen 0; have kf1 := K3.frozen 1
      simp only [List.getElem?_cons_zero, List.getElem?_cons_succ] at kc0 kc1 kd0 kd1
      have Z := (K3.set_ 0 (.string ⟨#[49, 52]⟩)).set_ 1 (.string ⟨#[49, 50, 51, 52]⟩)
      have y0 := Z.cell 0; have y1 := Z.cell 1
      simp only [List.set_cons_zero, List.set_cons_succ, List.getElem?_cons_zero, List.getElem?_cons_succ] at y0 y1
      have HK := Lib.hid K2; have HGR := Lib.hid K4
      clear K1 K2 K3 K4 Z
      go_wp2_with fail
      refine bodyPost_ret (v := .agg #[.string ⟨#[49, 52]⟩, .string ⟨#[49, 50, 51, 52]⟩]) (by simp [results, Tryz.results195, go_sem, y0, y1]) rfl ?_
      have hq := sets2_grown ((w5.setCell ⟨b, 0, none⟩ (.string ⟨#[49, 52]⟩)).setCell ⟨b, 1, none⟩ (.string ⟨#[49, 50, 51, 52]⟩)) (w.heap.size + 1) (.string ⟨#[49, 52]⟩) (.string ⟨#[49, 50, 51, 52]⟩)
      exact ⟨⟨#[49, 52]⟩, ⟨#[49, 50, 51, 52]⟩, rfl, by decide, by decide, (HK.out.grown hq (fun e => by injection e with e; omega)).mono (by omega), grow_own HGR.out hq (fun k e => by injection e with e; omega)⟩
    · skip
      have HM := HM5
      clear HM5
      obtain ⟨K1, K2, ⟨rx, ry, K3⟩, K4, K5, K6⟩ := HM.out
      have kc0 := K1.cell 0; have kc1 := K1.cell 1
      have kd0 := K3.cell 0; have kd1 := K3.cell 1
      have kf0 := K3.frozen 0; have kf1 := K3.frozen 1
      simp only [List.getElem?_cons_zero, List.getElem?_cons_succ] at kc0 kc1 kd0 kd1
      have Z := (K3.set_ 0 (.string x)).set_ 1 (.string y)
      have y0 := Z.cell 0; have y1 := Z.cell 1
      simp only [List.set_cons_zero, List.set_cons_succ, List.getElem?_cons_zero, List.getElem?_cons_succ] at y0 y1
      have HK := Lib.hid K2; have HGR := Lib.hid K4
      clear K1 K2 K3 K4 Z
      go_wp2_with fail
      refine bodyPost_ret (v := .agg #[.string x, .string y]) (by simp [results, Tryz.results195, go_sem, y0, y1]) rfl ?_
      have hq := sets2_grown w5 (w.heap.size + 1) (.string x) (.string y)
      exact ⟨x, y, rfl, zx, zy, (HK.out.grown hq (fun e => by injection e with e; omega)).mono (by omega), grow_own HGR.out hq (fun k e => by injection e with e; omega)⟩
set_option maxHeartbeats 4000000 in
set_option maxRecDepth 100000 in
theorem cur_anyCalls {A B : Option Addr} {n c a p st m d : Nat} {nm : ByteArray} {L : List ByteArray} {w0 w : World} (hS : Src w0 A n) (hb : Below w0.heap.size w0 w) (hp : w0.heap.size ≤ p) (hc : Cur w p A n c a) (ha : a ≤ 900000) (hn : L.length = m) (h : Strs w B L) (hz : m ≤ 1048576) (hs : ∀ s ∈ L, s.size ≤ 16777216) (hnm : nm.size ≤ 16777216) (hst : I64 (st : Int)) :
    Calls Tryz.prog 116 #[.pointer (some ⟨p, 0, none⟩), .agg #[.string nm, .int .i64 st, .slice B m d]] w fun e w' => ∃ kb ks : ByteArray, e = .returned (.agg #[.string kb, .string ks]) ∧ kb.size ≤ 8 ∧ ks.size ≤ 8 ∧ Cur w' p A n c (a + 20) ∧ w.grownBy w' (some p) := by
  have hpw := hc.lt
  have N0 := (Blk.at_ w 25 [.string nm, .int .i64 (st : Int), .slice B m d] (b := w.heap.size) rfl).alloc (.cells #[.string ⟨#[]⟩, .string ⟨#[]⟩] 27)
  have R0 := Blk.at_ (w.alloc (.cells #[.string nm, .int .i64 (st : Int), .slice B m d] 25)) 27 [.string ⟨#[]⟩, .string ⟨#[]⟩] (b := w.heap.size + 1) (by simp)
  have b0 : Below w.heap.size w ((w.alloc (.cells #[.string nm, .int .i64 (st : Int), .slice B m d] 25)).alloc (.cells #[.string ⟨#[]⟩, .string ⟨#[]⟩] 27)) := by (repeat' (first | (with_reducible exact Below.refl _ _) | (with_reducible assumption) | (with_reducible refine below_drewN ?_ _) | (with_reducible refine Below.drew ?_) | (with_reducible refine below_alloc ?_ _) | (with_reducible refine Below.alloc ?_ ?_ _) | (with_reducible refine Below.setCell ?_ ?_ _) | (with_reducible refine below_go ?_ (by with_reducible assumption)) | (with_reducible refine below_then (by with_reducible assumption) ?_ ?_) | go_size))
  have G : Hid (∀ u : World, w.grownBy u (some p) → Below w0.heap.size w0 u) := Lib.hid (fun u hg => grown_below hb hp hg)
  have HS := Lib.hid hS
  have H0 := h.up b0
  clear hS hb
  go_in
  go_wp2_with fail
  obtain ⟨w1, hw1⟩ : ∃ u, u = ((w.alloc (.cells #[.string nm, .int .i64 (st : Int), .slice B m d] 25)).alloc (.cells #[.string ⟨#[]⟩, .string ⟨#[]⟩] 27)) := ⟨_, rfl⟩
  have z1 : w1.heap.size = w.heap.size + 2 := by rw [hw1]; simp
  rw [← hw1] at b0 R0 N0 H0 ⊢
  clear hw1
  refine (spec_l4Good hn H0 hz hs hnm hst).mono ?_; rintro e w2 ⟨rfl, hb2⟩
  have g2 : w.grownBy w2 (some p) := grownBy_trans (grown_any b0 _) (grown_any hb2 _)
  have R2 := R0.up hb2
  have N2 := N0.up hb2
  have C2 := (hc.up b0).up hb2
  have s2 := hb2.size
  clear R0 N0 hc H0 h b0 hb2
  rcases hg : goodM nm (st : Int) L
  · have kd0 := R2.cell 0; have kd1 := R2.cell 1
    have kf0 := R2.frozen 0; have kf1 := R2.frozen 1
    simp only [List.getElem?_cons_zero, List.getElem?_cons_succ] at kd0 kd1
    have Z := (R2.set_ 0 (.string ⟨#[49, 52]⟩)).set_ 1 (.string ⟨#[49, 50, 51, 52]⟩)
    have y0 := Z.cell 0; have y1 := Z.cell 1
    simp only [List.set_cons_zero, List.set_cons_succ, List.getElem?_cons_zero, List.getElem?_cons_succ] at y0 y1
    go_wp2_with fail
    refine bodyPost_ret (v := .agg #[.string ⟨#[49, 52]⟩, .string ⟨#[49, 50, 51, 52]⟩]) (by simp [results, Tryz.results116, go_sem, y0, y1]) rfl ?_
    have hq := sets2_grown w2 (w.heap.size + 1) (.string ⟨#[49, 52]⟩) (.string ⟨#[49, 50, 51, 52]⟩)
    exact ⟨_, _, rfl, by decide, by decide, (C2.grown hq (fun e => by injection e with e; omega)).mono (by omega), grow_own g2 hq (fun k e => by injection e with e; omega)⟩
  · have h38 : 3 ≤ st ∧ st ≤ 8 := by have := goodM_t hg; omega
    have n0 := N2.cell 0; have n1 := N2.cell 1; have n2 := N2.cell 2
    simp only [List.getElem?_cons_zero, List.getElem?_cons_succ] at n0 n1 n2
    go_wp2_with fail
    refine (cur_calls HS.out (G.out _ g2) hp C2 (by omega) h38.1 h38.2).mono ?_; rintro e w3 ⟨x, y, rfl, zx, zy, hc3, hg3⟩
    have g3 := grownBy_trans g2 hg3
    have R3 := R2.grown hg3 (fun e => by injection e with e; omega)
    have s3 := hg3.size
    have K3 := Blk.at_ w3 27 [.string x, .string y] (b := w3.heap.size) rfl
    have a3 : Below w3.heap.size w3 (w3.alloc (.cells #[.string x, .string y] 27)) := by (repeat' (first | (with_reducible exact Below.refl _ _) | (with_reducible assumption) | (with_reducible refine below_drewN ?_ _) | (with_reducible refine Below.drew ?_) | (with_reducible refine below_alloc ?_ _) | (with_reducible refine Below.alloc ?_ ?_ _) | (with_reducible refine Below.setCell ?_ ?_ _) | (with_reducible refine below_go ?_ (by with_reducible assumption)) | (with_reducible refine below_then (by with_reducible assumption) ?_ ?_) | go_size))
    have HM3 := Lib.hid (show CSt w (w3.alloc (.cells #[.string x, .string y] 27)) p A n c (a + 10) w3.heap.size x y from ⟨K3, hc3.up a3, ⟨_, _, R3.up a3⟩, grownBy_trans g3 (grown_any a3 _), hpw, by omega⟩)
    clear R2 R3 hc3 hg3 K3 a3 g2 g3 C2 N2 n0 n1 n2
    go_upto_region 4 with fail
    obtain ⟨w4, hw4⟩ : ∃ u, u = w3.alloc (.cells #[.string x, .string y] 27) := ⟨_, rfl⟩
    obtain ⟨b, hb⟩ : ∃ b, b = w3.heap.size := ⟨_, rfl⟩
    rw [← hw4] at HM3 ⊢
    rw [← hb] at HM3 ⊢
    clear hw4 hb
    go_wp2_with fail
    refine (cur_one HS.out (G.out _ HM3.out.2.2.2.1) hp HM3.out.2.1 (by omega) (by decide) (by decide)).mono ?_; rintro e w5 ⟨b1, rfl, hc5, hg5⟩
    have HM5 := Lib.hid (HM3.out.draw hg5 hc5)
    clear hc5 hg5 HM3
    rcases b1
    · skip
      have HM := HM5
      clear HM5
      obtain ⟨K1, K2, ⟨rx, ry, K3⟩, K4, K5, K6⟩ := HM.out
      have kc0 := K1.cell 0; have kc1 := K1.cell 1
      have kd0 := K3.cell 0; have kd1 := K3.cell 1
      have kf0 := K3.frozen 0; have kf1 := K3.frozen 1
      simp only [List.getElem?_cons_zero, List.getElem?_cons_succ] at kc0 kc1 kd0 kd1
      have Z := (K3.set_ 0 (.string x)).set_ 1 (.string y)
      have y0 := Z.cell 0; have y1 := Z.cell 1
      simp only [List.set_cons_zero, List.set_cons_succ, List.getElem?_cons_zero, List.getElem?_cons_succ] at y0 y1
      have HK := Lib.hid K2; have HGR := Lib.hid K4
      clear K1 K2 K3 K4 Z
      go_wp2_with fail
      refine bodyPost_ret (v := .agg #[.string x, .string y]) (by simp [results, Tryz.results116, go_sem, y0, y1]) rfl ?_
      have hq := sets2_grown w5 (w.heap.size + 1) (.string x) (.string y)
      exact ⟨x, y, rfl, zx, zy, (HK.out.grown hq (fun e => by injection e with e; omega)).mono (by omega), grow_own HGR.out hq (fun k e => by injection e with e; omega)⟩
    · go_wp2_with fail
      have hl := lit_strs2 w5 9 [⟨#[]⟩, ⟨#[120]⟩, ⟨#[49]⟩, ⟨#[49, 51]⟩, ⟨#[57, 57]⟩]
      have a5 : ∀ o : Obj, Below w5.heap.size w5 (w5.alloc o) := fun o => (Below.refl _ _).alloc (Nat.le_refl _) o
      have hs5 := HM5.out.1.lt
      have HM6 := Lib.hid (HM5.out.up (a5 (.cells #[.string ⟨#[]⟩, .string ⟨#[120]⟩, .string ⟨#[49]⟩, .string ⟨#[49, 51]⟩, .string ⟨#[57, 57]⟩] 9)))
      refine (cur_of HS.out (G.out _ HM6.out.2.2.2.1) hp HM6.out.2.1 (by omega) rfl hl (by decide) (by decide) (fun b o e => by injection e with e; injection e with e; have := HM6.out.2.2.2.2; omega)).mono ?_; rintro e w7 ⟨z, hz, rfl, hc7, hg7⟩
      have HM7 := Lib.hid (HM6.out.draw hg7 hc7)
      have zz : z.size ≤ 8 := by
        simp only [List.mem_cons, List.not_mem_nil, or_false] at hz
        rcases hz with rfl | rfl | rfl | rfl | rfl <;> decide
      clear hc7 hg7 hz hl a5 HM5 HM6
      have g0 := HM7.out.1.cell 0; have e0 := HM7.out.1.frozen 0
      simp only [List.getElem?_cons_zero, List.getElem?_cons_succ] at g0
      have HM := Lib.hid (HM7.out.put0 (x := z))
      clear HM7
      obtain ⟨K1, K2, ⟨rx, ry, K3⟩, K4, K5, K6⟩ := HM.out
      have kc0 := K1.cell 0; have kc1 := K1.cell 1
      have kd0 := K3.cell 0; have kd1 := K3.cell 1
      have kf0 := K3.frozen 0; have kf1 := K3.frozen 1
      simp only [List.getElem?_cons_zero, List.getElem?_cons_succ] at kc0 kc1 kd0 kd1
      have Z := (K3.set_ 0 (.string z)).set_ 1 (.string y)
      have y0 := Z.cell 0; have y1 := Z.cell 1
      simp only [List.set_cons_zero, List.set_cons_succ, List.getElem?_cons_zero, List.getElem?_cons_succ] at y0 y1
      have HK := Lib.hid K2; have HGR := Lib.hid K4
      clear K1 K2 K3 K4 Z
      go_wp2_with fail
      refine bodyPost_ret (v := .agg #[.string z, .string y]) (by simp [results, Tryz.results116, go_sem, y0, y1]) rfl ?_
      have hq := sets2_grown (w7.setCell ⟨b, 0, none⟩ (.string z)) (w.heap.size + 1) (.string z) (.string y)
      exact ⟨z, y, rfl, zz, zy, (HK.out.grown hq (fun e => by injection e with e; omega)).mono (by omega), grow_own HGR.out hq (fun k e => by injection e with e; omega)⟩
theorem five_cal : ∀ x ∈ [(⟨#[112]⟩ : ByteArray), ⟨#[112]⟩, ⟨#[98]⟩, ⟨#[115]⟩, ⟨#[98]⟩], calT x ∧ x.size = 1 := by
  intro x hx
  simp only [List.mem_cons, List.not_mem_nil, or_false] at hx
  rcases hx with rfl | rfl | rfl | rfl | rfl
  · exact ⟨calT_p, rfl⟩
  · exact ⟨calT_p, rfl⟩
  · exact ⟨calT_b, rfl⟩
  · exact ⟨calT_s, rfl⟩
  · exact ⟨calT_b, rfl⟩
set_option maxHeartbeats 2000000 in
set_option maxRecDepth 100000 in
theorem cur_touch {A : Option Addr} {n c a p M : Nat} {w0 w : World} (hS : Src w0 A n) (hb : Below w0.heap.size w0 w) (hp : w0.heap.size ≤ p) (hc : Cur w p A n c a) (ha : a ≤ 1000000) (hM : M ≤ 20) (hM1 : 1 ≤ M) :
    Calls Tryz.prog 119 #[.pointer (some ⟨p, 0, none⟩), .int .i64 M] w fun e w' => ∃ t : ByteArray, e = .returned (.string t) ∧ calT t ∧ 1 ≤ t.size ∧ t.size ≤ 2 * M ∧ Cur w' p A n c (a + 30) ∧ w.grownBy w' (some p) := by
  have G : Hid (∀ u : World, w.grownBy u (some p) → Below w0.heap.size w0 u) := Lib.hid (fun u hg => grown_below hb hp hg)
  have HS := Lib.hid hS
  have HF := Lib.hid five_cal
  have hpw := hc.lt
  go_in
  go_wp2_with fail
  refine (cur_pick hS hb hp hc (by omega) (by omega) (by omega)).mono ?_; rintro e w1 ⟨x, rfl, ⟨x0, x1⟩, hc1, hg1⟩
  obtain ⟨X, rfl⟩ := Int.eq_ofNat_of_zero_le x0
  have hX : X + 1 ≤ M := by omega
  have HG1 := Lib.hid hg1
  have HC1 := Lib.hid hc1
  clear x0 x1 hb hc hS hc1 hg1
  go_wp2
  go_loopw [5, 6] (fun v i wr => ∃ (k : Nat) (t : ByteArray), k ≤ X + 1 ∧ i = .int .i64 k ∧ v = .string t ∧ t.size + k = X + 1 ∧ Hid (calT t) ∧ Hid (Cur wr p A n c (a + 1 + t.size)) ∧ Hid (w.grownBy wr (some p))) (fun _ i _ => (intOf i).toNat)
  case atStart => exact ⟨X + 1, ⟨#[]⟩, Nat.le_refl _, by go_num, rfl, by rw [show (⟨#[]⟩ : ByteArray).size = 0 from rfl]; omega, Lib.hid calT_nil, Lib.hid (HC1.out.mono (by omega)), HG1⟩
  case round =>
    obtain ⟨k, t, hk, rfl, rfl, htk, HT, HC, HG⟩ := hrel
    rename World => wr
    by_cases h0 : 0 < k
    · have hI : (0 : Int) < (k : Int) := by omega
      have hl := lit_strs2 wr 9 [⟨#[112]⟩, ⟨#[112]⟩, ⟨#[98]⟩, ⟨#[115]⟩, ⟨#[98]⟩]
      have hpr := HC.out.lt
      go_wp2_with fail
      refine (cur_of HS.out (G.out _ (grownBy_trans HG.out (World.grownBy_alloc _ _ _))) hp (HC.out.up ((Below.refl _ _).alloc (Nat.le_refl _) _)) (by omega) rfl hl (by decide) (by decide) (fun b o e => by injection e with e; injection e with e; omega)).mono ?_; rintro e w2 ⟨y, hy, rfl, hc2, hg2⟩
      have hyc := HF.out y hy
      have HY := Lib.hid hyc.1
      have hy1 := hyc.2
      have HC2 := Lib.hid hc2
      have HG2 := Lib.hid (grownBy_trans (grownBy_trans HG.out (World.grownBy_alloc _ _ _)) hg2)
      have hty : (t ++ y).size = t.size + 1 := by rw [ByteArray.size_append, hy1]
      have HCA := Lib.hid (calT_app HT.out HY.out)
      clear hc2 hg2 hy hyc hl
      have hov : ¬ 9223372036854775807 < t.size + y.size := by omega
      go_wp2
      go_roundw
      case rel => exact ⟨k - 1, t ++ y, by omega, by go_num, rfl, by omega, HCA, Lib.hid (HC2.out.mono (by omega)), HG2⟩
      case measure => simp [intOf]; omega
    · obtain rfl : k = 0 := by omega
      have hI : ¬ (0 : Int) < ((0 : Nat) : Int) := by omega
      go_wp2_with fail
      refine (cur_one HS.out (G.out _ HG.out) hp HC.out (by omega) (by decide) (by decide)).mono ?_; rintro e w3 ⟨b, rfl, hc3, hg3⟩
      have HC3 := Lib.hid hc3
      have HG3 := Lib.hid (grownBy_trans HG.out hg3)
      clear hc3 hg3
      have hov : ¬ 9223372036854775807 < t.size + t.size := by omega
      have hsz : (t ++ t).size = t.size + t.size := ByteArray.size_append
      rcases b
      · go_wp2
        go_ret
        exact ⟨t, rfl, HT.out, by omega, by omega, HC3.out.mono (by omega), HG3.out⟩
      · go_wp2
        go_ret
        exact ⟨t ++ t, rfl, calT_app HT.out HT.out, by omega, by omega, HC3.out.mono (by omega), HG3.out⟩
set_option maxHeartbeats 2000000 in
set_option maxRecDepth 100000 in
theorem cur_anyTouch {A : Option Addr} {n c a p : Nat} {w0 w : World} (hS : Src w0 A n) (hb : Below w0.heap.size w0 w) (hp : w0.heap.size ≤ p) (hc : Cur w p A n c a) (ha : a ≤ 900000) :
    Calls Tryz.prog 129 #[.pointer (some ⟨p, 0, none⟩)] w fun e w' => ∃ t : ByteArray, e = .returned (.string t) ∧ t.size ≤ 61 ∧ Cur w' p A n c (a + 100) ∧ w.grownBy w' (some p) := by
  have G : Hid (∀ u : World, w.grownBy u (some p) → Below w0.heap.size w0 u) := Lib.hid (fun u hg => grown_below hb hp hg)
  have HS := Lib.hid hS
  have hpw := hc.lt
  go_in
  go_wp2_with fail
  refine (cur_pick hS hb hp hc (by omega) (by decide) (by decide)).mono ?_; rintro e w1 ⟨x, rfl, ⟨x0, x1⟩, hc1, hg1⟩
  have HG1 := Lib.hid hg1
  have HC1 := Lib.hid hc1
  have hp1 := hc1.lt
  clear hb hc hS hc1 hg1
  have hx : x = 0 ∨ x = 1 ∨ 2 ≤ x := by omega
  clear x1
  rcases hx with rfl | rfl | hx
  · have hl := lit_strs2 w1 9 [⟨#[]⟩, ⟨#[120]⟩, ⟨#[112, 66]⟩, ⟨#[112, 32, 98]⟩]
    go_wp2_with fail
    refine (cur_of HS.out (G.out _ (grownBy_trans HG1.out (World.grownBy_alloc _ _ _))) hp (HC1.out.up ((Below.refl _ _).alloc (Nat.le_refl _) _)) (by omega) rfl hl (by decide) (by decide) (fun b o e => by injection e with e; injection e with e; omega)).mono ?_; rintro e w2 ⟨y, hy, rfl, hc2, hg2⟩
    have HG2 := Lib.hid (grownBy_trans (grownBy_trans HG1.out (World.grownBy_alloc _ _ _)) hg2)
    have hyz : y.size ≤ 61 := by
      simp only [List.mem_cons, List.not_mem_nil, or_false] at hy
      rcases hy with rfl | rfl | rfl | rfl <;> decide
    clear hl hy
    go_wp2
    go_ret
    exact ⟨y, rfl, hyz, hc2.mono (by omega), HG2.out⟩
  · have hl := lit_ints w1 3 [59, 60, 61]
    go_wp2_with fail
    refine (cur_among HS.out (G.out _ (grownBy_trans HG1.out (World.grownBy_alloc _ _ _))) hp (HC1.out.up ((Below.refl _ _).alloc (Nat.le_refl _) _)) (by omega) rfl hl (by decide) (by decide) (fun b o e => by injection e with e; injection e with e; omega)).mono ?_; rintro e w2 ⟨y, hy, rfl, hc2, hg2⟩
    have HG2 := Lib.hid (grownBy_trans (grownBy_trans HG1.out (World.grownBy_alloc _ _ _)) hg2)
    have HC2 := Lib.hid hc2
    simp only [List.mem_cons, List.not_mem_nil, or_false] at hy
    obtain ⟨Y, rfl⟩ : ∃ z : Nat, y = (z : Int) := ⟨y.toNat, by omega⟩
    have hY : Y ≤ 61 := by omega
    clear hl hy hc2 hg2 HG1 HC1
    go_wp2
    go_loopw [3, 4] (fun v i wr => ∃ (k : Nat) (t : ByteArray), k ≤ Y ∧ i = .int .i64 k ∧ v = .string t ∧ t.size + k = Y ∧ Hid (Cur wr p A n c (a + 2 + t.size)) ∧ Hid (w.grownBy wr (some p))) (fun _ i _ => (intOf i).toNat)
    case atStart => exact ⟨Y, ⟨#[]⟩, Nat.le_refl _, rfl, rfl, by rw [show (⟨#[]⟩ : ByteArray).size = 0 from rfl]; omega, Lib.hid (HC2.out.mono (by omega)), HG2⟩
    case round =>
      obtain ⟨k, t, hk, rfl, rfl, htk, HC, HG⟩ := hrel
      rename World => wr
      by_cases h0 : 0 < k
      · have hI : (0 : Int) < (k : Int) := by omega
        have hl := lit_strs2 wr 9 [⟨#[112]⟩, ⟨#[98]⟩, ⟨#[115]⟩]
        have hpr := HC.out.lt
        go_wp2_with fail
        refine (cur_of HS.out (G.out _ (grownBy_trans HG.out (World.grownBy_alloc _ _ _))) hp (HC.out.up ((Below.refl _ _).alloc (Nat.le_refl _) _)) (by omega) rfl hl (by decide) (by decide) (fun b o e => by injection e with e; injection e with e; omega)).mono ?_; rintro e w2 ⟨y, hy, rfl, hc2, hg2⟩
        have hy1 : y.size = 1 := by
          simp only [List.mem_cons, List.not_mem_nil, or_false] at hy
          rcases hy with rfl | rfl | rfl <;> rfl
        have HC2 := Lib.hid hc2
        have HG2 := Lib.hid (grownBy_trans (grownBy_trans HG.out (World.grownBy_alloc _ _ _)) hg2)
        have hty : (t ++ y).size = t.size + 1 := by rw [ByteArray.size_append, hy1]
        clear hc2 hg2 hy hl
        have hov : ¬ 9223372036854775807 < t.size + y.size := by omega
        go_wp2
        go_roundw
        case rel => exact ⟨k - 1, t ++ y, by omega, by go_num, rfl, by omega, Lib.hid (HC2.out.mono (by omega)), HG2⟩
        case measure => simp [intOf]; omega
      · obtain rfl : k = 0 := by omega
        have hI : ¬ (0 : Int) < ((0 : Nat) : Int) := by omega
        go_wp2
        go_ret
        exact ⟨t, rfl, by omega, HC.out.mono (by omega), HG.out⟩
  · have n0 : (x == 0) = false := by simp; omega
    have n1 : (x == 1) = false := by simp; omega
    go_wp2_with fail
    refine (cur_touch (M := 9) HS.out (G.out _ HG1.out) hp HC1.out (by omega) (by decide) (by decide)).mono ?_; rintro e w2 ⟨t, rfl, _, _, ht, hc2, hg2⟩
    go_wp2
    go_ret
    exact ⟨t, rfl, by omega, hc2.mono (by omega), grownBy_trans HG1.out hg2⟩
end Go.Proofs.YtidolgonmimicaaGreat
