/- Texts 4 of 6 that the claim leans on: plain laws and the walks' contracts, in order. -/
import Derived.Test.YtpccbmndgdiloaaMExtents3
/- The walk through the generator of methods. -/
namespace Go.Proofs.Ytpccbmndgdiloaa
set_option linter.unusedVariables false
set_option linter.unusedSimpArgs false
open Go.ChangeShapes Go.WideShapes Go.ChangeAt Go.RowKit Go.Deep
/-- The state of a method that is being made in block b: p is the cursor's block, the result's block comes first. -/
def MSt (w u : World) (p : Nat) (A : Option Addr) (n c a b : Nat) (nm : ByteArray) (st : Int) (v : Value) : Prop :=
  Blk u b 26 [.string nm, .int .i64 st, v] ∧ Cur u p A n c a ∧ (∃ x y z, Blk u w.heap.size 26 [x, y, z]) ∧ w.grownBy u (some p) ∧ p < w.heap.size ∧ w.heap.size < b
section
variable {w u u' : World} {p n c a a' b : Nat} {A : Option Addr} {nm : ByteArray} {st : Int} {v v' : Value}
theorem MSt.mono (h : MSt w u p A n c a b nm st v) (ha : a ≤ a') : MSt w u p A n c a' b nm st v := ⟨h.1, h.2.1.mono ha, h.2.2⟩
theorem MSt.draw (h : MSt w u p A n c a b nm st v) (hg : u.grownBy u' (some p)) (hc : Cur u' p A n c a') : MSt w u' p A n c a' b nm st v := by
  obtain ⟨h1, _, ⟨x, y, z, h3⟩, h4, h5, h6⟩ := h
  exact ⟨h1.grown hg (fun e => by injection e with e; omega), hc, ⟨x, y, z, h3.grown hg (fun e => by injection e with e; omega)⟩, grownBy_trans h4 hg, h5, h6⟩
theorem MSt.grown {row : Option Nat} (h : MSt w u p A n c a b nm st v) (hg : u.grownBy u' row) (hr : ∀ k, row = some k → b < k) : MSt w u' p A n c a b nm st v := by
  obtain ⟨h1, h2, ⟨x, y, z, h3⟩, h4, h5, h6⟩ := h
  exact ⟨h1.grown hg (fun e => by have := hr b e.symm; omega), h2.grown hg (fun e => by have := hr p e.symm; omega), ⟨x, y, z, h3.grown hg (fun e => by have := hr _ e.symm; omega)⟩, grow_own h4 hg (fun k e => by have := hr k e; omega), h5, h6⟩
theorem MSt.up (h : MSt w u p A n c a b nm st v) (hb : Below u.heap.size u u') : MSt w u' p A n c a b nm st v := h.grown (grown_of_below hb) (fun k e => by cases e)
theorem MSt.alloc (h : MSt w u p A n c a b nm st v) (o : Obj) : MSt w (u.alloc o) p A n c a b nm st v := h.up ((Below.refl _ _).alloc (Nat.le_refl _) o)
theorem MSt.drew (h : MSt w u p A n c a b nm st v) : MSt w u.drew p A n c a b nm st v := h.up (below_drewN (Below.refl _ _) 1)
theorem MSt.put (h : MSt w u p A n c a b nm st v) : MSt w (u.setCell ⟨b, 2, none⟩ v') p A n c a b nm st v' := by
  obtain ⟨h1, h2, ⟨x, y, z, h3⟩, h4, h5, h6⟩ := h
  have hg : u.grownBy (u.setCell ⟨b, 2, none⟩ v') (some b) := only_set u (p := ⟨b, 2, none⟩) v'
  exact ⟨h1.set_ 2 v', h2.grown hg (fun e => by injection e with e; omega), ⟨x, y, z, h3.grown hg (fun e => by injection e with e; omega)⟩, grow_own h4 hg (fun k e => by injection e with e; omega), h5, h6⟩
theorem own_put {u : World} {b base m d : Nat} {B : Option Addr} {l : List ByteArray} {v' : Value} (ho : Owned strE 1 9 u base B m d l) (hb : b < base) : Owned strE 1 9 (u.setCell ⟨b, 2, none⟩ v') base B m d l :=
  ho.past (only_set u (p := ⟨b, 2, none⟩) v') hb
theorem strs_grown {w w' : World} {b o : Nat} {l : List ByteArray} {row : Option Nat} (h : Strs w (some ⟨b, o, none⟩) l) (hg : w.grownBy w' row) (hne : some b ≠ row) : Strs w' (some ⟨b, o, none⟩) l := by
  refine ⟨h.1, h.2.1, fun hn => ?_⟩
  obtain ⟨b', o', hA, hb, hc⟩ := h.2.2 hn
  injection hA with hA
  injection hA with e1 e2 _
  subst e1 e2
  exact ⟨b, o, rfl, Nat.lt_of_lt_of_le hb hg.size, fun j u hu => (hg.cell_far ⟨b, o + j, none⟩ hb hne).trans (hc j u hu)⟩
end
theorem good_snoc {st : Int} {L : List ByteArray} {x : ByteArray} (h : ∀ y ∈ L, goodChange st y = true) (hx : goodChange st x = true) : ∀ y ∈ L ++ [x], goodChange st y = true := fun y hy => by
  rcases List.mem_append.1 hy with hy | hy
  · exact h y hy
  · rw [List.mem_singleton.1 hy]; exact hx
set_option maxHeartbeats 4000000 in
set_option maxRecDepth 100000 in
theorem cur_method {A : Option Addr} {n c a p : Nat} {w0 w : World} (hS : Src w0 A n) (hb : Below w0.heap.size w0 w) (hp : w0.heap.size ≤ p) (hc : Cur w p A n c a) (ha : a ≤ 1000000) :
    Calls Try.prog 186 #[.pointer (some ⟨p, 0, none⟩)] w fun e w' => ∃ (nm : ByteArray) (st : Nat) (A' : Option Addr) (m c' : Nat) (L : List ByteArray), e = .returned (.agg #[.string nm, .int .i64 st, .slice A' m c']) ∧ goodM nm st L = true ∧ 3 ≤ st ∧ st ≤ 6 ∧ m ≤ 12 ∧ Owned strE 1 9 w' w.heap.size A' m c' L ∧ Cur w' p A n c (a + 100) ∧ w.grownBy w' (some p) := by
  have hpw := hc.lt
  have R0 := Blk.at_ w 26 [.string ⟨#[]⟩, .int .i64 0, .slice none 0 0] (b := w.heap.size) rfl
  have b0 : Below w.heap.size w (w.alloc (.cells #[.string ⟨#[]⟩, .int .i64 0, .slice none 0 0] 26)) := by (repeat' (first | (with_reducible exact Below.refl _ _) | (with_reducible assumption) | (with_reducible refine below_drewN ?_ _) | (with_reducible refine Below.drew ?_) | (with_reducible refine below_alloc ?_ _) | (with_reducible refine Below.alloc ?_ ?_ _) | (with_reducible refine Below.setCell ?_ ?_ _) | (with_reducible refine below_go ?_ (by with_reducible assumption)) | (with_reducible refine below_then (by with_reducible assumption) ?_ ?_) | go_size))
  have G : Hid (∀ u : World, w.grownBy u (some p) → Below w0.heap.size w0 u) := Lib.hid (fun u hg => grown_below hb hp hg)
  have HS := Lib.hid hS
  clear hS hb
  go_in
  go_wp2_with fail
  obtain ⟨w1, hw1⟩ : ∃ u, u = w.alloc (.cells #[.string ⟨#[]⟩, .int .i64 0, .slice none 0 0] 26) := ⟨_, rfl⟩
  have z1 : w1.heap.size = w.heap.size + 1 := by rw [hw1]; simp
  rw [← hw1] at b0 ⊢
  have R1 : Blk w1 w.heap.size 26 [.string ⟨#[]⟩, .int .i64 0, .slice none 0 0] := by rw [hw1]; exact R0
  clear hw1 R0
  have hl1 := lit_ints w1 3 [4, 4, 5, 6, 6, 3]
  rw [z1] at hl1
  have a1 : ∀ o : Obj, Below w1.heap.size w1 (w1.alloc o) := fun o => (Below.refl _ _).alloc (Nat.le_refl _) o
  refine (cur_among HS.out (G.out _ (grown_any (below_go b0 (a1 _)) _)) hp ((hc.up b0).up (a1 _)) (by omega) rfl hl1 (by decide) (by decide) (fun b o e => by injection e with e; injection e with e; omega)).mono ?_; rintro e w2 ⟨x, hx, rfl, hc2, hg2⟩
  have g2 : w.grownBy w2 (some p) := grownBy_trans (grown_any (below_go b0 (a1 _)) _) hg2
  have R2 := (R1.up (a1 _)).grown hg2 (fun e => by injection e with e; omega)
  have s2 : w.heap.size + 1 ≤ w2.heap.size := by have := hg2.size; simp at this; omega
  simp only [List.mem_cons, List.not_mem_nil, or_false] at hx
  obtain ⟨st, rfl⟩ : ∃ st : Nat, x = (st : Int) := ⟨x.toNat, by omega⟩
  have hst : 3 ≤ st ∧ st ≤ 6 := by omega
  clear hx hl1 a1 hg2 R1 hc b0
  go_wp2_with fail
  have hl2 := lit_strs2 w2 9 [⟨#[97]⟩, ⟨#[112, 108, 97, 105, 110]⟩, ⟨#[98, 111, 98]⟩, ⟨#[108, 105, 116, 116, 108, 101]⟩]
  have a2 : ∀ o : Obj, Below w2.heap.size w2 (w2.alloc o) := fun o => (Below.refl _ _).alloc (Nat.le_refl _) o
  refine (cur_of HS.out (G.out _ (grownBy_trans g2 (grown_any (a2 _) _))) hp (hc2.up (a2 _)) (by omega) rfl hl2 (by decide) (by decide) (fun b o e => by injection e with e; injection e with e; omega)).mono ?_; rintro e w3 ⟨nm, hnm, rfl, hc3, hg3⟩
  have g3 : w.grownBy w3 (some p) := grownBy_trans (grownBy_trans g2 (grown_any (a2 _) _)) hg3
  have R3 := (R2.up (a2 _)).grown hg3 (fun e => by injection e with e; omega)
  have s3 : w.heap.size + 1 ≤ w3.heap.size := by have := hg3.size; simp at this; omega
  have hok : nameOk nm = true := by
    simp only [List.mem_cons, List.not_mem_nil, or_false] at hnm
    rcases hnm with rfl | rfl | rfl | rfl <;> decide +kernel
  clear hnm hl2 a2 hg3 R2 hc2 g2
  have K3 := Blk.at_ w3 26 [.string nm, .int .i64 (st : Int), .slice none 0 0] (b := w3.heap.size) rfl
  have a3 : Below w3.heap.size w3 (w3.alloc (.cells #[.string nm, .int .i64 (st : Int), .slice none 0 0] 26)) := by (repeat' (first | (with_reducible exact Below.refl _ _) | (with_reducible assumption) | (with_reducible refine below_drewN ?_ _) | (with_reducible refine Below.drew ?_) | (with_reducible refine below_alloc ?_ _) | (with_reducible refine Below.alloc ?_ ?_ _) | (with_reducible refine Below.setCell ?_ ?_ _) | (with_reducible refine below_go ?_ (by with_reducible assumption)) | (with_reducible refine below_then (by with_reducible assumption) ?_ ?_) | go_size))
  have M3 : MSt w (w3.alloc (.cells #[.string nm, .int .i64 (st : Int), .slice none 0 0] 26)) p A n c (a + 1 + 1) w3.heap.size nm st (.slice none 0 0) := ⟨K3, hc3.up a3, ⟨_, _, _, R3.up a3⟩, grownBy_trans g3 (grown_any a3 _), hpw, by omega⟩
  have fin : Hid (∀ (u v : World) (A' : Option Addr) (m c' : Nat) (L : List ByteArray), w.grownBy u (some p) → Cur u p A n c (a + 90) → Owned strE 1 9 u (w3.heap.size + 1) A' m c' L → 1 ≤ m → m ≤ 12 → (∀ x ∈ L, goodChange st x = true) → u.grownBy v (some w.heap.size) → ∃ (nm' : ByteArray) (st' : Nat) (A'' : Option Addr) (m' c'' : Nat) (L' : List ByteArray), Ending.returned (Value.agg #[.string nm, .int .i64 (st : Int), .slice A' m c']) = .returned (.agg #[.string nm', .int .i64 (st' : Int), .slice A'' m' c'']) ∧ goodM nm' st' L' = true ∧ 3 ≤ st' ∧ st' ≤ 6 ∧ m' ≤ 12 ∧ Owned strE 1 9 v w.heap.size A'' m' c'' L' ∧ Cur v p A n c (a + 100) ∧ w.grownBy v (some p)) := Lib.hid (fun u v A' m c' L h1 h2 h3 h4 h5 h6 h7 =>
    ⟨nm, st, A', m, c', L, rfl, goodM_of hok hst.1 (by omega) (by rw [h3.len]; exact h4) (by rw [h3.len]; omega) h6, hst.1, hst.2, h5, (h3.past h7 (by omega)).base_le (by omega), (h2.grown h7 (fun e => by injection e with e; omega)).mono (by omega), grow_own h1 h7 (fun k e => by injection e with e; omega)⟩)
  clear K3 a3 R3 g3 hc3
  by_cases h4 : 4 ≤ st
  · have hI4 : (4 : Int) ≤ (st : Int) := by omega
    go_wp2_with fail
    obtain ⟨w4, hw4⟩ : ∃ u, u = w3.alloc (.cells #[.string nm, .int .i64 (st : Int), .slice none 0 0] 26) := ⟨_, rfl⟩
    rw [← hw4] at M3 ⊢
    clear hw4
    refine (cur_one HS.out (G.out _ M3.2.2.2.1) hp M3.2.1 (by omega) (by decide) (by decide)).mono ?_; rintro e w5 ⟨b1, rfl, hc5, hg5⟩
    have HM5 := Lib.hid (M3.draw hg5 hc5)
    clear hc5 hg5 M3
    rcases b1
    · skip
      go_wp2_with fail
      refine (cur_one HS.out (G.out _ HM5.out.2.2.2.1) hp HM5.out.2.1 (by omega) (by decide) (by decide)).mono ?_; rintro e w6 ⟨b2, rfl, hc6, hg6⟩
      have HM6 := Lib.hid (HM5.out.draw hg6 hc6)
      clear hc6 hg6
      rcases b2
      · go_wp2_with fail
        refine (cur_pick HS.out (G.out _ HM6.out.2.2.2.1) hp HM6.out.2.1 (by omega) (by decide) (by decide)).mono ?_; rintro e w7 ⟨x, rfl, ⟨x0, x1⟩, hc7, hg7⟩
        have HM7 := Lib.hid (HM6.out.draw hg7 hc7)
        obtain ⟨X, rfl⟩ := Int.eq_ofNat_of_zero_le x0
        have hX : X ≤ 7 := by omega
        clear hc7 hg7 x0 x1
        go_wp2
        go_loopw [9] (fun i wr => ∃ (k m : Nat) (A' : Option Addr) (c' : Nat) (L : List ByteArray), k + m = X + 1 ∧ i = .int .i64 k ∧ Hid (MSt w wr p A n c (a + 10 + m) w3.heap.size nm st (.slice A' m c')) ∧ Hid (Owned strE 1 9 wr (w3.heap.size + 1) A' m c' L) ∧ Hid (∀ x ∈ L, goodChange st x = true) ∧ w3.heap.size < wr.heap.size) (fun i _ => (intOf i).toNat)
        case atStart => exact ⟨X + 1, 0, none, 0, [], rfl, by go_num, Lib.hid (HM7.out.mono (by omega)), Lib.hid (Owned.nil strE_len _ _ _), Lib.hid (fun s hs => by cases hs), HM7.out.1.lt⟩
        case round =>
          obtain ⟨k, m, A2, c2, L, hkm, rfl, HM, HO, HZ, hbr⟩ := hrel
          rename World => wr
          by_cases h0 : 0 < k
          · have hI : (0 : Int) < (k : Int) := by omega
            have hOl := HO.out.len
            go_upto_region 6 with fail
            obtain ⟨K1, _, _, _, K5, K6⟩ := HM.out
            have d2 := K1.cell 2; have e2 := K1.frozen 2
            simp only [List.getElem?_cons_zero, List.getElem?_cons_succ] at d2
            clear K1
            refine wp_region_any (by kernel_rfl) ?_
            (try (change wpAny _ _ _ _ _ _ _ (World.drew _)))
            refine wpAny_take (i := 0) (oi := { dst := some 25, op := _, type := _, pos := _, after := _, guard := _ }) (v := ?_) rfl (by kernel_rfl) (by kernel_rfl) (by kernel_rfl) (fun _ _ _ h => h) (Or.inl ⟨by rfl, ?_⟩) ?_
            rotate_left
            · (intro w; go_simp) <;> with_reducible rfl
            (try simp only [Act.put, List.setIfInBounds_toArray, List.set_cons_zero, List.set_cons_succ])
            refine wpAny_take (i := 2) (oi := { dst := some 27, op := _, type := _, pos := _, after := _, guard := _ }) (v := ?_) rfl (by kernel_rfl) (by kernel_rfl) (by kernel_rfl) (fun _ _ _ h => h) (Or.inl ⟨by rfl, ?_⟩) ?_
            rotate_left
            · (intro w; go_simp) <;> with_reducible rfl
            (try simp only [Act.put, List.setIfInBounds_toArray, List.set_cons_zero, List.set_cons_succ])
            refine wpAny_take (i := 3) (oi := { dst := some 28, op := _, type := _, pos := _, after := _, guard := _ }) (v := ?_) rfl (by kernel_rfl) (by kernel_rfl) (by kernel_rfl) (fun _ _ _ h => h) (Or.inl ⟨by rfl, ?_⟩) ?_
            rotate_left
            · (intro w; go_simp) <;> with_reducible rfl
            (try simp only [Act.put, List.setIfInBounds_toArray, List.set_cons_zero, List.set_cons_succ])
            refine wpAny_ready (rs := [1, 4]) (by kernel_rfl) (by simp) ?_
            refine AllReady.cons (o := _) rfl (fun K hK => ?_) (AllReady.cons (o := _) rfl (fun K hK => ?_) (AllReady.nil))
            · go_simp
              (try (refine hK _ _ ?_; clear hK K))
              (try simp only [Act.put, List.setIfInBounds_toArray, List.set_cons_zero, List.set_cons_succ])
              refine wpAny_ready (rs := [4]) (by kernel_rfl) (by simp) ?_
              refine AllReady.cons (o := _) rfl (fun K hK => ?_) (AllReady.nil)
              go_simp
              refine (cur_change HS.out (G.out _ HM.out.drew.2.2.2.1) hp HM.out.drew.2.1 (by omega) (by omega) (by omega)).mono ?_; rintro e w8 ⟨x8, rfl, gx8, zx8, hc8, hg8⟩
              have HM8 := Lib.hid (HM.out.drew.draw hg8 hc8)
              have HO8 := Lib.hid ((HO.out.up (below_drewN (Below.refl _ _) 1)).past hg8 (by omega))
              have d3 := HM8.out.1.cell 2
              simp only [List.getElem?_cons_zero, List.getElem?_cons_succ] at d3
              have d4 := (HM8.out.alloc (.cells #[.string x8] 9)).1.cell 2
              simp only [List.getElem?_cons_zero, List.getElem?_cons_succ] at d4
              try go_wp2_with fail
              (try (refine hK _ _ ?_; clear hK K))
              (try simp only [Act.put, List.setIfInBounds_toArray, List.set_cons_zero, List.set_cons_succ])
              refine wpAny_ready (rs := [5]) (by kernel_rfl) (by simp) ?_
              refine AllReady.cons (o := _) rfl (fun K hK => ?_) (AllReady.nil)
              go_simp
              (try (refine hK _ _ ?_; clear hK K))
              (try simp only [Act.put, List.setIfInBounds_toArray, List.set_cons_zero, List.set_cons_succ])
              refine wpAny_ready (rs := [6]) (by kernel_rfl) (by simp) ?_
              refine AllReady.cons (o := _) rfl (fun K hK => ?_) (AllReady.nil)
              refine step_append_rec Try.elStr (by rfl) _ _ (by rfl) (by rfl) (HO8.out.alloc _) x8 (by rfl) (Box.at_ _ [.string x8] _ (by rfl)) (strE_one _) (by omega) (by decide) (by have h1 := HM8.out.1.lt; have h2 := hg8.size; simp at h2 ⊢; omega) ?_
              intro A3 c3 w9 ho9 hg9 hb9
              have HM9 := Lib.hid ((HM8.out.alloc (.cells #[.string x8] 9)).grown hg9 (fun k hk => by have := (HO8.out.blk hk).1; omega))
              have d5 := HM9.out.1.cell 2; have e5 := HM9.out.1.frozen 2
              simp only [List.getElem?_cons_zero, List.getElem?_cons_succ] at d5
              (try (refine hK _ _ ?_; clear hK K))
              (try simp only [Act.put, List.setIfInBounds_toArray, List.set_cons_zero, List.set_cons_succ])
              refine wpAny_ready (rs := [7]) (by kernel_rfl) (by simp) ?_
              refine AllReady.cons (o := _) rfl (fun K hK => ?_) (AllReady.nil)
              go_simp
              (try (refine hK _ _ ?_; clear hK K))
              (try simp only [Act.put, List.setIfInBounds_toArray, List.set_cons_zero, List.set_cons_succ])
              refine wpAny_ready (rs := [8]) (by kernel_rfl) (by simp) ?_
              refine AllReady.cons (o := _) rfl (fun K hK => ?_) (AllReady.nil)
              go_simp
              (try (refine hK _ _ ?_; clear hK K))
              (try simp only [Act.put, List.setIfInBounds_toArray, List.set_cons_zero, List.set_cons_succ])
              refine wpAny_done (by kernel_rfl) ?_ _
              (try simp only [Act.put, List.setIfInBounds_toArray, List.set_cons_zero, List.set_cons_succ])
              have HZ9 := Lib.hid (good_snoc HZ.out gx8)
              have HMF := Lib.hid (HM9.out.put (v' := .slice A3 (m + 1) c3))
              have HOF := Lib.hid (own_put (b := w3.heap.size) (v' := .slice A3 (m + 1) c3) ho9 (by omega))
              clear d2 d3 d4 d5 e2 e5
              go_wp2
              go_roundw
              case rel => exact ⟨k - 1, m + 1, A3, c3, L ++ [x8], by omega, by go_num, Lib.hid (HMF.out.mono (by omega)), HOF, HZ9, HMF.out.1.lt⟩
              case measure => simp [intOf]; omega
            · go_simp
              refine (cur_change HS.out (G.out _ HM.out.drew.2.2.2.1) hp HM.out.drew.2.1 (by omega) (by omega) (by omega)).mono ?_; rintro e w8 ⟨x8, rfl, gx8, zx8, hc8, hg8⟩
              have HM8 := Lib.hid (HM.out.drew.draw hg8 hc8)
              have HO8 := Lib.hid ((HO.out.up (below_drewN (Below.refl _ _) 1)).past hg8 (by omega))
              have d3 := HM8.out.1.cell 2
              simp only [List.getElem?_cons_zero, List.getElem?_cons_succ] at d3
              have d4 := (HM8.out.alloc (.cells #[.string x8] 9)).1.cell 2
              simp only [List.getElem?_cons_zero, List.getElem?_cons_succ] at d4
              try go_wp2_with fail
              (try (refine hK _ _ ?_; clear hK K))
              (try simp only [Act.put, List.setIfInBounds_toArray, List.set_cons_zero, List.set_cons_succ])
              refine wpAny_ready (rs := [1, 5]) (by kernel_rfl) (by simp) ?_
              refine AllReady.cons (o := _) rfl (fun K hK => ?_) (AllReady.cons (o := _) rfl (fun K hK => ?_) (AllReady.nil))
              · go_simp
                (try (refine hK _ _ ?_; clear hK K))
                (try simp only [Act.put, List.setIfInBounds_toArray, List.set_cons_zero, List.set_cons_succ])
                refine wpAny_ready (rs := [5]) (by kernel_rfl) (by simp) ?_
                refine AllReady.cons (o := _) rfl (fun K hK => ?_) (AllReady.nil)
                go_simp
                (try (refine hK _ _ ?_; clear hK K))
                (try simp only [Act.put, List.setIfInBounds_toArray, List.set_cons_zero, List.set_cons_succ])
                refine wpAny_ready (rs := [6]) (by kernel_rfl) (by simp) ?_
                refine AllReady.cons (o := _) rfl (fun K hK => ?_) (AllReady.nil)
                refine step_append_rec Try.elStr (by rfl) _ _ (by rfl) (by rfl) (HO8.out.alloc _) x8 (by rfl) (Box.at_ _ [.string x8] _ (by rfl)) (strE_one _) (by omega) (by decide) (by have h1 := HM8.out.1.lt; have h2 := hg8.size; simp at h2 ⊢; omega) ?_
                intro A3 c3 w9 ho9 hg9 hb9
                have HM9 := Lib.hid ((HM8.out.alloc (.cells #[.string x8] 9)).grown hg9 (fun k hk => by have := (HO8.out.blk hk).1; omega))
                have d5 := HM9.out.1.cell 2; have e5 := HM9.out.1.frozen 2
                simp only [List.getElem?_cons_zero, List.getElem?_cons_succ] at d5
                (try (refine hK _ _ ?_; clear hK K))
                (try simp only [Act.put, List.setIfInBounds_toArray, List.set_cons_zero, List.set_cons_succ])
                refine wpAny_ready (rs := [7]) (by kernel_rfl) (by simp) ?_
                refine AllReady.cons (o := _) rfl (fun K hK => ?_) (AllReady.nil)
                go_simp
                (try (refine hK _ _ ?_; clear hK K))
                (try simp only [Act.put, List.setIfInBounds_toArray, List.set_cons_zero, List.set_cons_succ])
                refine wpAny_ready (rs := [8]) (by kernel_rfl) (by simp) ?_
                refine AllReady.cons (o := _) rfl (fun K hK => ?_) (AllReady.nil)
                go_simp
                (try (refine hK _ _ ?_; clear hK K))
                (try simp only [Act.put, List.setIfInBounds_toArray, List.set_cons_zero, List.set_cons_succ])
                refine wpAny_done (by kernel_rfl) ?_ _
                (try simp only [Act.put, List.setIfInBounds_toArray, List.set_cons_zero, List.set_cons_succ])
                have HZ9 := Lib.hid (good_snoc HZ.out gx8)
                have HMF := Lib.hid (HM9.out.put (v' := .slice A3 (m + 1) c3))
                have HOF := Lib.hid (own_put (b := w3.heap.size) (v' := .slice A3 (m + 1) c3) ho9 (by omega))
                clear d2 d3 d4 d5 e2 e5
                go_wp2
                go_roundw
                case rel => exact ⟨k - 1, m + 1, A3, c3, L ++ [x8], by omega, by go_num, Lib.hid (HMF.out.mono (by omega)), HOF, HZ9, HMF.out.1.lt⟩
                case measure => simp [intOf]; omega
              · go_simp
                (try (refine hK _ _ ?_; clear hK K))
                (try simp only [Act.put, List.setIfInBounds_toArray, List.set_cons_zero, List.set_cons_succ])
                refine wpAny_ready (rs := [1]) (by kernel_rfl) (by simp) ?_
                refine AllReady.cons (o := _) rfl (fun K hK => ?_) (AllReady.nil)
                go_simp
                (try (refine hK _ _ ?_; clear hK K))
                (try simp only [Act.put, List.setIfInBounds_toArray, List.set_cons_zero, List.set_cons_succ])
                refine wpAny_ready (rs := [6]) (by kernel_rfl) (by simp) ?_
                refine AllReady.cons (o := _) rfl (fun K hK => ?_) (AllReady.nil)
                refine step_append_rec Try.elStr (by rfl) _ _ (by rfl) (by rfl) (HO8.out.alloc _) x8 (by rfl) (Box.at_ _ [.string x8] _ (by rfl)) (strE_one _) (by omega) (by decide) (by have h1 := HM8.out.1.lt; have h2 := hg8.size; simp at h2 ⊢; omega) ?_
                intro A3 c3 w9 ho9 hg9 hb9
                have HM9 := Lib.hid ((HM8.out.alloc (.cells #[.string x8] 9)).grown hg9 (fun k hk => by have := (HO8.out.blk hk).1; omega))
                have d5 := HM9.out.1.cell 2; have e5 := HM9.out.1.frozen 2
                simp only [List.getElem?_cons_zero, List.getElem?_cons_succ] at d5
                (try (refine hK _ _ ?_; clear hK K))
                (try simp only [Act.put, List.setIfInBounds_toArray, List.set_cons_zero, List.set_cons_succ])
                refine wpAny_ready (rs := [7]) (by kernel_rfl) (by simp) ?_
                refine AllReady.cons (o := _) rfl (fun K hK => ?_) (AllReady.nil)
                go_simp
                (try (refine hK _ _ ?_; clear hK K))
                (try simp only [Act.put, List.setIfInBounds_toArray, List.set_cons_zero, List.set_cons_succ])
                refine wpAny_ready (rs := [8]) (by kernel_rfl) (by simp) ?_
                refine AllReady.cons (o := _) rfl (fun K hK => ?_) (AllReady.nil)
                go_simp
                (try (refine hK _ _ ?_; clear hK K))
                (try simp only [Act.put, List.setIfInBounds_toArray, List.set_cons_zero, List.set_cons_succ])
                refine wpAny_done (by kernel_rfl) ?_ _
                (try simp only [Act.put, List.setIfInBounds_toArray, List.set_cons_zero, List.set_cons_succ])
                have HZ9 := Lib.hid (good_snoc HZ.out gx8)
                have HMF := Lib.hid (HM9.out.put (v' := .slice A3 (m + 1) c3))
                have HOF := Lib.hid (own_put (b := w3.heap.size) (v' := .slice A3 (m + 1) c3) ho9 (by omega))
                clear d2 d3 d4 d5 e2 e5
                go_wp2
                go_roundw
                case rel => exact ⟨k - 1, m + 1, A3, c3, L ++ [x8], by omega, by go_num, Lib.hid (HMF.out.mono (by omega)), HOF, HZ9, HMF.out.1.lt⟩
                case measure => simp [intOf]; omega
          · obtain rfl : k = 0 := by omega
            have hOl := HO.out.len
            obtain ⟨K1, K2, ⟨rx, ry, rz, K3⟩, K4, K5, K6⟩ := HM.out
            have kc0 := K1.cell 0; have kc1 := K1.cell 1; have kc2 := K1.cell 2
            have kd0 := K3.cell 0; have kd1 := K3.cell 1; have kd2 := K3.cell 2
            have kf0 := K3.frozen 0; have kf1 := K3.frozen 1; have kf2 := K3.frozen 2
            simp only [List.getElem?_cons_zero, List.getElem?_cons_succ] at kc0 kc1 kc2 kd0 kd1 kd2
            have Z := ((K3.set_ 0 (.string nm)).set_ 1 (.int .i64 (st : Int))).set_ 2 (.slice A2 (m) c2)
            have y0 := Z.cell 0; have y1 := Z.cell 1; have y2 := Z.cell 2
            simp only [List.set_cons_zero, List.set_cons_succ, List.getElem?_cons_zero, List.getElem?_cons_succ] at y0 y1 y2
            have HK := Lib.hid K2; have HGR := Lib.hid K4
            clear K1 K2 K3 K4 Z
            go_wp2_with fail
            refine bodyPost_ret (v := .agg #[.string nm, .int .i64 (st : Int), .slice A2 (m) c2]) (by simp [results, Try.results186, go_sem, y0, y1, y2]) rfl ?_
            exact fin.out _ _ _ _ _ _ HGR.out (HK.out.mono (by omega)) HO.out (by omega) (by omega) HZ.out (grownBy_trans (grownBy_trans (only_set _ (p := ⟨w.heap.size, 0, none⟩) _) (only_set _ (p := ⟨w.heap.size, 1, none⟩) _)) (only_set _ (p := ⟨w.heap.size, 2, none⟩) _))
      · go_wp2_with fail
        refine (cur_pick HS.out (G.out _ HM6.out.2.2.2.1) hp HM6.out.2.1 (by omega) (by decide) (by decide)).mono ?_; rintro e w7 ⟨x, rfl, ⟨x0, x1⟩, hc7, hg7⟩
        have HM7 := Lib.hid (HM6.out.draw hg7 hc7)
        obtain ⟨X, rfl⟩ := Int.eq_ofNat_of_zero_le x0
        have hX : X ≤ 3 := by omega
        clear hc7 hg7 x0 x1
        go_wp2
        go_loopw [6, 7] (fun v i wr => ∃ (k m : Nat) (A' : Option Addr) (c' : Nat) (H : List ByteArray), k + m = X + 1 ∧ i = .int .i64 k ∧ v = .slice A' m c' ∧ Hid (MSt w wr p A n c (a + 10 + m) w3.heap.size nm st (.slice none 0 0)) ∧ Hid (Owned strE 1 9 wr (w3.heap.size + 1) A' m c' H) ∧ Hid (∀ x ∈ H, goodChange st x = true) ∧ w3.heap.size < wr.heap.size) (fun _ i _ => (intOf i).toNat)
        case atStart => exact ⟨X + 1, 0, none, 0, [], rfl, by go_num, rfl, Lib.hid (HM7.out.mono (by omega)), Lib.hid (Owned.nil strE_len _ _ _), Lib.hid (fun s hs => by cases hs), HM7.out.1.lt⟩
        case round =>
          obtain ⟨k, m, A2, c2, H, hkm, rfl, rfl, HM, HO, HZ, hbr⟩ := hrel
          rename World => wr
          by_cases h0 : 0 < k
          · have hI : (0 : Int) < (k : Int) := by omega
            have hOl := HO.out.len
            go_wp2_with fail
            refine (cur_change HS.out (G.out _ HM.out.2.2.2.1) hp HM.out.2.1 (by omega) (by omega) (by omega)).mono ?_; rintro e w8 ⟨x8, rfl, gx8, zx8, hc8, hg8⟩
            have HM8 := Lib.hid (HM.out.draw hg8 hc8)
            have HO8 := Lib.hid (HO.out.past hg8 (by have := HM.out.2.2.2.2; omega))
            have hs8 := HM8.out.1.lt
            have HZ9 := Lib.hid (good_snoc HZ.out gx8)
            clear hc8 hg8
            go_wp2_with (first | (at_builtin; go_must ((refine wpList_append_recs Try.elStr strE_one rfl (.tmp 60) (.tmp 64) rfl rfl (HO8.out.alloc _) rfl (own_lit1_at' strE_len _ 9 x8 rfl (Nat.le_refl _)).recs rfl ?_ (by decide) ?_ ?_; (focus (first | omega | (simp only [World.size_alloc]; done) | (simp only [World.size_alloc]; omega) | (simp; done) | (simp; omega))); (simp; omega); intro A3 c3 w9 ho9 hg9 hl9; have HM9 := Lib.hid ((HM8.out.alloc (.cells ⟨[Value.string x8]⟩ 9)).grown hg9 (fun k hk => by have := (HO8.out.blk hk).1; omega))))))
            go_roundw
            case rel => exact ⟨k - 1, m + 1, A3, c3, H ++ [x8], by omega, by go_num, rfl, Lib.hid (HM9.out.mono (by omega)), Lib.hid ho9, HZ9, HM9.out.1.lt⟩
            case measure => simp [intOf]; omega
          · obtain rfl : k = 0 := by omega
            have hHl := HO.out.len
            obtain ⟨gH, rfl, gH0, gH1, _, _⟩ := HO.out.at_ (by omega)
            have HR := Lib.hid HO.out.recs
            have HG := Lib.hid HZ.out
            go_wp2_with fail
            refine (spec_l1OwnS hHl HR.out (by omega)).mono ?_; rintro e w8 ⟨A3, c3, rfl, ho3, hb3⟩
            have HM3 := Lib.hid (HM.out.up hb3)
            have HR3 := Lib.hid (HR.out.up hb3)
            have hs3 := hb3.size
            clear hb3
            go_wp2_with fail
            refine (cur_change HS.out (G.out _ HM3.out.2.2.2.1) hp HM3.out.2.1 (by omega) (by omega) (by omega)).mono ?_; rintro e w9 ⟨x9, rfl, gx9, zx9, hc9, hg9⟩
            have hpb := HM3.out.2.2.2.2
            have HM4 := Lib.hid (HM3.out.draw hg9 hc9)
            have HO4 := Lib.hid (ho3.past hg9 (by omega))
            have HR4 := Lib.hid (strs_grown HR3.out hg9 (fun e => by injection e with e; omega))
            have hs9 := hg9.size
            have HZ4 := Lib.hid (good_snoc HZ.out gx9)
            have HML := Lib.hid (HM4.out.alloc (.cells ⟨[Value.string x9]⟩ 9))
            have HRL := Lib.hid (HR4.out.alloc (.cells ⟨[Value.string x9]⟩ 9))
            have hs9' : wr.heap.size ≤ (w9.alloc (.cells ⟨[Value.string x9]⟩ 9)).heap.size := by simp; omega
            obtain ⟨wb, hwb⟩ : ∃ b, b = wr.heap.size := ⟨_, rfl⟩
            rw [← hwb] at ho3 HO4 gH1 hs3 hs9' 
            clear hc9 hg9 ho3 HM3 HR3
            go_wp2_with (first | (at_builtin; go_must ((refine wpList_append_recs Try.elStr strE_one rfl (.tmp 67) (.tmp 71) rfl rfl (HO4.out.alloc _) rfl (own_lit1_at' strE_len _ 9 x9 rfl (Nat.le_refl _)).recs rfl ?_ (by decide) ?_ ?_; (focus (first | omega | (simp only [World.size_alloc]; done) | (simp only [World.size_alloc]; omega) | (simp; done) | (simp; omega))); (simp; omega); intro A5 c5 w10 ho5 hg5 hl5; have HM5 := Lib.hid (HML.out.grown hg5 (fun k hk => by have := (HO4.out.blk hk).1; omega)); have HR5 := Lib.hid (strs_grown HRL.out hg5 (fun e => by have := (HO4.out.blk e.symm).1; omega)); have g2 := HM5.out.1.cell 2; have e2 := HM5.out.1.frozen 2; simp only [List.getElem?_cons_zero, List.getElem?_cons_succ] at g2; have HMF := Lib.hid (HM5.out.put (v' := .slice A5 (m + 1) c5)); have HOF := Lib.hid (own_put (b := w3.heap.size) (v' := .slice A5 (m + 1) c5) ho5 (by omega)); have HRF := Lib.hid (strs_grown HR5.out (only_set w10 (p := ⟨w3.heap.size, 2, none⟩) (.slice A5 (m + 1) c5)) (fun e => by injection e with e; dsimp only at e; omega))))))
            obtain ⟨w11, hw11⟩ : ∃ u, u = w10.setCell ⟨w3.heap.size, 2, none⟩ (.slice A5 (m + 1) c5) := ⟨_, rfl⟩
            rw [← hw11] at HMF HOF HRF ⊢
            have hB4 : w3.heap.size < wb := by omega
            have hs11 : wb ≤ w11.heap.size := by have := hg5.size; rw [hw11]; simp at this ⊢; omega
            clear hw11 ho5 hg5 hl5 HM5 HR5 g2 e2 HM4 HO4 HR4 HML HRL
            go_wp2
            go_loopw [8] (fun i wr => ∃ (k q : Nat) (A' : Option Addr) (c' : Nat) (L : List ByteArray), k + q = m ∧ i = .int .i64 ((k : Int) - 1) ∧ Hid (MSt w wr p A n c (a + 20 + m) w3.heap.size nm st (.slice A' (m + 1 + q) c')) ∧ Hid (Owned strE 1 9 wr wb A' (m + 1 + q) c' L) ∧ Hid (∀ x ∈ L, goodChange st x = true) ∧ Hid (Strs wr (some ⟨gH, 0, none⟩) H) ∧ wb ≤ wr.heap.size) (fun i _ => (intOf i + 1).toNat)
            case atStart => exact ⟨m, 0, A5, c5, H ++ [x9], rfl, by go_num, Lib.hid (HMF.out.mono (by omega)), HOF, HZ4, HRF, hs11⟩
            case round =>
              obtain ⟨k, q, A2, c2, L, hkq, rfl, HM, HO, HZ, HR, hsr⟩ := hrel
              rename World => wr
              have hOl := HO.out.len
              rcases k with _ | k
              · rw [show (((0 : Nat) : Int) - 1) = -1 by omega]
                obtain rfl : q = m := by omega
                go_upto_region 23 with fail
                obtain ⟨K1, _, _, _, K5, K6⟩ := HM.out
                have d2 := K1.cell 2; have e2 := K1.frozen 2
                simp only [List.getElem?_cons_zero, List.getElem?_cons_succ] at d2
                clear K1
                refine wp_region_any (by kernel_rfl) ?_
                (try (change wpAny _ _ _ _ _ _ _ (World.drew _)))
                refine wpAny_take (i := 0) (oi := { dst := some 90, op := _, type := _, pos := _, after := _, guard := _ }) (v := ?_) rfl (by kernel_rfl) (by kernel_rfl) (by kernel_rfl) (fun _ _ _ h => h) (Or.inl ⟨by rfl, ?_⟩) ?_
                rotate_left
                · (intro w; go_simp) <;> with_reducible rfl
                (try simp only [Act.put, List.setIfInBounds_toArray, List.set_cons_zero, List.set_cons_succ])
                refine wpAny_take (i := 2) (oi := { dst := some 92, op := _, type := _, pos := _, after := _, guard := _ }) (v := ?_) rfl (by kernel_rfl) (by kernel_rfl) (by kernel_rfl) (fun _ _ _ h => h) (Or.inl ⟨by rfl, ?_⟩) ?_
                rotate_left
                · (intro w; go_simp) <;> with_reducible rfl
                (try simp only [Act.put, List.setIfInBounds_toArray, List.set_cons_zero, List.set_cons_succ])
                refine wpAny_take (i := 3) (oi := { dst := some 93, op := _, type := _, pos := _, after := _, guard := _ }) (v := ?_) rfl (by kernel_rfl) (by kernel_rfl) (by kernel_rfl) (fun _ _ _ h => h) (Or.inl ⟨by rfl, ?_⟩) ?_
                rotate_left
                · (intro w; go_simp) <;> with_reducible rfl
                (try simp only [Act.put, List.setIfInBounds_toArray, List.set_cons_zero, List.set_cons_succ])
                refine wpAny_ready (rs := [1, 4]) (by kernel_rfl) (by simp) ?_
                refine AllReady.cons (o := _) rfl (fun K hK => ?_) (AllReady.cons (o := _) rfl (fun K hK => ?_) (AllReady.nil))
                · go_simp
                  (try (refine hK _ _ ?_; clear hK K))
                  (try simp only [Act.put, List.setIfInBounds_toArray, List.set_cons_zero, List.set_cons_succ])
                  refine wpAny_ready (rs := [4]) (by kernel_rfl) (by simp) ?_
                  refine AllReady.cons (o := _) rfl (fun K hK => ?_) (AllReady.nil)
                  go_simp
                  refine (cur_change HS.out (G.out _ HM.out.drew.2.2.2.1) hp HM.out.drew.2.1 (by omega) (by omega) (by omega)).mono ?_; rintro e w8 ⟨x8, rfl, gx8, zx8, hc8, hg8⟩
                  have HM8 := Lib.hid (HM.out.drew.draw hg8 hc8)
                  have HO8 := Lib.hid ((HO.out.up (below_drewN (Below.refl _ _) 1)).past hg8 (by omega))
                  have d3 := HM8.out.1.cell 2
                  simp only [List.getElem?_cons_zero, List.getElem?_cons_succ] at d3
                  have d4 := (HM8.out.alloc (.cells #[.string x8] 9)).1.cell 2
                  simp only [List.getElem?_cons_zero, List.getElem?_cons_succ] at d4
                  try go_wp2_with fail
                  (try (refine hK _ _ ?_; clear hK K))
                  (try simp only [Act.put, List.setIfInBounds_toArray, List.set_cons_zero, List.set_cons_succ])
                  refine wpAny_ready (rs := [5]) (by kernel_rfl) (by simp) ?_
                  refine AllReady.cons (o := _) rfl (fun K hK => ?_) (AllReady.nil)
                  go_simp
                  (try (refine hK _ _ ?_; clear hK K))
                  (try simp only [Act.put, List.setIfInBounds_toArray, List.set_cons_zero, List.set_cons_succ])
                  refine wpAny_ready (rs := [6]) (by kernel_rfl) (by simp) ?_
                  refine AllReady.cons (o := _) rfl (fun K hK => ?_) (AllReady.nil)
                  refine step_append_rec Try.elStr (by rfl) _ _ (by rfl) (by rfl) (HO8.out.alloc _) x8 (by rfl) (Box.at_ _ [.string x8] _ (by rfl)) (strE_one _) (by omega) (by decide) (by have h1 := HM8.out.1.lt; have h2 := hg8.size; simp at h2 ⊢; omega) ?_
                  intro A3 c3 w9 ho9 hg9 hb9
                  have HM9 := Lib.hid ((HM8.out.alloc (.cells #[.string x8] 9)).grown hg9 (fun k hk => by have := (HO8.out.blk hk).1; omega))
                  have d5 := HM9.out.1.cell 2; have e5 := HM9.out.1.frozen 2
                  simp only [List.getElem?_cons_zero, List.getElem?_cons_succ] at d5
                  (try (refine hK _ _ ?_; clear hK K))
                  (try simp only [Act.put, List.setIfInBounds_toArray, List.set_cons_zero, List.set_cons_succ])
                  refine wpAny_ready (rs := [7]) (by kernel_rfl) (by simp) ?_
                  refine AllReady.cons (o := _) rfl (fun K hK => ?_) (AllReady.nil)
                  go_simp
                  (try (refine hK _ _ ?_; clear hK K))
                  (try simp only [Act.put, List.setIfInBounds_toArray, List.set_cons_zero, List.set_cons_succ])
                  refine wpAny_ready (rs := [8]) (by kernel_rfl) (by simp) ?_
                  refine AllReady.cons (o := _) rfl (fun K hK => ?_) (AllReady.nil)
                  go_simp
                  (try (refine hK _ _ ?_; clear hK K))
                  (try simp only [Act.put, List.setIfInBounds_toArray, List.set_cons_zero, List.set_cons_succ])
                  refine wpAny_done (by kernel_rfl) ?_ _
                  (try simp only [Act.put, List.setIfInBounds_toArray, List.set_cons_zero, List.set_cons_succ])
                  have HZ := Lib.hid (good_snoc HZ.out gx8)
                  have HM := Lib.hid (HM9.out.put (v' := .slice A3 (q + 1 + q + 1) c3))
                  have HO := Lib.hid ((own_put (b := w3.heap.size) (v' := .slice A3 (q + 1 + q + 1) c3) ho9 (by omega)).base_le (show w3.heap.size + 1 ≤ wb by omega))
                  clear d2 d3 d4 d5 e2 e5 HM8 HO8 HM9 ho9 hg9 hb9 hc8 hg8 K5 K6
                  obtain ⟨K1, K2, ⟨rx, ry, rz, K3⟩, K4, K5, K6⟩ := HM.out
                  have kc0 := K1.cell 0; have kc1 := K1.cell 1; have kc2 := K1.cell 2
                  have kd0 := K3.cell 0; have kd1 := K3.cell 1; have kd2 := K3.cell 2
                  have kf0 := K3.frozen 0; have kf1 := K3.frozen 1; have kf2 := K3.frozen 2
                  simp only [List.getElem?_cons_zero, List.getElem?_cons_succ] at kc0 kc1 kc2 kd0 kd1 kd2
                  have Z := ((K3.set_ 0 (.string nm)).set_ 1 (.int .i64 (st : Int))).set_ 2 (.slice A3 (q + 1 + q + 1) c3)
                  have y0 := Z.cell 0; have y1 := Z.cell 1; have y2 := Z.cell 2
                  simp only [List.set_cons_zero, List.set_cons_succ, List.getElem?_cons_zero, List.getElem?_cons_succ] at y0 y1 y2
                  have HK := Lib.hid K2; have HGR := Lib.hid K4
                  clear K1 K2 K3 K4 Z
                  go_wp2_with fail
                  refine bodyPost_ret (v := .agg #[.string nm, .int .i64 (st : Int), .slice A3 (q + 1 + q + 1) c3]) (by simp [results, Try.results186, go_sem, y0, y1, y2]) rfl ?_
                  exact fin.out _ _ _ _ _ _ HGR.out (HK.out.mono (by omega)) HO.out (by omega) (by omega) HZ.out (grownBy_trans (grownBy_trans (only_set _ (p := ⟨w.heap.size, 0, none⟩) _) (only_set _ (p := ⟨w.heap.size, 1, none⟩) _)) (only_set _ (p := ⟨w.heap.size, 2, none⟩) _))
                · go_simp
                  refine (cur_change HS.out (G.out _ HM.out.drew.2.2.2.1) hp HM.out.drew.2.1 (by omega) (by omega) (by omega)).mono ?_; rintro e w8 ⟨x8, rfl, gx8, zx8, hc8, hg8⟩
                  have HM8 := Lib.hid (HM.out.drew.draw hg8 hc8)
                  have HO8 := Lib.hid ((HO.out.up (below_drewN (Below.refl _ _) 1)).past hg8 (by omega))
                  have d3 := HM8.out.1.cell 2
                  simp only [List.getElem?_cons_zero, List.getElem?_cons_succ] at d3
                  have d4 := (HM8.out.alloc (.cells #[.string x8] 9)).1.cell 2
                  simp only [List.getElem?_cons_zero, List.getElem?_cons_succ] at d4
                  try go_wp2_with fail
                  (try (refine hK _ _ ?_; clear hK K))
                  (try simp only [Act.put, List.setIfInBounds_toArray, List.set_cons_zero, List.set_cons_succ])
                  refine wpAny_ready (rs := [1, 5]) (by kernel_rfl) (by simp) ?_
                  refine AllReady.cons (o := _) rfl (fun K hK => ?_) (AllReady.cons (o := _) rfl (fun K hK => ?_) (AllReady.nil))
                  · go_simp
                    (try (refine hK _ _ ?_; clear hK K))
                    (try simp only [Act.put, List.setIfInBounds_toArray, List.set_cons_zero, List.set_cons_succ])
                    refine wpAny_ready (rs := [5]) (by kernel_rfl) (by simp) ?_
                    refine AllReady.cons (o := _) rfl (fun K hK => ?_) (AllReady.nil)
                    go_simp
                    (try (refine hK _ _ ?_; clear hK K))
                    (try simp only [Act.put, List.setIfInBounds_toArray, List.set_cons_zero, List.set_cons_succ])
                    refine wpAny_ready (rs := [6]) (by kernel_rfl) (by simp) ?_
                    refine AllReady.cons (o := _) rfl (fun K hK => ?_) (AllReady.nil)
                    refine step_append_rec Try.elStr (by rfl) _ _ (by rfl) (by rfl) (HO8.out.alloc _) x8 (by rfl) (Box.at_ _ [.string x8] _ (by rfl)) (strE_one _) (by omega) (by decide) (by have h1 := HM8.out.1.lt; have h2 := hg8.size; simp at h2 ⊢; omega) ?_
                    intro A3 c3 w9 ho9 hg9 hb9
                    have HM9 := Lib.hid ((HM8.out.alloc (.cells #[.string x8] 9)).grown hg9 (fun k hk => by have := (HO8.out.blk hk).1; omega))
                    have d5 := HM9.out.1.cell 2; have e5 := HM9.out.1.frozen 2
                    simp only [List.getElem?_cons_zero, List.getElem?_cons_succ] at d5
                    (try (refine hK _ _ ?_; clear hK K))
                    (try simp only [Act.put, List.setIfInBounds_toArray, List.set_cons_zero, List.set_cons_succ])
                    refine wpAny_ready (rs := [7]) (by kernel_rfl) (by simp) ?_
                    refine AllReady.cons (o := _) rfl (fun K hK => ?_) (AllReady.nil)
                    go_simp
                    (try (refine hK _ _ ?_; clear hK K))
                    (try simp only [Act.put, List.setIfInBounds_toArray, List.set_cons_zero, List.set_cons_succ])
                    refine wpAny_ready (rs := [8]) (by kernel_rfl) (by simp) ?_
                    refine AllReady.cons (o := _) rfl (fun K hK => ?_) (AllReady.nil)
                    go_simp
                    (try (refine hK _ _ ?_; clear hK K))
                    (try simp only [Act.put, List.setIfInBounds_toArray, List.set_cons_zero, List.set_cons_succ])
                    refine wpAny_done (by kernel_rfl) ?_ _
                    (try simp only [Act.put, List.setIfInBounds_toArray, List.set_cons_zero, List.set_cons_succ])
                    have HZ := Lib.hid (good_snoc HZ.out gx8)
                    have HM := Lib.hid (HM9.out.put (v' := .slice A3 (q + 1 + q + 1) c3))
                    have HO := Lib.hid ((own_put (b := w3.heap.size) (v' := .slice A3 (q + 1 + q + 1) c3) ho9 (by omega)).base_le (show w3.heap.size + 1 ≤ wb by omega))
                    clear d2 d3 d4 d5 e2 e5 HM8 HO8 HM9 ho9 hg9 hb9 hc8 hg8 K5 K6
                    obtain ⟨K1, K2, ⟨rx, ry, rz, K3⟩, K4, K5, K6⟩ := HM.out
                    have kc0 := K1.cell 0; have kc1 := K1.cell 1; have kc2 := K1.cell 2
                    have kd0 := K3.cell 0; have kd1 := K3.cell 1; have kd2 := K3.cell 2
                    have kf0 := K3.frozen 0; have kf1 := K3.frozen 1; have kf2 := K3.frozen 2
                    simp only [List.getElem?_cons_zero, List.getElem?_cons_succ] at kc0 kc1 kc2 kd0 kd1 kd2
                    have Z := ((K3.set_ 0 (.string nm)).set_ 1 (.int .i64 (st : Int))).set_ 2 (.slice A3 (q + 1 + q + 1) c3)
                    have y0 := Z.cell 0; have y1 := Z.cell 1; have y2 := Z.cell 2
                    simp only [List.set_cons_zero, List.set_cons_succ, List.getElem?_cons_zero, List.getElem?_cons_succ] at y0 y1 y2
                    have HK := Lib.hid K2; have HGR := Lib.hid K4
                    clear K1 K2 K3 K4 Z
                    go_wp2_with fail
                    refine bodyPost_ret (v := .agg #[.string nm, .int .i64 (st : Int), .slice A3 (q + 1 + q + 1) c3]) (by simp [results, Try.results186, go_sem, y0, y1, y2]) rfl ?_
                    exact fin.out _ _ _ _ _ _ HGR.out (HK.out.mono (by omega)) HO.out (by omega) (by omega) HZ.out (grownBy_trans (grownBy_trans (only_set _ (p := ⟨w.heap.size, 0, none⟩) _) (only_set _ (p := ⟨w.heap.size, 1, none⟩) _)) (only_set _ (p := ⟨w.heap.size, 2, none⟩) _))
                  · go_simp
                    (try (refine hK _ _ ?_; clear hK K))
                    (try simp only [Act.put, List.setIfInBounds_toArray, List.set_cons_zero, List.set_cons_succ])
                    refine wpAny_ready (rs := [1]) (by kernel_rfl) (by simp) ?_
                    refine AllReady.cons (o := _) rfl (fun K hK => ?_) (AllReady.nil)
                    go_simp
                    (try (refine hK _ _ ?_; clear hK K))
                    (try simp only [Act.put, List.setIfInBounds_toArray, List.set_cons_zero, List.set_cons_succ])
                    refine wpAny_ready (rs := [6]) (by kernel_rfl) (by simp) ?_
                    refine AllReady.cons (o := _) rfl (fun K hK => ?_) (AllReady.nil)
                    refine step_append_rec Try.elStr (by rfl) _ _ (by rfl) (by rfl) (HO8.out.alloc _) x8 (by rfl) (Box.at_ _ [.string x8] _ (by rfl)) (strE_one _) (by omega) (by decide) (by have h1 := HM8.out.1.lt; have h2 := hg8.size; simp at h2 ⊢; omega) ?_
                    intro A3 c3 w9 ho9 hg9 hb9
                    have HM9 := Lib.hid ((HM8.out.alloc (.cells #[.string x8] 9)).grown hg9 (fun k hk => by have := (HO8.out.blk hk).1; omega))
                    have d5 := HM9.out.1.cell 2; have e5 := HM9.out.1.frozen 2
                    simp only [List.getElem?_cons_zero, List.getElem?_cons_succ] at d5
                    (try (refine hK _ _ ?_; clear hK K))
                    (try simp only [Act.put, List.setIfInBounds_toArray, List.set_cons_zero, List.set_cons_succ])
                    refine wpAny_ready (rs := [7]) (by kernel_rfl) (by simp) ?_
                    refine AllReady.cons (o := _) rfl (fun K hK => ?_) (AllReady.nil)
                    go_simp
                    (try (refine hK _ _ ?_; clear hK K))
                    (try simp only [Act.put, List.setIfInBounds_toArray, List.set_cons_zero, List.set_cons_succ])
                    refine wpAny_ready (rs := [8]) (by kernel_rfl) (by simp) ?_
                    refine AllReady.cons (o := _) rfl (fun K hK => ?_) (AllReady.nil)
                    go_simp
                    (try (refine hK _ _ ?_; clear hK K))
                    (try simp only [Act.put, List.setIfInBounds_toArray, List.set_cons_zero, List.set_cons_succ])
                    refine wpAny_done (by kernel_rfl) ?_ _
                    (try simp only [Act.put, List.setIfInBounds_toArray, List.set_cons_zero, List.set_cons_succ])
                    have HZ := Lib.hid (good_snoc HZ.out gx8)
                    have HM := Lib.hid (HM9.out.put (v' := .slice A3 (q + 1 + q + 1) c3))
                    have HO := Lib.hid ((own_put (b := w3.heap.size) (v' := .slice A3 (q + 1 + q + 1) c3) ho9 (by omega)).base_le (show w3.heap.size + 1 ≤ wb by omega))
                    clear d2 d3 d4 d5 e2 e5 HM8 HO8 HM9 ho9 hg9 hb9 hc8 hg8 K5 K6
                    obtain ⟨K1, K2, ⟨rx, ry, rz, K3⟩, K4, K5, K6⟩ := HM.out
                    have kc0 := K1.cell 0; have kc1 := K1.cell 1; have kc2 := K1.cell 2
                    have kd0 := K3.cell 0; have kd1 := K3.cell 1; have kd2 := K3.cell 2
                    have kf0 := K3.frozen 0; have kf1 := K3.frozen 1; have kf2 := K3.frozen 2
                    simp only [List.getElem?_cons_zero, List.getElem?_cons_succ] at kc0 kc1 kc2 kd0 kd1 kd2
                    have Z := ((K3.set_ 0 (.string nm)).set_ 1 (.int .i64 (st : Int))).set_ 2 (.slice A3 (q + 1 + q + 1) c3)
                    have y0 := Z.cell 0; have y1 := Z.cell 1; have y2 := Z.cell 2
                    simp only [List.set_cons_zero, List.set_cons_succ, List.getElem?_cons_zero, List.getElem?_cons_succ] at y0 y1 y2
                    have HK := Lib.hid K2; have HGR := Lib.hid K4
                    clear K1 K2 K3 K4 Z
                    go_wp2_with fail
                    refine bodyPost_ret (v := .agg #[.string nm, .int .i64 (st : Int), .slice A3 (q + 1 + q + 1) c3]) (by simp [results, Try.results186, go_sem, y0, y1, y2]) rfl ?_
                    exact fin.out _ _ _ _ _ _ HGR.out (HK.out.mono (by omega)) HO.out (by omega) (by omega) HZ.out (grownBy_trans (grownBy_trans (only_set _ (p := ⟨w.heap.size, 0, none⟩) _) (only_set _ (p := ⟨w.heap.size, 1, none⟩) _)) (only_set _ (p := ⟨w.heap.size, 2, none⟩) _))
              · rw [show (((k + 1 : Nat) : Int) - 1) = (k : Int) by omega]
                have hI : (0 : Int) ≤ (k : Int) := by omega
                obtain ⟨b3, o3, y, hA, hbb, hy, hcy⟩ := HR.out.at_str (k := k) (by omega)
                injection hA with hA
                injection hA with e1 e2 _
                subst e1 e2
                have gy := HG.out y (List.mem_of_getElem? hy)
                obtain ⟨K1, _, _, _, K5, K6⟩ := HM.out
                have d2 := K1.cell 2; have e2 := K1.frozen 2
                have d4 := (HM.out.alloc (.cells #[.string y] 9)).1.cell 2
                have hJ : (k : Int) < (m : Int) := by omega
                simp only [List.getElem?_cons_zero, List.getElem?_cons_succ, Nat.zero_add] at d2 d4 hcy
                have HO8 := Lib.hid (HO.out.up (below_drewN (Below.refl _ _) 1))
                clear K1 hy
                go_upto_region 22 with fail
                refine wp_region_any (by kernel_rfl) ?_
                (try (change wpAny _ _ _ _ _ _ _ (World.drew _)))
                refine wpAny_take (i := 0) (oi := { dst := some 81, op := _, type := _, pos := _, after := _, guard := _ }) (v := ?_) rfl (by kernel_rfl) (by kernel_rfl) (by kernel_rfl) (fun _ _ _ h => h) (Or.inl ⟨by rfl, ?_⟩) ?_
                rotate_left
                · (intro w; go_simp) <;> with_reducible rfl
                (try simp only [Act.put, List.setIfInBounds_toArray, List.set_cons_zero, List.set_cons_succ])
                refine wpAny_take (i := 2) (oi := { dst := some 83, op := _, type := _, pos := _, after := _, guard := _ }) (v := ?_) rfl (by kernel_rfl) (by kernel_rfl) (by kernel_rfl) (fun _ _ _ h => h) (Or.inl ⟨by rfl, ?_⟩) ?_
                rotate_left
                · (intro w; go_simp) <;> with_reducible rfl
                (try simp only [Act.put, List.setIfInBounds_toArray, List.set_cons_zero, List.set_cons_succ])
                refine wpAny_take (i := 3) (oi := { dst := some 84, op := _, type := _, pos := _, after := _, guard := _ }) (v := ?_) rfl (by kernel_rfl) (by kernel_rfl) (by kernel_rfl) (fun _ _ _ h => h) (Or.inl ⟨by rfl, ?_⟩) ?_
                rotate_left
                · (intro w; go_simp) <;> with_reducible rfl
                (try simp only [Act.put, List.setIfInBounds_toArray, List.set_cons_zero, List.set_cons_succ])
                refine wpAny_take (i := 4) (oi := { dst := some 85, op := _, type := _, pos := _, after := _, guard := _ }) (v := ?_) rfl (by kernel_rfl) (by kernel_rfl) (by kernel_rfl) (fun _ _ _ h => h) (Or.inl ⟨by rfl, ?_⟩) ?_
                rotate_left
                · (intro w; go_simp) <;> with_reducible rfl
                (try simp only [Act.put, List.setIfInBounds_toArray, List.set_cons_zero, List.set_cons_succ])
                refine wpAny_ready (rs := [1, 5]) (by kernel_rfl) (by simp) ?_
                refine AllReady.cons (o := _) rfl (fun K hK => ?_) (AllReady.cons (o := _) rfl (fun K hK => ?_) (AllReady.nil))
                · go_simp
                  (try (refine hK _ _ ?_; clear hK K))
                  (try simp only [Act.put, List.setIfInBounds_toArray, List.set_cons_zero, List.set_cons_succ])
                  refine wpAny_ready (rs := [5]) (by kernel_rfl) (by simp) ?_
                  refine AllReady.cons (o := _) rfl (fun K hK => ?_) (AllReady.nil)
                  go_simp
                  (try (refine hK _ _ ?_; clear hK K))
                  (try simp only [Act.put, List.setIfInBounds_toArray, List.set_cons_zero, List.set_cons_succ])
                  refine wpAny_ready (rs := [6]) (by kernel_rfl) (by simp) ?_
                  refine AllReady.cons (o := _) rfl (fun K hK => ?_) (AllReady.nil)
                  go_simp
                  (try (refine hK _ _ ?_; clear hK K))
                  (try simp only [Act.put, List.setIfInBounds_toArray, List.set_cons_zero, List.set_cons_succ])
                  refine wpAny_ready (rs := [7]) (by kernel_rfl) (by simp) ?_
                  refine AllReady.cons (o := _) rfl (fun K hK => ?_) (AllReady.nil)
                  refine step_append_rec Try.elStr (by rfl) _ _ (by rfl) (by rfl) (HO8.out.alloc _) y (by rfl) (Box.at_ _ [.string y] _ (by rfl)) (strE_one _) (by omega) (by decide) (by simp; omega) ?_
                  intro A3 c3 w9 ho9 hg9 hb9
                  have HM9 := Lib.hid ((HM.out.drew.alloc (.cells #[.string y] 9)).grown hg9 (fun k hk => by have := (HO8.out.blk hk).1; omega))
                  have HR9 := Lib.hid (strs_grown ((HR.out.up (below_drewN (Below.refl _ _) 1)).alloc (.cells #[.string y] 9)) hg9 (fun e => by have := (HO8.out.blk e.symm).1; omega))
                  have d5 := HM9.out.1.cell 2; have e5 := HM9.out.1.frozen 2
                  simp only [List.getElem?_cons_zero, List.getElem?_cons_succ] at d5
                  (try (refine hK _ _ ?_; clear hK K))
                  (try simp only [Act.put, List.setIfInBounds_toArray, List.set_cons_zero, List.set_cons_succ])
                  refine wpAny_ready (rs := [8]) (by kernel_rfl) (by simp) ?_
                  refine AllReady.cons (o := _) rfl (fun K hK => ?_) (AllReady.nil)
                  go_simp
                  (try (refine hK _ _ ?_; clear hK K))
                  (try simp only [Act.put, List.setIfInBounds_toArray, List.set_cons_zero, List.set_cons_succ])
                  refine wpAny_ready (rs := [9]) (by kernel_rfl) (by simp) ?_
                  refine AllReady.cons (o := _) rfl (fun K hK => ?_) (AllReady.nil)
                  go_simp
                  (try (refine hK _ _ ?_; clear hK K))
                  (try simp only [Act.put, List.setIfInBounds_toArray, List.set_cons_zero, List.set_cons_succ])
                  refine wpAny_done (by kernel_rfl) ?_ _
                  (try simp only [Act.put, List.setIfInBounds_toArray, List.set_cons_zero, List.set_cons_succ])
                  have HZ9 := Lib.hid (good_snoc HZ.out gy)
                  have HMF := Lib.hid (HM9.out.put (v' := .slice A3 (m + 1 + q + 1) c3))
                  have HOF := Lib.hid (own_put (b := w3.heap.size) (v' := .slice A3 (m + 1 + q + 1) c3) ho9 (by omega))
                  have HRF := Lib.hid (strs_grown HR9.out (only_set w9 (p := ⟨w3.heap.size, 2, none⟩) (.slice A3 (m + 1 + q + 1) c3)) (fun e => by injection e with e; dsimp only at e; omega))
                  have hs12 : wb ≤ (w9.setCell ⟨w3.heap.size, 2, none⟩ (.slice A3 (m + 1 + q + 1) c3)).heap.size := by have := hg9.size; simp at this ⊢; omega
                  clear d2 d4 d5 e2 e5
                  go_wp2
                  go_roundw
                  case rel => exact ⟨k, q + 1, A3, c3, L ++ [y], by omega, by go_num, HMF, HOF, HZ9, HRF, hs12⟩
                  case measure => simp [intOf] <;> omega
                · go_simp
                  (try (refine hK _ _ ?_; clear hK K))
                  (try simp only [Act.put, List.setIfInBounds_toArray, List.set_cons_zero, List.set_cons_succ])
                  refine wpAny_ready (rs := [1, 6]) (by kernel_rfl) (by simp) ?_
                  refine AllReady.cons (o := _) rfl (fun K hK => ?_) (AllReady.cons (o := _) rfl (fun K hK => ?_) (AllReady.nil))
                  · go_simp
                    (try (refine hK _ _ ?_; clear hK K))
                    (try simp only [Act.put, List.setIfInBounds_toArray, List.set_cons_zero, List.set_cons_succ])
                    refine wpAny_ready (rs := [6]) (by kernel_rfl) (by simp) ?_
                    refine AllReady.cons (o := _) rfl (fun K hK => ?_) (AllReady.nil)
                    go_simp
                    (try (refine hK _ _ ?_; clear hK K))
                    (try simp only [Act.put, List.setIfInBounds_toArray, List.set_cons_zero, List.set_cons_succ])
                    refine wpAny_ready (rs := [7]) (by kernel_rfl) (by simp) ?_
                    refine AllReady.cons (o := _) rfl (fun K hK => ?_) (AllReady.nil)
                    refine step_append_rec Try.elStr (by rfl) _ _ (by rfl) (by rfl) (HO8.out.alloc _) y (by rfl) (Box.at_ _ [.string y] _ (by rfl)) (strE_one _) (by omega) (by decide) (by simp; omega) ?_
                    intro A3 c3 w9 ho9 hg9 hb9
                    have HM9 := Lib.hid ((HM.out.drew.alloc (.cells #[.string y] 9)).grown hg9 (fun k hk => by have := (HO8.out.blk hk).1; omega))
                    have HR9 := Lib.hid (strs_grown ((HR.out.up (below_drewN (Below.refl _ _) 1)).alloc (.cells #[.string y] 9)) hg9 (fun e => by have := (HO8.out.blk e.symm).1; omega))
                    have d5 := HM9.out.1.cell 2; have e5 := HM9.out.1.frozen 2
                    simp only [List.getElem?_cons_zero, List.getElem?_cons_succ] at d5
                    (try (refine hK _ _ ?_; clear hK K))
                    (try simp only [Act.put, List.setIfInBounds_toArray, List.set_cons_zero, List.set_cons_succ])
                    refine wpAny_ready (rs := [8]) (by kernel_rfl) (by simp) ?_
                    refine AllReady.cons (o := _) rfl (fun K hK => ?_) (AllReady.nil)
                    go_simp
                    (try (refine hK _ _ ?_; clear hK K))
                    (try simp only [Act.put, List.setIfInBounds_toArray, List.set_cons_zero, List.set_cons_succ])
                    refine wpAny_ready (rs := [9]) (by kernel_rfl) (by simp) ?_
                    refine AllReady.cons (o := _) rfl (fun K hK => ?_) (AllReady.nil)
                    go_simp
                    (try (refine hK _ _ ?_; clear hK K))
                    (try simp only [Act.put, List.setIfInBounds_toArray, List.set_cons_zero, List.set_cons_succ])
                    refine wpAny_done (by kernel_rfl) ?_ _
                    (try simp only [Act.put, List.setIfInBounds_toArray, List.set_cons_zero, List.set_cons_succ])
                    have HZ9 := Lib.hid (good_snoc HZ.out gy)
                    have HMF := Lib.hid (HM9.out.put (v' := .slice A3 (m + 1 + q + 1) c3))
                    have HOF := Lib.hid (own_put (b := w3.heap.size) (v' := .slice A3 (m + 1 + q + 1) c3) ho9 (by omega))
                    have HRF := Lib.hid (strs_grown HR9.out (only_set w9 (p := ⟨w3.heap.size, 2, none⟩) (.slice A3 (m + 1 + q + 1) c3)) (fun e => by injection e with e; dsimp only at e; omega))
                    have hs12 : wb ≤ (w9.setCell ⟨w3.heap.size, 2, none⟩ (.slice A3 (m + 1 + q + 1) c3)).heap.size := by have := hg9.size; simp at this ⊢; omega
                    clear d2 d4 d5 e2 e5
                    go_wp2
                    go_roundw
                    case rel => exact ⟨k, q + 1, A3, c3, L ++ [y], by omega, by go_num, HMF, HOF, HZ9, HRF, hs12⟩
                    case measure => simp [intOf] <;> omega
                  · go_simp
                    (try (refine hK _ _ ?_; clear hK K))
                    (try simp only [Act.put, List.setIfInBounds_toArray, List.set_cons_zero, List.set_cons_succ])
                    refine wpAny_ready (rs := [1]) (by kernel_rfl) (by simp) ?_
                    refine AllReady.cons (o := _) rfl (fun K hK => ?_) (AllReady.nil)
                    go_simp
                    (try (refine hK _ _ ?_; clear hK K))
                    (try simp only [Act.put, List.setIfInBounds_toArray, List.set_cons_zero, List.set_cons_succ])
                    refine wpAny_ready (rs := [7]) (by kernel_rfl) (by simp) ?_
                    refine AllReady.cons (o := _) rfl (fun K hK => ?_) (AllReady.nil)
                    refine step_append_rec Try.elStr (by rfl) _ _ (by rfl) (by rfl) (HO8.out.alloc _) y (by rfl) (Box.at_ _ [.string y] _ (by rfl)) (strE_one _) (by omega) (by decide) (by simp; omega) ?_
                    intro A3 c3 w9 ho9 hg9 hb9
                    have HM9 := Lib.hid ((HM.out.drew.alloc (.cells #[.string y] 9)).grown hg9 (fun k hk => by have := (HO8.out.blk hk).1; omega))
                    have HR9 := Lib.hid (strs_grown ((HR.out.up (below_drewN (Below.refl _ _) 1)).alloc (.cells #[.string y] 9)) hg9 (fun e => by have := (HO8.out.blk e.symm).1; omega))
                    have d5 := HM9.out.1.cell 2; have e5 := HM9.out.1.frozen 2
                    simp only [List.getElem?_cons_zero, List.getElem?_cons_succ] at d5
                    (try (refine hK _ _ ?_; clear hK K))
                    (try simp only [Act.put, List.setIfInBounds_toArray, List.set_cons_zero, List.set_cons_succ])
                    refine wpAny_ready (rs := [8]) (by kernel_rfl) (by simp) ?_
                    refine AllReady.cons (o := _) rfl (fun K hK => ?_) (AllReady.nil)
                    go_simp
                    (try (refine hK _ _ ?_; clear hK K))
                    (try simp only [Act.put, List.setIfInBounds_toArray, List.set_cons_zero, List.set_cons_succ])
                    refine wpAny_ready (rs := [9]) (by kernel_rfl) (by simp) ?_
                    refine AllReady.cons (o := _) rfl (fun K hK => ?_) (AllReady.nil)
                    go_simp
                    (try (refine hK _ _ ?_; clear hK K))
                    (try simp only [Act.put, List.setIfInBounds_toArray, List.set_cons_zero, List.set_cons_succ])
                    refine wpAny_done (by kernel_rfl) ?_ _
                    (try simp only [Act.put, List.setIfInBounds_toArray, List.set_cons_zero, List.set_cons_succ])
                    have HZ9 := Lib.hid (good_snoc HZ.out gy)
                    have HMF := Lib.hid (HM9.out.put (v' := .slice A3 (m + 1 + q + 1) c3))
                    have HOF := Lib.hid (own_put (b := w3.heap.size) (v' := .slice A3 (m + 1 + q + 1) c3) ho9 (by omega))
                    have HRF := Lib.hid (strs_grown HR9.out (only_set w9 (p := ⟨w3.heap.size, 2, none⟩) (.slice A3 (m + 1 + q + 1) c3)) (fun e => by injection e with e; dsimp only at e; omega))
                    have hs12 : wb ≤ (w9.setCell ⟨w3.heap.size, 2, none⟩ (.slice A3 (m + 1 + q + 1) c3)).heap.size := by have := hg9.size; simp at this ⊢; omega
                    clear d2 d4 d5 e2 e5
                    go_wp2
                    go_roundw
                    case rel => exact ⟨k, q + 1, A3, c3, L ++ [y], by omega, by go_num, HMF, HOF, HZ9, HRF, hs12⟩
                    case measure => simp [intOf] <;> omega
    · have hM5 := HM5.out
      rcases Nat.mod_two_eq_zero_or_one st with hpar | hpar
      · have hI : ¬ ((st : Int) % 2 = 1) := by omega
        have hpe : ((st : Int) % 2 == 1) = false := by simpa using hI
        go_wp2_with fail
        refine (spec_l4Hunting (N := st) (by omega) (by omega) (hunt_one st (by omega) (by omega) hpar).2.2).mono ?_; rintro e w6 ⟨A6, c6, L6, rfl, HO6, HZ6, hb6⟩
        have HM6 := hM5.up hb6
        have g2 := HM6.1.cell 2; have e2 := HM6.1.frozen 2
        have hsw : w3.heap.size < w5.heap.size := hM5.1.lt
        simp only [List.getElem?_cons_zero, List.getElem?_cons_succ] at g2
        have HM := Lib.hid (HM6.put (v' := .slice A6 (2 * st) c6))
        have HO := Lib.hid ((own_put (b := w3.heap.size) (v' := .slice A6 (2 * st) c6) HO6 (by omega)).base_le (show w3.heap.size + 1 ≤ w5.heap.size by omega))
        have HZ := Lib.hid HZ6
        obtain ⟨K1, K2, ⟨rx, ry, rz, K3⟩, K4, K5, K6⟩ := HM.out
        have kc0 := K1.cell 0; have kc1 := K1.cell 1; have kc2 := K1.cell 2
        have kd0 := K3.cell 0; have kd1 := K3.cell 1; have kd2 := K3.cell 2
        have kf0 := K3.frozen 0; have kf1 := K3.frozen 1; have kf2 := K3.frozen 2
        simp only [List.getElem?_cons_zero, List.getElem?_cons_succ] at kc0 kc1 kc2 kd0 kd1 kd2
        have Z := ((K3.set_ 0 (.string nm)).set_ 1 (.int .i64 (st : Int))).set_ 2 (.slice A6 (2 * st) c6)
        have y0 := Z.cell 0; have y1 := Z.cell 1; have y2 := Z.cell 2
        simp only [List.set_cons_zero, List.set_cons_succ, List.getElem?_cons_zero, List.getElem?_cons_succ] at y0 y1 y2
        have HK := Lib.hid K2; have HGR := Lib.hid K4
        clear K1 K2 K3 K4 Z
        go_wp2_with fail
        refine bodyPost_ret (v := .agg #[.string nm, .int .i64 (st : Int), .slice A6 (2 * st) c6]) (by simp [results, Try.results186, go_sem, y0, y1, y2]) rfl ?_
        exact fin.out _ _ _ _ _ _ HGR.out (HK.out.mono (by omega)) HO.out (by omega) (by omega) HZ.out (grownBy_trans (grownBy_trans (only_set _ (p := ⟨w.heap.size, 0, none⟩) _) (only_set _ (p := ⟨w.heap.size, 1, none⟩) _)) (only_set _ (p := ⟨w.heap.size, 2, none⟩) _))
      · have hI : (st : Int) % 2 = 1 := by omega
        have hpe : ((st : Int) % 2 == 1) = true := by simpa using hI
        have hd1 : (dig1 (st : Int)).size = 1 := rfl
        go_wp2_with fail
        refine (spec_l1Num_1 (by omega) (by omega)).mono ?_; rintro e w7 ⟨rfl, hb7⟩
        have hM7 := hM5.up hb7
        go_wp2_with fail
        refine (spec_l4Hunting (N := st) (by omega) (by omega) (hunt_two st (by omega) (by omega) hpar).2.2).mono ?_; rintro e w6 ⟨A6, c6, L6, rfl, HO6, HZ6, hb6⟩
        have HM6 := hM7.up hb6
        have g2 := HM6.1.cell 2; have e2 := HM6.1.frozen 2
        have hsw : w3.heap.size < w7.heap.size := hM7.1.lt
        simp only [List.getElem?_cons_zero, List.getElem?_cons_succ] at g2
        have HM := Lib.hid (HM6.put (v' := .slice A6 (2 * st) c6))
        have HO := Lib.hid ((own_put (b := w3.heap.size) (v' := .slice A6 (2 * st) c6) HO6 (by omega)).base_le (show w3.heap.size + 1 ≤ w7.heap.size by omega))
        have HZ := Lib.hid HZ6
        obtain ⟨K1, K2, ⟨rx, ry, rz, K3⟩, K4, K5, K6⟩ := HM.out
        have kc0 := K1.cell 0; have kc1 := K1.cell 1; have kc2 := K1.cell 2
        have kd0 := K3.cell 0; have kd1 := K3.cell 1; have kd2 := K3.cell 2
        have kf0 := K3.frozen 0; have kf1 := K3.frozen 1; have kf2 := K3.frozen 2
        simp only [List.getElem?_cons_zero, List.getElem?_cons_succ] at kc0 kc1 kc2 kd0 kd1 kd2
        have Z := ((K3.set_ 0 (.string nm)).set_ 1 (.int .i64 (st : Int))).set_ 2 (.slice A6 (2 * st) c6)
        have y0 := Z.cell 0; have y1 := Z.cell 1; have y2 := Z.cell 2
        simp only [List.set_cons_zero, List.set_cons_succ, List.getElem?_cons_zero, List.getElem?_cons_succ] at y0 y1 y2
        have HK := Lib.hid K2; have HGR := Lib.hid K4
        clear K1 K2 K3 K4 Z
        go_wp2_with fail
        refine bodyPost_ret (v := .agg #[.string nm, .int .i64 (st : Int), .slice A6 (2 * st) c6]) (by simp [results, Try.results186, go_sem, y0, y1, y2]) rfl ?_
        exact fin.out _ _ _ _ _ _ HGR.out (HK.out.mono (by omega)) HO.out (by omega) (by omega) HZ.out (grownBy_trans (grownBy_trans (only_set _ (p := ⟨w.heap.size, 0, none⟩) _) (only_set _ (p := ⟨w.heap.size, 1, none⟩) _)) (only_set _ (p := ⟨w.heap.size, 2, none⟩) _))
  · have hI4 : ¬ (4 : Int) ≤ (st : Int) := by omega
    go_wp2_with fail
    obtain ⟨w4, hw4⟩ : ∃ u, u = w3.alloc (.cells #[.string nm, .int .i64 (st : Int), .slice none 0 0] 26) := ⟨_, rfl⟩
    rw [← hw4] at M3 ⊢
    clear hw4
    have HM5 := Lib.hid (M3.mono (show a + 1 + 1 ≤ a + 1 + 1 + 1 by omega))
    clear M3
    refine (cur_one HS.out (G.out _ HM5.out.2.2.2.1) hp HM5.out.2.1 (by omega) (by decide) (by decide)).mono ?_; rintro e w6 ⟨b2, rfl, hc6, hg6⟩
    have HM6 := Lib.hid (HM5.out.draw hg6 hc6)
    clear hc6 hg6
    rcases b2
    · go_wp2_with fail
      refine (cur_pick HS.out (G.out _ HM6.out.2.2.2.1) hp HM6.out.2.1 (by omega) (by decide) (by decide)).mono ?_; rintro e w7 ⟨x, rfl, ⟨x0, x1⟩, hc7, hg7⟩
      have HM7 := Lib.hid (HM6.out.draw hg7 hc7)
      obtain ⟨X, rfl⟩ := Int.eq_ofNat_of_zero_le x0
      have hX : X ≤ 7 := by omega
      clear hc7 hg7 x0 x1
      go_wp2
      go_loopw [9] (fun i wr => ∃ (k m : Nat) (A' : Option Addr) (c' : Nat) (L : List ByteArray), k + m = X + 1 ∧ i = .int .i64 k ∧ Hid (MSt w wr p A n c (a + 10 + m) w3.heap.size nm st (.slice A' m c')) ∧ Hid (Owned strE 1 9 wr (w3.heap.size + 1) A' m c' L) ∧ Hid (∀ x ∈ L, goodChange st x = true) ∧ w3.heap.size < wr.heap.size) (fun i _ => (intOf i).toNat)
      case atStart => exact ⟨X + 1, 0, none, 0, [], rfl, by go_num, Lib.hid (HM7.out.mono (by omega)), Lib.hid (Owned.nil strE_len _ _ _), Lib.hid (fun s hs => by cases hs), HM7.out.1.lt⟩
      case round =>
        obtain ⟨k, m, A2, c2, L, hkm, rfl, HM, HO, HZ, hbr⟩ := hrel
        rename World => wr
        by_cases h0 : 0 < k
        · have hI : (0 : Int) < (k : Int) := by omega
          have hOl := HO.out.len
          go_upto_region 6 with fail
          obtain ⟨K1, _, _, _, K5, K6⟩ := HM.out
          have d2 := K1.cell 2; have e2 := K1.frozen 2
          simp only [List.getElem?_cons_zero, List.getElem?_cons_succ] at d2
          clear K1
          refine wp_region_any (by kernel_rfl) ?_
          (try (change wpAny _ _ _ _ _ _ _ (World.drew _)))
          refine wpAny_take (i := 0) (oi := { dst := some 25, op := _, type := _, pos := _, after := _, guard := _ }) (v := ?_) rfl (by kernel_rfl) (by kernel_rfl) (by kernel_rfl) (fun _ _ _ h => h) (Or.inl ⟨by rfl, ?_⟩) ?_
          rotate_left
          · (intro w; go_simp) <;> with_reducible rfl
          (try simp only [Act.put, List.setIfInBounds_toArray, List.set_cons_zero, List.set_cons_succ])
          refine wpAny_take (i := 2) (oi := { dst := some 27, op := _, type := _, pos := _, after := _, guard := _ }) (v := ?_) rfl (by kernel_rfl) (by kernel_rfl) (by kernel_rfl) (fun _ _ _ h => h) (Or.inl ⟨by rfl, ?_⟩) ?_
          rotate_left
          · (intro w; go_simp) <;> with_reducible rfl
          (try simp only [Act.put, List.setIfInBounds_toArray, List.set_cons_zero, List.set_cons_succ])
          refine wpAny_take (i := 3) (oi := { dst := some 28, op := _, type := _, pos := _, after := _, guard := _ }) (v := ?_) rfl (by kernel_rfl) (by kernel_rfl) (by kernel_rfl) (fun _ _ _ h => h) (Or.inl ⟨by rfl, ?_⟩) ?_
          rotate_left
          · (intro w; go_simp) <;> with_reducible rfl
          (try simp only [Act.put, List.setIfInBounds_toArray, List.set_cons_zero, List.set_cons_succ])
          refine wpAny_ready (rs := [1, 4]) (by kernel_rfl) (by simp) ?_
          refine AllReady.cons (o := _) rfl (fun K hK => ?_) (AllReady.cons (o := _) rfl (fun K hK => ?_) (AllReady.nil))
          · go_simp
            (try (refine hK _ _ ?_; clear hK K))
            (try simp only [Act.put, List.setIfInBounds_toArray, List.set_cons_zero, List.set_cons_succ])
            refine wpAny_ready (rs := [4]) (by kernel_rfl) (by simp) ?_
            refine AllReady.cons (o := _) rfl (fun K hK => ?_) (AllReady.nil)
            go_simp
            refine (cur_change HS.out (G.out _ HM.out.drew.2.2.2.1) hp HM.out.drew.2.1 (by omega) (by omega) (by omega)).mono ?_; rintro e w8 ⟨x8, rfl, gx8, zx8, hc8, hg8⟩
            have HM8 := Lib.hid (HM.out.drew.draw hg8 hc8)
            have HO8 := Lib.hid ((HO.out.up (below_drewN (Below.refl _ _) 1)).past hg8 (by omega))
            have d3 := HM8.out.1.cell 2
            simp only [List.getElem?_cons_zero, List.getElem?_cons_succ] at d3
            have d4 := (HM8.out.alloc (.cells #[.string x8] 9)).1.cell 2
            simp only [List.getElem?_cons_zero, List.getElem?_cons_succ] at d4
            try go_wp2_with fail
            (try (refine hK _ _ ?_; clear hK K))
            (try simp only [Act.put, List.setIfInBounds_toArray, List.set_cons_zero, List.set_cons_succ])
            refine wpAny_ready (rs := [5]) (by kernel_rfl) (by simp) ?_
            refine AllReady.cons (o := _) rfl (fun K hK => ?_) (AllReady.nil)
            go_simp
            (try (refine hK _ _ ?_; clear hK K))
            (try simp only [Act.put, List.setIfInBounds_toArray, List.set_cons_zero, List.set_cons_succ])
            refine wpAny_ready (rs := [6]) (by kernel_rfl) (by simp) ?_
            refine AllReady.cons (o := _) rfl (fun K hK => ?_) (AllReady.nil)
            refine step_append_rec Try.elStr (by rfl) _ _ (by rfl) (by rfl) (HO8.out.alloc _) x8 (by rfl) (Box.at_ _ [.string x8] _ (by rfl)) (strE_one _) (by omega) (by decide) (by have h1 := HM8.out.1.lt; have h2 := hg8.size; simp at h2 ⊢; omega) ?_
            intro A3 c3 w9 ho9 hg9 hb9
            have HM9 := Lib.hid ((HM8.out.alloc (.cells #[.string x8] 9)).grown hg9 (fun k hk => by have := (HO8.out.blk hk).1; omega))
            have d5 := HM9.out.1.cell 2; have e5 := HM9.out.1.frozen 2
            simp only [List.getElem?_cons_zero, List.getElem?_cons_succ] at d5
            (try (refine hK _ _ ?_; clear hK K))
            (try simp only [Act.put, List.setIfInBounds_toArray, List.set_cons_zero, List.set_cons_succ])
            refine wpAny_ready (rs := [7]) (by kernel_rfl) (by simp) ?_
            refine AllReady.cons (o := _) rfl (fun K hK => ?_) (AllReady.nil)
            go_simp
            (try (refine hK _ _ ?_; clear hK K))
            (try simp only [Act.put, List.setIfInBounds_toArray, List.set_cons_zero, List.set_cons_succ])
            refine wpAny_ready (rs := [8]) (by kernel_rfl) (by simp) ?_
            refine AllReady.cons (o := _) rfl (fun K hK => ?_) (AllReady.nil)
            go_simp
            (try (refine hK _ _ ?_; clear hK K))
            (try simp only [Act.put, List.setIfInBounds_toArray, List.set_cons_zero, List.set_cons_succ])
            refine wpAny_done (by kernel_rfl) ?_ _
            (try simp only [Act.put, List.setIfInBounds_toArray, List.set_cons_zero, List.set_cons_succ])
            have HZ9 := Lib.hid (good_snoc HZ.out gx8)
            have HMF := Lib.hid (HM9.out.put (v' := .slice A3 (m + 1) c3))
            have HOF := Lib.hid (own_put (b := w3.heap.size) (v' := .slice A3 (m + 1) c3) ho9 (by omega))
            clear d2 d3 d4 d5 e2 e5
            go_wp2
            go_roundw
            case rel => exact ⟨k - 1, m + 1, A3, c3, L ++ [x8], by omega, by go_num, Lib.hid (HMF.out.mono (by omega)), HOF, HZ9, HMF.out.1.lt⟩
            case measure => simp [intOf]; omega
          · go_simp
            refine (cur_change HS.out (G.out _ HM.out.drew.2.2.2.1) hp HM.out.drew.2.1 (by omega) (by omega) (by omega)).mono ?_; rintro e w8 ⟨x8, rfl, gx8, zx8, hc8, hg8⟩
            have HM8 := Lib.hid (HM.out.drew.draw hg8 hc8)
            have HO8 := Lib.hid ((HO.out.up (below_drewN (Below.refl _ _) 1)).past hg8 (by omega))
            have d3 := HM8.out.1.cell 2
            simp only [List.getElem?_cons_zero, List.getElem?_cons_succ] at d3
            have d4 := (HM8.out.alloc (.cells #[.string x8] 9)).1.cell 2
            simp only [List.getElem?_cons_zero, List.getElem?_cons_succ] at d4
            try go_wp2_with fail
            (try (refine hK _ _ ?_; clear hK K))
            (try simp only [Act.put, List.setIfInBounds_toArray, List.set_cons_zero, List.set_cons_succ])
            refine wpAny_ready (rs := [1, 5]) (by kernel_rfl) (by simp) ?_
            refine AllReady.cons (o := _) rfl (fun K hK => ?_) (AllReady.cons (o := _) rfl (fun K hK => ?_) (AllReady.nil))
            · go_simp
              (try (refine hK _ _ ?_; clear hK K))
              (try simp only [Act.put, List.setIfInBounds_toArray, List.set_cons_zero, List.set_cons_succ])
              refine wpAny_ready (rs := [5]) (by kernel_rfl) (by simp) ?_
              refine AllReady.cons (o := _) rfl (fun K hK => ?_) (AllReady.nil)
              go_simp
              (try (refine hK _ _ ?_; clear hK K))
              (try simp only [Act.put, List.setIfInBounds_toArray, List.set_cons_zero, List.set_cons_succ])
              refine wpAny_ready (rs := [6]) (by kernel_rfl) (by simp) ?_
              refine AllReady.cons (o := _) rfl (fun K hK => ?_) (AllReady.nil)
              refine step_append_rec Try.elStr (by rfl) _ _ (by rfl) (by rfl) (HO8.out.alloc _) x8 (by rfl) (Box.at_ _ [.string x8] _ (by rfl)) (strE_one _) (by omega) (by decide) (by have h1 := HM8.out.1.lt; have h2 := hg8.size; simp at h2 ⊢; omega) ?_
              intro A3 c3 w9 ho9 hg9 hb9
              have HM9 := Lib.hid ((HM8.out.alloc (.cells #[.string x8] 9)).grown hg9 (fun k hk => by have := (HO8.out.blk hk).1; omega))
              have d5 := HM9.out.1.cell 2; have e5 := HM9.out.1.frozen 2
              simp only [List.getElem?_cons_zero, List.getElem?_cons_succ] at d5
              (try (refine hK _ _ ?_; clear hK K))
              (try simp only [Act.put, List.setIfInBounds_toArray, List.set_cons_zero, List.set_cons_succ])
              refine wpAny_ready (rs := [7]) (by kernel_rfl) (by simp) ?_
              refine AllReady.cons (o := _) rfl (fun K hK => ?_) (AllReady.nil)
              go_simp
              (try (refine hK _ _ ?_; clear hK K))
              (try simp only [Act.put, List.setIfInBounds_toArray, List.set_cons_zero, List.set_cons_succ])
              refine wpAny_ready (rs := [8]) (by kernel_rfl) (by simp) ?_
              refine AllReady.cons (o := _) rfl (fun K hK => ?_) (AllReady.nil)
              go_simp
              (try (refine hK _ _ ?_; clear hK K))
              (try simp only [Act.put, List.setIfInBounds_toArray, List.set_cons_zero, List.set_cons_succ])
              refine wpAny_done (by kernel_rfl) ?_ _
              (try simp only [Act.put, List.setIfInBounds_toArray, List.set_cons_zero, List.set_cons_succ])
              have HZ9 := Lib.hid (good_snoc HZ.out gx8)
              have HMF := Lib.hid (HM9.out.put (v' := .slice A3 (m + 1) c3))
              have HOF := Lib.hid (own_put (b := w3.heap.size) (v' := .slice A3 (m + 1) c3) ho9 (by omega))
              clear d2 d3 d4 d5 e2 e5
              go_wp2
              go_roundw
              case rel => exact ⟨k - 1, m + 1, A3, c3, L ++ [x8], by omega, by go_num, Lib.hid (HMF.out.mono (by omega)), HOF, HZ9, HMF.out.1.lt⟩
              case measure => simp [intOf]; omega
            · go_simp
              (try (refine hK _ _ ?_; clear hK K))
              (try simp only [Act.put, List.setIfInBounds_toArray, List.set_cons_zero, List.set_cons_succ])
              refine wpAny_ready (rs := [1]) (by kernel_rfl) (by simp) ?_
              refine AllReady.cons (o := _) rfl (fun K hK => ?_) (AllReady.nil)
              go_simp
              (try (refine hK _ _ ?_; clear hK K))
              (try simp only [Act.put, List.setIfInBounds_toArray, List.set_cons_zero, List.set_cons_succ])
              refine wpAny_ready (rs := [6]) (by kernel_rfl) (by simp) ?_
              refine AllReady.cons (o := _) rfl (fun K hK => ?_) (AllReady.nil)
              refine step_append_rec Try.elStr (by rfl) _ _ (by rfl) (by rfl) (HO8.out.alloc _) x8 (by rfl) (Box.at_ _ [.string x8] _ (by rfl)) (strE_one _) (by omega) (by decide) (by have h1 := HM8.out.1.lt; have h2 := hg8.size; simp at h2 ⊢; omega) ?_
              intro A3 c3 w9 ho9 hg9 hb9
              have HM9 := Lib.hid ((HM8.out.alloc (.cells #[.string x8] 9)).grown hg9 (fun k hk => by have := (HO8.out.blk hk).1; omega))
              have d5 := HM9.out.1.cell 2; have e5 := HM9.out.1.frozen 2
              simp only [List.getElem?_cons_zero, List.getElem?_cons_succ] at d5
              (try (refine hK _ _ ?_; clear hK K))
              (try simp only [Act.put, List.setIfInBounds_toArray, List.set_cons_zero, List.set_cons_succ])
              refine wpAny_ready (rs := [7]) (by kernel_rfl) (by simp) ?_
              refine AllReady.cons (o := _) rfl (fun K hK => ?_) (AllReady.nil)
              go_simp
              (try (refine hK _ _ ?_; clear hK K))
              (try simp only [Act.put, List.setIfInBounds_toArray, List.set_cons_zero, List.set_cons_succ])
              refine wpAny_ready (rs := [8]) (by kernel_rfl) (by simp) ?_
              refine AllReady.cons (o := _) rfl (fun K hK => ?_) (AllReady.nil)
              go_simp
              (try (refine hK _ _ ?_; clear hK K))
              (try simp only [Act.put, List.setIfInBounds_toArray, List.set_cons_zero, List.set_cons_succ])
              refine wpAny_done (by kernel_rfl) ?_ _
              (try simp only [Act.put, List.setIfInBounds_toArray, List.set_cons_zero, List.set_cons_succ])
              have HZ9 := Lib.hid (good_snoc HZ.out gx8)
              have HMF := Lib.hid (HM9.out.put (v' := .slice A3 (m + 1) c3))
              have HOF := Lib.hid (own_put (b := w3.heap.size) (v' := .slice A3 (m + 1) c3) ho9 (by omega))
              clear d2 d3 d4 d5 e2 e5
              go_wp2
              go_roundw
              case rel => exact ⟨k - 1, m + 1, A3, c3, L ++ [x8], by omega, by go_num, Lib.hid (HMF.out.mono (by omega)), HOF, HZ9, HMF.out.1.lt⟩
              case measure => simp [intOf]; omega
        · obtain rfl : k = 0 := by omega
          have hOl := HO.out.len
          obtain ⟨K1, K2, ⟨rx, ry, rz, K3⟩, K4, K5, K6⟩ := HM.out
          have kc0 := K1.cell 0; have kc1 := K1.cell 1; have kc2 := K1.cell 2
          have kd0 := K3.cell 0; have kd1 := K3.cell 1; have kd2 := K3.cell 2
          have kf0 := K3.frozen 0; have kf1 := K3.frozen 1; have kf2 := K3.frozen 2
          simp only [List.getElem?_cons_zero, List.getElem?_cons_succ] at kc0 kc1 kc2 kd0 kd1 kd2
          have Z := ((K3.set_ 0 (.string nm)).set_ 1 (.int .i64 (st : Int))).set_ 2 (.slice A2 (m) c2)
          have y0 := Z.cell 0; have y1 := Z.cell 1; have y2 := Z.cell 2
          simp only [List.set_cons_zero, List.set_cons_succ, List.getElem?_cons_zero, List.getElem?_cons_succ] at y0 y1 y2
          have HK := Lib.hid K2; have HGR := Lib.hid K4
          clear K1 K2 K3 K4 Z
          go_wp2_with fail
          refine bodyPost_ret (v := .agg #[.string nm, .int .i64 (st : Int), .slice A2 (m) c2]) (by simp [results, Try.results186, go_sem, y0, y1, y2]) rfl ?_
          exact fin.out _ _ _ _ _ _ HGR.out (HK.out.mono (by omega)) HO.out (by omega) (by omega) HZ.out (grownBy_trans (grownBy_trans (only_set _ (p := ⟨w.heap.size, 0, none⟩) _) (only_set _ (p := ⟨w.heap.size, 1, none⟩) _)) (only_set _ (p := ⟨w.heap.size, 2, none⟩) _))
    · go_wp2_with fail
      refine (cur_pick HS.out (G.out _ HM6.out.2.2.2.1) hp HM6.out.2.1 (by omega) (by decide) (by decide)).mono ?_; rintro e w7 ⟨x, rfl, ⟨x0, x1⟩, hc7, hg7⟩
      have HM7 := Lib.hid (HM6.out.draw hg7 hc7)
      obtain ⟨X, rfl⟩ := Int.eq_ofNat_of_zero_le x0
      have hX : X ≤ 3 := by omega
      clear hc7 hg7 x0 x1
      go_wp2
      go_loopw [6, 7] (fun v i wr => ∃ (k m : Nat) (A' : Option Addr) (c' : Nat) (H : List ByteArray), k + m = X + 1 ∧ i = .int .i64 k ∧ v = .slice A' m c' ∧ Hid (MSt w wr p A n c (a + 10 + m) w3.heap.size nm st (.slice none 0 0)) ∧ Hid (Owned strE 1 9 wr (w3.heap.size + 1) A' m c' H) ∧ Hid (∀ x ∈ H, goodChange st x = true) ∧ w3.heap.size < wr.heap.size) (fun _ i _ => (intOf i).toNat)
      case atStart => exact ⟨X + 1, 0, none, 0, [], rfl, by go_num, rfl, Lib.hid (HM7.out.mono (by omega)), Lib.hid (Owned.nil strE_len _ _ _), Lib.hid (fun s hs => by cases hs), HM7.out.1.lt⟩
      case round =>
        obtain ⟨k, m, A2, c2, H, hkm, rfl, rfl, HM, HO, HZ, hbr⟩ := hrel
        rename World => wr
        by_cases h0 : 0 < k
        · have hI : (0 : Int) < (k : Int) := by omega
          have hOl := HO.out.len
          go_wp2_with fail
          refine (cur_change HS.out (G.out _ HM.out.2.2.2.1) hp HM.out.2.1 (by omega) (by omega) (by omega)).mono ?_; rintro e w8 ⟨x8, rfl, gx8, zx8, hc8, hg8⟩
          have HM8 := Lib.hid (HM.out.draw hg8 hc8)
          have HO8 := Lib.hid (HO.out.past hg8 (by have := HM.out.2.2.2.2; omega))
          have hs8 := HM8.out.1.lt
          have HZ9 := Lib.hid (good_snoc HZ.out gx8)
          clear hc8 hg8
          go_wp2_with (first | (at_builtin; go_must ((refine wpList_append_recs Try.elStr strE_one rfl (.tmp 60) (.tmp 64) rfl rfl (HO8.out.alloc _) rfl (own_lit1_at' strE_len _ 9 x8 rfl (Nat.le_refl _)).recs rfl ?_ (by decide) ?_ ?_; (focus (first | omega | (simp only [World.size_alloc]; done) | (simp only [World.size_alloc]; omega) | (simp; done) | (simp; omega))); (simp; omega); intro A3 c3 w9 ho9 hg9 hl9; have HM9 := Lib.hid ((HM8.out.alloc (.cells ⟨[Value.string x8]⟩ 9)).grown hg9 (fun k hk => by have := (HO8.out.blk hk).1; omega))))))
          go_roundw
          case rel => exact ⟨k - 1, m + 1, A3, c3, H ++ [x8], by omega, by go_num, rfl, Lib.hid (HM9.out.mono (by omega)), Lib.hid ho9, HZ9, HM9.out.1.lt⟩
          case measure => simp [intOf]; omega
        · obtain rfl : k = 0 := by omega
          have hHl := HO.out.len
          obtain ⟨gH, rfl, gH0, gH1, _, _⟩ := HO.out.at_ (by omega)
          have HR := Lib.hid HO.out.recs
          have HG := Lib.hid HZ.out
          go_wp2_with fail
          refine (spec_l1OwnS hHl HR.out (by omega)).mono ?_; rintro e w8 ⟨A3, c3, rfl, ho3, hb3⟩
          have HM3 := Lib.hid (HM.out.up hb3)
          have HR3 := Lib.hid (HR.out.up hb3)
          have hs3 := hb3.size
          clear hb3
          go_wp2_with fail
          refine (cur_change HS.out (G.out _ HM3.out.2.2.2.1) hp HM3.out.2.1 (by omega) (by omega) (by omega)).mono ?_; rintro e w9 ⟨x9, rfl, gx9, zx9, hc9, hg9⟩
          have hpb := HM3.out.2.2.2.2
          have HM4 := Lib.hid (HM3.out.draw hg9 hc9)
          have HO4 := Lib.hid (ho3.past hg9 (by omega))
          have HR4 := Lib.hid (strs_grown HR3.out hg9 (fun e => by injection e with e; omega))
          have hs9 := hg9.size
          have HZ4 := Lib.hid (good_snoc HZ.out gx9)
          have HML := Lib.hid (HM4.out.alloc (.cells ⟨[Value.string x9]⟩ 9))
          have HRL := Lib.hid (HR4.out.alloc (.cells ⟨[Value.string x9]⟩ 9))
          have hs9' : wr.heap.size ≤ (w9.alloc (.cells ⟨[Value.string x9]⟩ 9)).heap.size := by simp; omega
          obtain ⟨wb, hwb⟩ : ∃ b, b = wr.heap.size := ⟨_, rfl⟩
          rw [← hwb] at ho3 HO4 gH1 hs3 hs9' 
          clear hc9 hg9 ho3 HM3 HR3
          go_wp2_with (first | (at_builtin; go_must ((refine wpList_append_recs Try.elStr strE_one rfl (.tmp 67) (.tmp 71) rfl rfl (HO4.out.alloc _) rfl (own_lit1_at' strE_len _ 9 x9 rfl (Nat.le_refl _)).recs rfl ?_ (by decide) ?_ ?_; (focus (first | omega | (simp only [World.size_alloc]; done) | (simp only [World.size_alloc]; omega) | (simp; done) | (simp; omega))); (simp; omega); intro A5 c5 w10 ho5 hg5 hl5; have HM5 := Lib.hid (HML.out.grown hg5 (fun k hk => by have := (HO4.out.blk hk).1; omega)); have HR5 := Lib.hid (strs_grown HRL.out hg5 (fun e => by have := (HO4.out.blk e.symm).1; omega)); have g2 := HM5.out.1.cell 2; have e2 := HM5.out.1.frozen 2; simp only [List.getElem?_cons_zero, List.getElem?_cons_succ] at g2; have HMF := Lib.hid (HM5.out.put (v' := .slice A5 (m + 1) c5)); have HOF := Lib.hid (own_put (b := w3.heap.size) (v' := .slice A5 (m + 1) c5) ho5 (by omega)); have HRF := Lib.hid (strs_grown HR5.out (only_set w10 (p := ⟨w3.heap.size, 2, none⟩) (.slice A5 (m + 1) c5)) (fun e => by injection e with e; dsimp only at e; omega))))))
          obtain ⟨w11, hw11⟩ : ∃ u, u = w10.setCell ⟨w3.heap.size, 2, none⟩ (.slice A5 (m + 1) c5) := ⟨_, rfl⟩
          rw [← hw11] at HMF HOF HRF ⊢
          have hB4 : w3.heap.size < wb := by omega
          have hs11 : wb ≤ w11.heap.size := by have := hg5.size; rw [hw11]; simp at this ⊢; omega
          clear hw11 ho5 hg5 hl5 HM5 HR5 g2 e2 HM4 HO4 HR4 HML HRL
          go_wp2
          go_loopw [8] (fun i wr => ∃ (k q : Nat) (A' : Option Addr) (c' : Nat) (L : List ByteArray), k + q = m ∧ i = .int .i64 ((k : Int) - 1) ∧ Hid (MSt w wr p A n c (a + 20 + m) w3.heap.size nm st (.slice A' (m + 1 + q) c')) ∧ Hid (Owned strE 1 9 wr wb A' (m + 1 + q) c' L) ∧ Hid (∀ x ∈ L, goodChange st x = true) ∧ Hid (Strs wr (some ⟨gH, 0, none⟩) H) ∧ wb ≤ wr.heap.size) (fun i _ => (intOf i + 1).toNat)
          case atStart => exact ⟨m, 0, A5, c5, H ++ [x9], rfl, by go_num, Lib.hid (HMF.out.mono (by omega)), HOF, HZ4, HRF, hs11⟩
          case round =>
            obtain ⟨k, q, A2, c2, L, hkq, rfl, HM, HO, HZ, HR, hsr⟩ := hrel
            rename World => wr
            have hOl := HO.out.len
            rcases k with _ | k
            · rw [show (((0 : Nat) : Int) - 1) = -1 by omega]
              obtain rfl : q = m := by omega
              go_upto_region 23 with fail
              obtain ⟨K1, _, _, _, K5, K6⟩ := HM.out
              have d2 := K1.cell 2; have e2 := K1.frozen 2
              simp only [List.getElem?_cons_zero, List.getElem?_cons_succ] at d2
              clear K1
              refine wp_region_any (by kernel_rfl) ?_
              (try (change wpAny _ _ _ _ _ _ _ (World.drew _)))
              refine wpAny_take (i := 0) (oi := { dst := some 90, op := _, type := _, pos := _, after := _, guard := _ }) (v := ?_) rfl (by kernel_rfl) (by kernel_rfl) (by kernel_rfl) (fun _ _ _ h => h) (Or.inl ⟨by rfl, ?_⟩) ?_
              rotate_left
              · (intro w; go_simp) <;> with_reducible rfl
              (try simp only [Act.put, List.setIfInBounds_toArray, List.set_cons_zero, List.set_cons_succ])
              refine wpAny_take (i := 2) (oi := { dst := some 92, op := _, type := _, pos := _, after := _, guard := _ }) (v := ?_) rfl (by kernel_rfl) (by kernel_rfl) (by kernel_rfl) (fun _ _ _ h => h) (Or.inl ⟨by rfl, ?_⟩) ?_
              rotate_left
              · (intro w; go_simp) <;> with_reducible rfl
              (try simp only [Act.put, List.setIfInBounds_toArray, List.set_cons_zero, List.set_cons_succ])
              refine wpAny_take (i := 3) (oi := { dst := some 93, op := _, type := _, pos := _, after := _, guard := _ }) (v := ?_) rfl (by kernel_rfl) (by kernel_rfl) (by kernel_rfl) (fun _ _ _ h => h) (Or.inl ⟨by rfl, ?_⟩) ?_
              rotate_left
              · (intro w; go_simp) <;> with_reducible rfl
              (try simp only [Act.put, List.setIfInBounds_toArray, List.set_cons_zero, List.set_cons_succ])
              refine wpAny_ready (rs := [1, 4]) (by kernel_rfl) (by simp) ?_
              refine AllReady.cons (o := _) rfl (fun K hK => ?_) (AllReady.cons (o := _) rfl (fun K hK => ?_) (AllReady.nil))
              · go_simp
                (try (refine hK _ _ ?_; clear hK K))
                (try simp only [Act.put, List.setIfInBounds_toArray, List.set_cons_zero, List.set_cons_succ])
                refine wpAny_ready (rs := [4]) (by kernel_rfl) (by simp) ?_
                refine AllReady.cons (o := _) rfl (fun K hK => ?_) (AllReady.nil)
                go_simp
                refine (cur_change HS.out (G.out _ HM.out.drew.2.2.2.1) hp HM.out.drew.2.1 (by omega) (by omega) (by omega)).mono ?_; rintro e w8 ⟨x8, rfl, gx8, zx8, hc8, hg8⟩
                have HM8 := Lib.hid (HM.out.drew.draw hg8 hc8)
                have HO8 := Lib.hid ((HO.out.up (below_drewN (Below.refl _ _) 1)).past hg8 (by omega))
                have d3 := HM8.out.1.cell 2
                simp only [List.getElem?_cons_zero, List.getElem?_cons_succ] at d3
                have d4 := (HM8.out.alloc (.cells #[.string x8] 9)).1.cell 2
                simp only [List.getElem?_cons_zero, List.getElem?_cons_succ] at d4
                try go_wp2_with fail
                (try (refine hK _ _ ?_; clear hK K))
                (try simp only [Act.put, List.setIfInBounds_toArray, List.set_cons_zero, List.set_cons_succ])
                refine wpAny_ready (rs := [5]) (by kernel_rfl) (by simp) ?_
                refine AllReady.cons (o := _) rfl (fun K hK => ?_) (AllReady.nil)
                go_simp
                (try (refine hK _ _ ?_; clear hK K))
                (try simp only [Act.put, List.setIfInBounds_toArray, List.set_cons_zero, List.set_cons_succ])
                refine wpAny_ready (rs := [6]) (by kernel_rfl) (by simp) ?_
                refine AllReady.cons (o := _) rfl (fun K hK => ?_) (AllReady.nil)
                refine step_append_rec Try.elStr (by rfl) _ _ (by rfl) (by rfl) (HO8.out.alloc _) x8 (by rfl) (Box.at_ _ [.string x8] _ (by rfl)) (strE_one _) (by omega) (by decide) (by have h1 := HM8.out.1.lt; have h2 := hg8.size; simp at h2 ⊢; omega) ?_
                intro A3 c3 w9 ho9 hg9 hb9
                have HM9 := Lib.hid ((HM8.out.alloc (.cells #[.string x8] 9)).grown hg9 (fun k hk => by have := (HO8.out.blk hk).1; omega))
                have d5 := HM9.out.1.cell 2; have e5 := HM9.out.1.frozen 2
                simp only [List.getElem?_cons_zero, List.getElem?_cons_succ] at d5
                (try (refine hK _ _ ?_; clear hK K))
                (try simp only [Act.put, List.setIfInBounds_toArray, List.set_cons_zero, List.set_cons_succ])
                refine wpAny_ready (rs := [7]) (by kernel_rfl) (by simp) ?_
                refine AllReady.cons (o := _) rfl (fun K hK => ?_) (AllReady.nil)
                go_simp
                (try (refine hK _ _ ?_; clear hK K))
                (try simp only [Act.put, List.setIfInBounds_toArray, List.set_cons_zero, List.set_cons_succ])
                refine wpAny_ready (rs := [8]) (by kernel_rfl) (by simp) ?_
                refine AllReady.cons (o := _) rfl (fun K hK => ?_) (AllReady.nil)
                go_simp
                (try (refine hK _ _ ?_; clear hK K))
                (try simp only [Act.put, List.setIfInBounds_toArray, List.set_cons_zero, List.set_cons_succ])
                refine wpAny_done (by kernel_rfl) ?_ _
                (try simp only [Act.put, List.setIfInBounds_toArray, List.set_cons_zero, List.set_cons_succ])
                have HZ := Lib.hid (good_snoc HZ.out gx8)
                have HM := Lib.hid (HM9.out.put (v' := .slice A3 (q + 1 + q + 1) c3))
                have HO := Lib.hid ((own_put (b := w3.heap.size) (v' := .slice A3 (q + 1 + q + 1) c3) ho9 (by omega)).base_le (show w3.heap.size + 1 ≤ wb by omega))
                clear d2 d3 d4 d5 e2 e5 HM8 HO8 HM9 ho9 hg9 hb9 hc8 hg8 K5 K6
                obtain ⟨K1, K2, ⟨rx, ry, rz, K3⟩, K4, K5, K6⟩ := HM.out
                have kc0 := K1.cell 0; have kc1 := K1.cell 1; have kc2 := K1.cell 2
                have kd0 := K3.cell 0; have kd1 := K3.cell 1; have kd2 := K3.cell 2
                have kf0 := K3.frozen 0; have kf1 := K3.frozen 1; have kf2 := K3.frozen 2
                simp only [List.getElem?_cons_zero, List.getElem?_cons_succ] at kc0 kc1 kc2 kd0 kd1 kd2
                have Z := ((K3.set_ 0 (.string nm)).set_ 1 (.int .i64 (st : Int))).set_ 2 (.slice A3 (q + 1 + q + 1) c3)
                have y0 := Z.cell 0; have y1 := Z.cell 1; have y2 := Z.cell 2
                simp only [List.set_cons_zero, List.set_cons_succ, List.getElem?_cons_zero, List.getElem?_cons_succ] at y0 y1 y2
                have HK := Lib.hid K2; have HGR := Lib.hid K4
                clear K1 K2 K3 K4 Z
                go_wp2_with fail
                refine bodyPost_ret (v := .agg #[.string nm, .int .i64 (st : Int), .slice A3 (q + 1 + q + 1) c3]) (by simp [results, Try.results186, go_sem, y0, y1, y2]) rfl ?_
                exact fin.out _ _ _ _ _ _ HGR.out (HK.out.mono (by omega)) HO.out (by omega) (by omega) HZ.out (grownBy_trans (grownBy_trans (only_set _ (p := ⟨w.heap.size, 0, none⟩) _) (only_set _ (p := ⟨w.heap.size, 1, none⟩) _)) (only_set _ (p := ⟨w.heap.size, 2, none⟩) _))
              · go_simp
                refine (cur_change HS.out (G.out _ HM.out.drew.2.2.2.1) hp HM.out.drew.2.1 (by omega) (by omega) (by omega)).mono ?_; rintro e w8 ⟨x8, rfl, gx8, zx8, hc8, hg8⟩
                have HM8 := Lib.hid (HM.out.drew.draw hg8 hc8)
                have HO8 := Lib.hid ((HO.out.up (below_drewN (Below.refl _ _) 1)).past hg8 (by omega))
                have d3 := HM8.out.1.cell 2
                simp only [List.getElem?_cons_zero, List.getElem?_cons_succ] at d3
                have d4 := (HM8.out.alloc (.cells #[.string x8] 9)).1.cell 2
                simp only [List.getElem?_cons_zero, List.getElem?_cons_succ] at d4
                try go_wp2_with fail
                (try (refine hK _ _ ?_; clear hK K))
                (try simp only [Act.put, List.setIfInBounds_toArray, List.set_cons_zero, List.set_cons_succ])
                refine wpAny_ready (rs := [1, 5]) (by kernel_rfl) (by simp) ?_
                refine AllReady.cons (o := _) rfl (fun K hK => ?_) (AllReady.cons (o := _) rfl (fun K hK => ?_) (AllReady.nil))
                · go_simp
                  (try (refine hK _ _ ?_; clear hK K))
                  (try simp only [Act.put, List.setIfInBounds_toArray, List.set_cons_zero, List.set_cons_succ])
                  refine wpAny_ready (rs := [5]) (by kernel_rfl) (by simp) ?_
                  refine AllReady.cons (o := _) rfl (fun K hK => ?_) (AllReady.nil)
                  go_simp
                  (try (refine hK _ _ ?_; clear hK K))
                  (try simp only [Act.put, List.setIfInBounds_toArray, List.set_cons_zero, List.set_cons_succ])
                  refine wpAny_ready (rs := [6]) (by kernel_rfl) (by simp) ?_
                  refine AllReady.cons (o := _) rfl (fun K hK => ?_) (AllReady.nil)
                  refine step_append_rec Try.elStr (by rfl) _ _ (by rfl) (by rfl) (HO8.out.alloc _) x8 (by rfl) (Box.at_ _ [.string x8] _ (by rfl)) (strE_one _) (by omega) (by decide) (by have h1 := HM8.out.1.lt; have h2 := hg8.size; simp at h2 ⊢; omega) ?_
                  intro A3 c3 w9 ho9 hg9 hb9
                  have HM9 := Lib.hid ((HM8.out.alloc (.cells #[.string x8] 9)).grown hg9 (fun k hk => by have := (HO8.out.blk hk).1; omega))
                  have d5 := HM9.out.1.cell 2; have e5 := HM9.out.1.frozen 2
                  simp only [List.getElem?_cons_zero, List.getElem?_cons_succ] at d5
                  (try (refine hK _ _ ?_; clear hK K))
                  (try simp only [Act.put, List.setIfInBounds_toArray, List.set_cons_zero, List.set_cons_succ])
                  refine wpAny_ready (rs := [7]) (by kernel_rfl) (by simp) ?_
                  refine AllReady.cons (o := _) rfl (fun K hK => ?_) (AllReady.nil)
                  go_simp
                  (try (refine hK _ _ ?_; clear hK K))
                  (try simp only [Act.put, List.setIfInBounds_toArray, List.set_cons_zero, List.set_cons_succ])
                  refine wpAny_ready (rs := [8]) (by kernel_rfl) (by simp) ?_
                  refine AllReady.cons (o := _) rfl (fun K hK => ?_) (AllReady.nil)
                  go_simp
                  (try (refine hK _ _ ?_; clear hK K))
                  (try simp only [Act.put, List.setIfInBounds_toArray, List.set_cons_zero, List.set_cons_succ])
                  refine wpAny_done (by kernel_rfl) ?_ _
                  (try simp only [Act.put, List.setIfInBounds_toArray, List.set_cons_zero, List.set_cons_succ])
                  have HZ := Lib.hid (good_snoc HZ.out gx8)
                  have HM := Lib.hid (HM9.out.put (v' := .slice A3 (q + 1 + q + 1) c3))
                  have HO := Lib.hid ((own_put (b := w3.heap.size) (v' := .slice A3 (q + 1 + q + 1) c3) ho9 (by omega)).base_le (show w3.heap.size + 1 ≤ wb by omega))
                  clear d2 d3 d4 d5 e2 e5 HM8 HO8 HM9 ho9 hg9 hb9 hc8 hg8 K5 K6
                  obtain ⟨K1, K2, ⟨rx, ry, rz, K3⟩, K4, K5, K6⟩ := HM.out
                  have kc0 := K1.cell 0; have kc1 := K1.cell 1; have kc2 := K1.cell 2
                  have kd0 := K3.cell 0; have kd1 := K3.cell 1; have kd2 := K3.cell 2
                  have kf0 := K3.frozen 0; have kf1 := K3.frozen 1; have kf2 := K3.frozen 2
                  simp only [List.getElem?_cons_zero, List.getElem?_cons_succ] at kc0 kc1 kc2 kd0 kd1 kd2
                  have Z := ((K3.set_ 0 (.string nm)).set_ 1 (.int .i64 (st : Int))).set_ 2 (.slice A3 (q + 1 + q + 1) c3)
                  have y0 := Z.cell 0; have y1 := Z.cell 1; have y2 := Z.cell 2
                  simp only [List.set_cons_zero, List.set_cons_succ, List.getElem?_cons_zero, List.getElem?_cons_succ] at y0 y1 y2
                  have HK := Lib.hid K2; have HGR := Lib.hid K4
                  clear K1 K2 K3 K4 Z
                  go_wp2_with fail
                  refine bodyPost_ret (v := .agg #[.string nm, .int .i64 (st : Int), .slice A3 (q + 1 + q + 1) c3]) (by simp [results, Try.results186, go_sem, y0, y1, y2]) rfl ?_
                  exact fin.out _ _ _ _ _ _ HGR.out (HK.out.mono (by omega)) HO.out (by omega) (by omega) HZ.out (grownBy_trans (grownBy_trans (only_set _ (p := ⟨w.heap.size, 0, none⟩) _) (only_set _ (p := ⟨w.heap.size, 1, none⟩) _)) (only_set _ (p := ⟨w.heap.size, 2, none⟩) _))
                · go_simp
                  (try (refine hK _ _ ?_; clear hK K))
                  (try simp only [Act.put, List.setIfInBounds_toArray, List.set_cons_zero, List.set_cons_succ])
                  refine wpAny_ready (rs := [1]) (by kernel_rfl) (by simp) ?_
                  refine AllReady.cons (o := _) rfl (fun K hK => ?_) (AllReady.nil)
                  go_simp
                  (try (refine hK _ _ ?_; clear hK K))
                  (try simp only [Act.put, List.setIfInBounds_toArray, List.set_cons_zero, List.set_cons_succ])
                  refine wpAny_ready (rs := [6]) (by kernel_rfl) (by simp) ?_
                  refine AllReady.cons (o := _) rfl (fun K hK => ?_) (AllReady.nil)
                  refine step_append_rec Try.elStr (by rfl) _ _ (by rfl) (by rfl) (HO8.out.alloc _) x8 (by rfl) (Box.at_ _ [.string x8] _ (by rfl)) (strE_one _) (by omega) (by decide) (by have h1 := HM8.out.1.lt; have h2 := hg8.size; simp at h2 ⊢; omega) ?_
                  intro A3 c3 w9 ho9 hg9 hb9
                  have HM9 := Lib.hid ((HM8.out.alloc (.cells #[.string x8] 9)).grown hg9 (fun k hk => by have := (HO8.out.blk hk).1; omega))
                  have d5 := HM9.out.1.cell 2; have e5 := HM9.out.1.frozen 2
                  simp only [List.getElem?_cons_zero, List.getElem?_cons_succ] at d5
                  (try (refine hK _ _ ?_; clear hK K))
                  (try simp only [Act.put, List.setIfInBounds_toArray, List.set_cons_zero, List.set_cons_succ])
                  refine wpAny_ready (rs := [7]) (by kernel_rfl) (by simp) ?_
                  refine AllReady.cons (o := _) rfl (fun K hK => ?_) (AllReady.nil)
                  go_simp
                  (try (refine hK _ _ ?_; clear hK K))
                  (try simp only [Act.put, List.setIfInBounds_toArray, List.set_cons_zero, List.set_cons_succ])
                  refine wpAny_ready (rs := [8]) (by kernel_rfl) (by simp) ?_
                  refine AllReady.cons (o := _) rfl (fun K hK => ?_) (AllReady.nil)
                  go_simp
                  (try (refine hK _ _ ?_; clear hK K))
                  (try simp only [Act.put, List.setIfInBounds_toArray, List.set_cons_zero, List.set_cons_succ])
                  refine wpAny_done (by kernel_rfl) ?_ _
                  (try simp only [Act.put, List.setIfInBounds_toArray, List.set_cons_zero, List.set_cons_succ])
                  have HZ := Lib.hid (good_snoc HZ.out gx8)
                  have HM := Lib.hid (HM9.out.put (v' := .slice A3 (q + 1 + q + 1) c3))
                  have HO := Lib.hid ((own_put (b := w3.heap.size) (v' := .slice A3 (q + 1 + q + 1) c3) ho9 (by omega)).base_le (show w3.heap.size + 1 ≤ wb by omega))
                  clear d2 d3 d4 d5 e2 e5 HM8 HO8 HM9 ho9 hg9 hb9 hc8 hg8 K5 K6
                  obtain ⟨K1, K2, ⟨rx, ry, rz, K3⟩, K4, K5, K6⟩ := HM.out
                  have kc0 := K1.cell 0; have kc1 := K1.cell 1; have kc2 := K1.cell 2
                  have kd0 := K3.cell 0; have kd1 := K3.cell 1; have kd2 := K3.cell 2
                  have kf0 := K3.frozen 0; have kf1 := K3.frozen 1; have kf2 := K3.frozen 2
                  simp only [List.getElem?_cons_zero, List.getElem?_cons_succ] at kc0 kc1 kc2 kd0 kd1 kd2
                  have Z := ((K3.set_ 0 (.string nm)).set_ 1 (.int .i64 (st : Int))).set_ 2 (.slice A3 (q + 1 + q + 1) c3)
                  have y0 := Z.cell 0; have y1 := Z.cell 1; have y2 := Z.cell 2
                  simp only [List.set_cons_zero, List.set_cons_succ, List.getElem?_cons_zero, List.getElem?_cons_succ] at y0 y1 y2
                  have HK := Lib.hid K2; have HGR := Lib.hid K4
                  clear K1 K2 K3 K4 Z
                  go_wp2_with fail
                  refine bodyPost_ret (v := .agg #[.string nm, .int .i64 (st : Int), .slice A3 (q + 1 + q + 1) c3]) (by simp [results, Try.results186, go_sem, y0, y1, y2]) rfl ?_
                  exact fin.out _ _ _ _ _ _ HGR.out (HK.out.mono (by omega)) HO.out (by omega) (by omega) HZ.out (grownBy_trans (grownBy_trans (only_set _ (p := ⟨w.heap.size, 0, none⟩) _) (only_set _ (p := ⟨w.heap.size, 1, none⟩) _)) (only_set _ (p := ⟨w.heap.size, 2, none⟩) _))
            · rw [show (((k + 1 : Nat) : Int) - 1) = (k : Int) by omega]
              have hI : (0 : Int) ≤ (k : Int) := by omega
              obtain ⟨b3, o3, y, hA, hbb, hy, hcy⟩ := HR.out.at_str (k := k) (by omega)
              injection hA with hA
              injection hA with e1 e2 _
              subst e1 e2
              have gy := HG.out y (List.mem_of_getElem? hy)
              obtain ⟨K1, _, _, _, K5, K6⟩ := HM.out
              have d2 := K1.cell 2; have e2 := K1.frozen 2
              have d4 := (HM.out.alloc (.cells #[.string y] 9)).1.cell 2
              have hJ : (k : Int) < (m : Int) := by omega
              simp only [List.getElem?_cons_zero, List.getElem?_cons_succ, Nat.zero_add] at d2 d4 hcy
              have HO8 := Lib.hid (HO.out.up (below_drewN (Below.refl _ _) 1))
              clear K1 hy
              go_upto_region 22 with fail
              refine wp_region_any (by kernel_rfl) ?_
              (try (change wpAny _ _ _ _ _ _ _ (World.drew _)))
              refine wpAny_take (i := 0) (oi := { dst := some 81, op := _, type := _, pos := _, after := _, guard := _ }) (v := ?_) rfl (by kernel_rfl) (by kernel_rfl) (by kernel_rfl) (fun _ _ _ h => h) (Or.inl ⟨by rfl, ?_⟩) ?_
              rotate_left
              · (intro w; go_simp) <;> with_reducible rfl
              (try simp only [Act.put, List.setIfInBounds_toArray, List.set_cons_zero, List.set_cons_succ])
              refine wpAny_take (i := 2) (oi := { dst := some 83, op := _, type := _, pos := _, after := _, guard := _ }) (v := ?_) rfl (by kernel_rfl) (by kernel_rfl) (by kernel_rfl) (fun _ _ _ h => h) (Or.inl ⟨by rfl, ?_⟩) ?_
              rotate_left
              · (intro w; go_simp) <;> with_reducible rfl
              (try simp only [Act.put, List.setIfInBounds_toArray, List.set_cons_zero, List.set_cons_succ])
              refine wpAny_take (i := 3) (oi := { dst := some 84, op := _, type := _, pos := _, after := _, guard := _ }) (v := ?_) rfl (by kernel_rfl) (by kernel_rfl) (by kernel_rfl) (fun _ _ _ h => h) (Or.inl ⟨by rfl, ?_⟩) ?_
              rotate_left
              · (intro w; go_simp) <;> with_reducible rfl
              (try simp only [Act.put, List.setIfInBounds_toArray, List.set_cons_zero, List.set_cons_succ])
              refine wpAny_take (i := 4) (oi := { dst := some 85, op := _, type := _, pos := _, after := _, guard := _ }) (v := ?_) rfl (by kernel_rfl) (by kernel_rfl) (by kernel_rfl) (fun _ _ _ h => h) (Or.inl ⟨by rfl, ?_⟩) ?_
              rotate_left
              · (intro w; go_simp) <;> with_reducible rfl
              (try simp only [Act.put, List.setIfInBounds_toArray, List.set_cons_zero, List.set_cons_succ])
              refine wpAny_ready (rs := [1, 5]) (by kernel_rfl) (by simp) ?_
              refine AllReady.cons (o := _) rfl (fun K hK => ?_) (AllReady.cons (o := _) rfl (fun K hK => ?_) (AllReady.nil))
              · go_simp
                (try (refine hK _ _ ?_; clear hK K))
                (try simp only [Act.put, List.setIfInBounds_toArray, List.set_cons_zero, List.set_cons_succ])
                refine wpAny_ready (rs := [5]) (by kernel_rfl) (by simp) ?_
                refine AllReady.cons (o := _) rfl (fun K hK => ?_) (AllReady.nil)
                go_simp
                (try (refine hK _ _ ?_; clear hK K))
                (try simp only [Act.put, List.setIfInBounds_toArray, List.set_cons_zero, List.set_cons_succ])
                refine wpAny_ready (rs := [6]) (by kernel_rfl) (by simp) ?_
                refine AllReady.cons (o := _) rfl (fun K hK => ?_) (AllReady.nil)
                go_simp
                (try (refine hK _ _ ?_; clear hK K))
                (try simp only [Act.put, List.setIfInBounds_toArray, List.set_cons_zero, List.set_cons_succ])
                refine wpAny_ready (rs := [7]) (by kernel_rfl) (by simp) ?_
                refine AllReady.cons (o := _) rfl (fun K hK => ?_) (AllReady.nil)
                refine step_append_rec Try.elStr (by rfl) _ _ (by rfl) (by rfl) (HO8.out.alloc _) y (by rfl) (Box.at_ _ [.string y] _ (by rfl)) (strE_one _) (by omega) (by decide) (by simp; omega) ?_
                intro A3 c3 w9 ho9 hg9 hb9
                have HM9 := Lib.hid ((HM.out.drew.alloc (.cells #[.string y] 9)).grown hg9 (fun k hk => by have := (HO8.out.blk hk).1; omega))
                have HR9 := Lib.hid (strs_grown ((HR.out.up (below_drewN (Below.refl _ _) 1)).alloc (.cells #[.string y] 9)) hg9 (fun e => by have := (HO8.out.blk e.symm).1; omega))
                have d5 := HM9.out.1.cell 2; have e5 := HM9.out.1.frozen 2
                simp only [List.getElem?_cons_zero, List.getElem?_cons_succ] at d5
                (try (refine hK _ _ ?_; clear hK K))
                (try simp only [Act.put, List.setIfInBounds_toArray, List.set_cons_zero, List.set_cons_succ])
                refine wpAny_ready (rs := [8]) (by kernel_rfl) (by simp) ?_
                refine AllReady.cons (o := _) rfl (fun K hK => ?_) (AllReady.nil)
                go_simp
                (try (refine hK _ _ ?_; clear hK K))
                (try simp only [Act.put, List.setIfInBounds_toArray, List.set_cons_zero, List.set_cons_succ])
                refine wpAny_ready (rs := [9]) (by kernel_rfl) (by simp) ?_
                refine AllReady.cons (o := _) rfl (fun K hK => ?_) (AllReady.nil)
                go_simp
                (try (refine hK _ _ ?_; clear hK K))
                (try simp only [Act.put, List.setIfInBounds_toArray, List.set_cons_zero, List.set_cons_succ])
                refine wpAny_done (by kernel_rfl) ?_ _
                (try simp only [Act.put, List.setIfInBounds_toArray, List.set_cons_zero, List.set_cons_succ])
                have HZ9 := Lib.hid (good_snoc HZ.out gy)
                have HMF := Lib.hid (HM9.out.put (v' := .slice A3 (m + 1 + q + 1) c3))
                have HOF := Lib.hid (own_put (b := w3.heap.size) (v' := .slice A3 (m + 1 + q + 1) c3) ho9 (by omega))
                have HRF := Lib.hid (strs_grown HR9.out (only_set w9 (p := ⟨w3.heap.size, 2, none⟩) (.slice A3 (m + 1 + q + 1) c3)) (fun e => by injection e with e; dsimp only at e; omega))
                have hs12 : wb ≤ (w9.setCell ⟨w3.heap.size, 2, none⟩ (.slice A3 (m + 1 + q + 1) c3)).heap.size := by have := hg9.size; simp at this ⊢; omega
                clear d2 d4 d5 e2 e5
                go_wp2
                go_roundw
                case rel => exact ⟨k, q + 1, A3, c3, L ++ [y], by omega, by go_num, HMF, HOF, HZ9, HRF, hs12⟩
                case measure => simp [intOf] <;> omega
              · go_simp
                (try (refine hK _ _ ?_; clear hK K))
                (try simp only [Act.put, List.setIfInBounds_toArray, List.set_cons_zero, List.set_cons_succ])
                refine wpAny_ready (rs := [1, 6]) (by kernel_rfl) (by simp) ?_
                refine AllReady.cons (o := _) rfl (fun K hK => ?_) (AllReady.cons (o := _) rfl (fun K hK => ?_) (AllReady.nil))
                · go_simp
                  (try (refine hK _ _ ?_; clear hK K))
                  (try simp only [Act.put, List.setIfInBounds_toArray, List.set_cons_zero, List.set_cons_succ])
                  refine wpAny_ready (rs := [6]) (by kernel_rfl) (by simp) ?_
                  refine AllReady.cons (o := _) rfl (fun K hK => ?_) (AllReady.nil)
                  go_simp
                  (try (refine hK _ _ ?_; clear hK K))
                  (try simp only [Act.put, List.setIfInBounds_toArray, List.set_cons_zero, List.set_cons_succ])
                  refine wpAny_ready (rs := [7]) (by kernel_rfl) (by simp) ?_
                  refine AllReady.cons (o := _) rfl (fun K hK => ?_) (AllReady.nil)
                  refine step_append_rec Try.elStr (by rfl) _ _ (by rfl) (by rfl) (HO8.out.alloc _) y (by rfl) (Box.at_ _ [.string y] _ (by rfl)) (strE_one _) (by omega) (by decide) (by simp; omega) ?_
                  intro A3 c3 w9 ho9 hg9 hb9
                  have HM9 := Lib.hid ((HM.out.drew.alloc (.cells #[.string y] 9)).grown hg9 (fun k hk => by have := (HO8.out.blk hk).1; omega))
                  have HR9 := Lib.hid (strs_grown ((HR.out.up (below_drewN (Below.refl _ _) 1)).alloc (.cells #[.string y] 9)) hg9 (fun e => by have := (HO8.out.blk e.symm).1; omega))
                  have d5 := HM9.out.1.cell 2; have e5 := HM9.out.1.frozen 2
                  simp only [List.getElem?_cons_zero, List.getElem?_cons_succ] at d5
                  (try (refine hK _ _ ?_; clear hK K))
                  (try simp only [Act.put, List.setIfInBounds_toArray, List.set_cons_zero, List.set_cons_succ])
                  refine wpAny_ready (rs := [8]) (by kernel_rfl) (by simp) ?_
                  refine AllReady.cons (o := _) rfl (fun K hK => ?_) (AllReady.nil)
                  go_simp
                  (try (refine hK _ _ ?_; clear hK K))
                  (try simp only [Act.put, List.setIfInBounds_toArray, List.set_cons_zero, List.set_cons_succ])
                  refine wpAny_ready (rs := [9]) (by kernel_rfl) (by simp) ?_
                  refine AllReady.cons (o := _) rfl (fun K hK => ?_) (AllReady.nil)
                  go_simp
                  (try (refine hK _ _ ?_; clear hK K))
                  (try simp only [Act.put, List.setIfInBounds_toArray, List.set_cons_zero, List.set_cons_succ])
                  refine wpAny_done (by kernel_rfl) ?_ _
                  (try simp only [Act.put, List.setIfInBounds_toArray, List.set_cons_zero, List.set_cons_succ])
                  have HZ9 := Lib.hid (good_snoc HZ.out gy)
                  have HMF := Lib.hid (HM9.out.put (v' := .slice A3 (m + 1 + q + 1) c3))
                  have HOF := Lib.hid (own_put (b := w3.heap.size) (v' := .slice A3 (m + 1 + q + 1) c3) ho9 (by omega))
                  have HRF := Lib.hid (strs_grown HR9.out (only_set w9 (p := ⟨w3.heap.size, 2, none⟩) (.slice A3 (m + 1 + q + 1) c3)) (fun e => by injection e with e; dsimp only at e; omega))
                  have hs12 : wb ≤ (w9.setCell ⟨w3.heap.size, 2, none⟩ (.slice A3 (m + 1 + q + 1) c3)).heap.size := by have := hg9.size; simp at this ⊢; omega
                  clear d2 d4 d5 e2 e5
                  go_wp2
                  go_roundw
                  case rel => exact ⟨k, q + 1, A3, c3, L ++ [y], by omega, by go_num, HMF, HOF, HZ9, HRF, hs12⟩
                  case measure => simp [intOf] <;> omega
                · go_simp
                  (try (refine hK _ _ ?_; clear hK K))
                  (try simp only [Act.put, List.setIfInBounds_toArray, List.set_cons_zero, List.set_cons_succ])
                  refine wpAny_ready (rs := [1]) (by kernel_rfl) (by simp) ?_
                  refine AllReady.cons (o := _) rfl (fun K hK => ?_) (AllReady.nil)
                  go_simp
                  (try (refine hK _ _ ?_; clear hK K))
                  (try simp only [Act.put, List.setIfInBounds_toArray, List.set_cons_zero, List.set_cons_succ])
                  refine wpAny_ready (rs := [7]) (by kernel_rfl) (by simp) ?_
                  refine AllReady.cons (o := _) rfl (fun K hK => ?_) (AllReady.nil)
                  refine step_append_rec Try.elStr (by rfl) _ _ (by rfl) (by rfl) (HO8.out.alloc _) y (by rfl) (Box.at_ _ [.string y] _ (by rfl)) (strE_one _) (by omega) (by decide) (by simp; omega) ?_
                  intro A3 c3 w9 ho9 hg9 hb9
                  have HM9 := Lib.hid ((HM.out.drew.alloc (.cells #[.string y] 9)).grown hg9 (fun k hk => by have := (HO8.out.blk hk).1; omega))
                  have HR9 := Lib.hid (strs_grown ((HR.out.up (below_drewN (Below.refl _ _) 1)).alloc (.cells #[.string y] 9)) hg9 (fun e => by have := (HO8.out.blk e.symm).1; omega))
                  have d5 := HM9.out.1.cell 2; have e5 := HM9.out.1.frozen 2
                  simp only [List.getElem?_cons_zero, List.getElem?_cons_succ] at d5
                  (try (refine hK _ _ ?_; clear hK K))
                  (try simp only [Act.put, List.setIfInBounds_toArray, List.set_cons_zero, List.set_cons_succ])
                  refine wpAny_ready (rs := [8]) (by kernel_rfl) (by simp) ?_
                  refine AllReady.cons (o := _) rfl (fun K hK => ?_) (AllReady.nil)
                  go_simp
                  (try (refine hK _ _ ?_; clear hK K))
                  (try simp only [Act.put, List.setIfInBounds_toArray, List.set_cons_zero, List.set_cons_succ])
                  refine wpAny_ready (rs := [9]) (by kernel_rfl) (by simp) ?_
                  refine AllReady.cons (o := _) rfl (fun K hK => ?_) (AllReady.nil)
                  go_simp
                  (try (refine hK _ _ ?_; clear hK K))
                  (try simp only [Act.put, List.setIfInBounds_toArray, List.set_cons_zero, List.set_cons_succ])
                  refine wpAny_done (by kernel_rfl) ?_ _
                  (try simp only [Act.put, List.setIfInBounds_toArray, List.set_cons_zero, List.set_cons_succ])
                  have HZ9 := Lib.hid (good_snoc HZ.out gy)
                  have HMF := Lib.hid (HM9.out.put (v' := .slice A3 (m + 1 + q + 1) c3))
                  have HOF := Lib.hid (own_put (b := w3.heap.size) (v' := .slice A3 (m + 1 + q + 1) c3) ho9 (by omega))
                  have HRF := Lib.hid (strs_grown HR9.out (only_set w9 (p := ⟨w3.heap.size, 2, none⟩) (.slice A3 (m + 1 + q + 1) c3)) (fun e => by injection e with e; dsimp only at e; omega))
                  have hs12 : wb ≤ (w9.setCell ⟨w3.heap.size, 2, none⟩ (.slice A3 (m + 1 + q + 1) c3)).heap.size := by have := hg9.size; simp at this ⊢; omega
                  clear d2 d4 d5 e2 e5
                  go_wp2
                  go_roundw
                  case rel => exact ⟨k, q + 1, A3, c3, L ++ [y], by omega, by go_num, HMF, HOF, HZ9, HRF, hs12⟩
                  case measure => simp [intOf] <;> omega
end Go.Proofs.Ytpccbmndgdiloaa
/- The walks through draws of rows and of rung rows. -/
namespace Go.Proofs.Ytpccbmndgdiloaa
set_option linter.unusedVariables false
set_option linter.unusedSimpArgs false
open Go.ChangeShapes Go.WideShapes Go.ChangeAt Go.RowKit Go.Deep
theorem flatMap_pre {α : Type} {e : α → List Value} {s : Nat} (he : ∀ x, (e x).length = s) : ∀ (l : List α) (m : Nat), (l.flatMap e).take (m * s) = (l.take m).flatMap e
  | [], m => by simp
  | y :: l, 0 => by simp
  | y :: l, m + 1 => by
    rw [List.take_succ_cons, List.flatMap_cons, List.flatMap_cons, List.take_append, he, Nat.succ_mul, show m * s + s - s = m * s by omega, flatMap_pre he l m, List.take_of_length_le (by rw [he]; omega)]
theorem Owned.pre {α : Type} {e : α → List Value} {s : Nat} {E : TypeId} {w : World} {base n c m : Nat} {A : Option Addr} {l : List α} (h : Owned e s E w base A n c l) (hm : m ≤ n) : Owned e s E w base A m c (l.take m) := by
  refine ⟨h.1, by rw [List.length_take, h.2.1]; omega, by rw [flatMap_len h.1, List.length_take, h.2.1, Nat.min_eq_left hm], ?_⟩
  rcases h.2.2.2 with ⟨h1, h2⟩ | ⟨g, cap, cur, hv, hb, hh, hnc, hcm, hsz, ht⟩
  · injection h1 with e1 e2 e3
    subst e1 e3
    obtain rfl : m = 0 := by omega
    exact .inl ⟨rfl, rfl⟩
  · injection hv with e1 e2 e3
    subst e1 e3
    refine .inr ⟨g, c, cur, rfl, hb, hh, by omega, hcm, hsz, ?_⟩
    rw [← flatMap_pre h.1 l m, ← ht, List.take_take, Nat.min_eq_left (Nat.mul_le_mul_right _ hm)]
/-- At most 8 bytes, all digits. -/
def digS (s : ByteArray) : Prop := s.size ≤ 8 ∧ ∀ k, k < s.size → 48 ≤ PlainAid.bt s k ∧ PlainAid.bt s k ≤ 57
theorem rowN_dig {n : Nat} {s : ByteArray} (h : RowN n s) : digS s := by
  have h1 := h.st
  have h2 := h.2
  refine ⟨by omega, fun k hk => ?_⟩
  have := row_at h.1 hk
  omega
theorem one_dig : digS ⟨#[49]⟩ := ⟨by decide, fun k hk => by
  have hk : k < 1 := hk
  obtain rfl : k = 0 := by omega
  exact ⟨by decide, by decide⟩⟩
set_option maxRecDepth 100000 in
theorem cur_row {A : Option Addr} {n c a p N : Nat} {w0 w : World} (hS : Src w0 A n) (hb : Below w0.heap.size w0 w) (hp : w0.heap.size ≤ p) (hc : Cur w p A n c a) (ha : a ≤ 10000000) (h3 : 3 ≤ N) (h8 : N ≤ 8) :
    Calls Try.prog 167 #[.pointer (some ⟨p, 0, none⟩), .int .i64 N] w fun e w' => ∃ r, e = .returned (.string r) ∧ RowN N r ∧ Cur w' p A n c (a + 2) ∧ w.grownBy w' (some p) := by
  have hf := fact_le8 h8
  have hfp := fact_pos N
  go_in
  go_wp2_with (go_at_call 123; refine (spec_l1Fact h8).mono ?_; rintro e w' ⟨rfl, rfl⟩)
  refine (cur_pickL hS hb hp hc ha (by omega) (by omega)).mono ?_; rintro e w1 ⟨x, rfl, ⟨x0, x1⟩, hc1, hg1⟩
  obtain ⟨X, rfl⟩ := Int.eq_ofNat_of_zero_le x0
  have hX : X < fact N := by omega
  clear x0 x1
  go_wp2_with fail
  refine (spec_RowOf h3 h8 hX).mono ?_; rintro e w2 ⟨r, rfl, hr, hb2⟩
  go_wp2
  go_ret
  exact ⟨r, rfl, hr, hc1.up hb2, grownBy_trans hg1 (grown_any hb2 _)⟩
set_option maxHeartbeats 1000000 in
set_option maxRecDepth 100000 in
theorem cur_rowsOf {A : Option Addr} {n c a p N M : Nat} {w0 w : World} (hS : Src w0 A n) (hb : Below w0.heap.size w0 w) (hp : w0.heap.size ≤ p) (hc : Cur w p A n c a) (ha : a ≤ 1000000) (h3 : 3 ≤ N) (h8 : N ≤ 8) (hM : M ≤ 20) :
    Calls Try.prog 87 #[.pointer (some ⟨p, 0, none⟩), .int .i64 N, .int .i64 M] w fun e w' => ∃ A' m c' L, e = .returned (.slice A' m c') ∧ m ≤ M ∧ (∀ s ∈ L, digS s) ∧ Owned strE 1 9 w' w.heap.size A' m c' L ∧ Cur w' p A n c (a + 50) ∧ w.grownBy w' (some p) := by
  have hpw := hc.lt
  have G : Hid (∀ u : World, w.grownBy u (some p) → Below w0.heap.size w0 u) := Lib.hid (fun u hg => grown_below hb hp hg)
  have HS := Lib.hid hS
  go_in
  go_wp2_with fail
  refine (cur_pick hS hb hp hc (by omega) (by omega) (by omega)).mono ?_; rintro e w1 ⟨x, rfl, ⟨x0, x1⟩, hc1, hg1⟩
  obtain ⟨X, rfl⟩ := Int.eq_ofNat_of_zero_le x0
  have hX : X ≤ M := by omega
  have HC1 := Lib.hid hc1
  have HG1 := Lib.hid hg1
  clear x0 x1 hb hc hS hc1 hg1
  go_wp2
  go_loopw [7, 8] (fun v i wr => ∃ (k m : Nat) (A' : Option Addr) (c' : Nat) (L : List ByteArray), k ≤ X ∧ i = .int .i64 k ∧ v = .slice A' m c' ∧ m + k ≤ X ∧ Hid (∀ s ∈ L, digS s) ∧ Hid (Owned strE 1 9 wr w.heap.size A' m c' L) ∧ Hid (Cur wr p A n c (a + 1 + 2 * (X - k))) ∧ Hid (w.grownBy wr (some p))) (fun _ i _ => (intOf i).toNat)
  case atStart => exact ⟨X, 0, none, 0, [], Nat.le_refl _, rfl, rfl, by omega, Lib.hid (fun s hs => by cases hs), Lib.hid (Owned.nil strE_len _ _ _), Lib.hid (HC1.out.mono (by omega)), HG1⟩
  case round =>
    obtain ⟨k, m, A2, c2, L, hk, rfl, rfl, hmk, HZ, HO, HC, HG⟩ := hrel
    rename World => wr
    have hsr := HG.out.size
    by_cases h0 : 0 < k
    · have hI : (0 : Int) < (k : Int) := by omega
      go_wp2_with fail
      refine (cur_row HS.out (G.out _ HG.out) hp HC.out (by omega) h3 h8).mono ?_; rintro e w4 ⟨y, rfl, hy, hc4, hg4⟩
      have HO4 := Lib.hid (HO.out.past hg4 hpw)
      have HC4 := Lib.hid hc4
      have HG4 := Lib.hid (grownBy_trans HG.out hg4)
      have hs4 := HG4.out.size
      have HY := Lib.hid (rowN_dig hy)
      clear hc4 hg4 hy
      go_wp2_with (first | (at_builtin; go_must ((refine wpList_append_recs Try.elStr strE_one rfl (.tmp 17) (.tmp 21) rfl rfl (HO4.out.alloc _) rfl (own_lit1_at' strE_len _ 9 y rfl (Nat.le_refl _)).recs rfl ?_ (by decide) ?_ ?_; (focus (first | omega | (simp only [World.size_alloc]; done) | (simp only [World.size_alloc]; omega) | (simp; done) | (simp; omega))); (simp; omega); intro A3 c3 w6 ho6 hg6 hl6; have HO6 := Lib.hid ho6; have HC6 := Lib.hid ((HC4.out.up ((Below.refl _ _).alloc (Nat.le_refl _) _)).grown hg6 (fun e => by have := (HO4.out.blk e.symm).1; omega)); have HG6 := Lib.hid (grow_own (grownBy_trans HG4.out (World.grownBy_alloc _ _ _)) hg6 (fun k hk => (HO4.out.blk hk).1)); clear ho6 hg6 hl6))))
      go_roundw
      case rel => exact ⟨k - 1, m + 1, A3, c3, L ++ [y], by omega, by go_num, rfl, by omega, Lib.hid (fun s hs => by
          rcases List.mem_append.1 hs with hs | hs
          · exact HZ.out s hs
          · rw [List.mem_singleton.1 hs]; exact HY.out), HO6, Lib.hid (HC6.out.mono (by omega)), HG6⟩
      case measure => simp [intOf]; omega
    · obtain rfl : k = 0 := by omega
      by_cases hm0 : 0 < m
      · have hI : (0 : Int) < (m : Int) := by omega
        have hL2 := HO.out.len
        go_wp2_with fail
        refine (cur_one HS.out (G.out _ HG.out) hp HC.out (by omega) (by decide) (by decide)).mono ?_; rintro e w4 ⟨b, rfl, hc4, hg4⟩
        have HO4 := Lib.hid (HO.out.past hg4 hpw)
        have HC4 := Lib.hid hc4
        have HG4 := Lib.hid (grownBy_trans HG.out hg4)
        clear hc4 hg4
        rcases b
        · go_wp2
          go_ret
          exact ⟨_, _, _, L, rfl, by omega, HZ.out, HO4.out, HC4.out.mono (by omega), HG4.out⟩
        · obtain ⟨f, rfl, f0, f1, fc, ff⟩ := HO4.out.at_ (by omega)
          obtain ⟨y, hy⟩ := some_of_lt (l := L) (k := 0) (by omega)
          have cf := fc 0 y 0 _ hy rfl
          have zf := ff 0
          simp only [Nat.mul_one, Nat.add_zero, Nat.zero_mul] at cf
          have pt := HO4.out.put (k := 0) (j := 0) (x := ⟨#[49]⟩) (u := .string ⟨#[49]⟩) hy (by decide) rfl
          simp only [Nat.mul_one, Nat.add_zero, Nat.zero_mul] at pt
          have HPT := Lib.hid pt
          clear fc ff hy pt
          go_wp2
          go_ret
          exact ⟨_, _, _, L.set 0 ⟨#[49]⟩, rfl, by omega, fun s hs => by
            rcases List.mem_or_eq_of_mem_set hs with hs | hs
            · exact HZ.out s hs
            · rw [hs]; exact one_dig, HPT.out.1, (HC4.out.grown HPT.out.2 (fun e => by injection e with e; omega)).mono (by omega), grow_own HG4.out HPT.out.2 (fun k e => by injection e with e; omega)⟩
      · have hI : ¬ (0 : Int) < (m : Int) := by omega
        obtain rfl : m = 0 := by omega
        go_wp2
        go_ret
        exact ⟨_, _, _, rfl, by omega, L, HZ.out, HO.out, HC.out.mono (by omega), HG.out⟩
set_option maxHeartbeats 4000000 in
set_option maxRecDepth 100000 in
theorem cur_rung {A : Option Addr} {n c a p : Nat} {w0 w : World} (hS : Src w0 A n) (hb : Below w0.heap.size w0 w) (hp : w0.heap.size ≤ p) (hc : Cur w p A n c a) (ha : a ≤ 900000) :
    Calls Try.prog 120 #[.pointer (some ⟨p, 0, none⟩)] w fun e w' => ∃ A' m c' L, e = .returned (.slice A' m c') ∧ m ≤ 400 ∧ (∀ s ∈ L, digS s) ∧ Owned strE 1 9 w' w.heap.size A' m c' L ∧ Cur w' p A n c (a + 200) ∧ w.grownBy w' (some p) := by
  have hpw := hc.lt
  have G : Hid (∀ u : World, w.grownBy u (some p) → Below w0.heap.size w0 u) := Lib.hid (fun u hg => grown_below hb hp hg)
  have HS := Lib.hid hS
  go_in
  go_wp2_with fail
  refine (cur_method hS hb hp hc (by omega)).mono ?_; rintro e w1 ⟨nm, st, A1, m1, c1, L1, rfl, hgm, h3, h6, hm12, ho1, hc1, hg1⟩
  have hgt := goodM_t hgm
  have hl1 := ho1.len
  have hm1 : 1 ≤ m1 := by omega
  have hsm : ∀ s ∈ L1, s.size ≤ 16777216 := fun s hs => by
    have := goodChange_small (allCh_mem hgt.2.2.2 s hs); omega
  have K1 := Blk.at_ w1 26 [.string nm, .int .i64 (st : Int), .slice A1 m1 c1] (b := w1.heap.size) rfl
  have a1 : Below w1.heap.size w1 (w1.alloc (.cells #[.string nm, .int .i64 (st : Int), .slice A1 m1 c1] 26)) := by (repeat' (first | (with_reducible exact Below.refl _ _) | (with_reducible assumption) | (with_reducible refine below_drewN ?_ _) | (with_reducible refine Below.drew ?_) | (with_reducible refine below_alloc ?_ _) | (with_reducible refine Below.alloc ?_ ?_ _) | (with_reducible refine Below.setCell ?_ ?_ _) | (with_reducible refine below_go ?_ (by with_reducible assumption)) | (with_reducible refine below_then (by with_reducible assumption) ?_ ?_) | go_size))
  have HL1 := Lib.hid hl1
  have HM := Lib.hid hsm
  have HO1 := Lib.hid (ho1.up a1)
  have HC1 := Lib.hid (hc1.up a1)
  have HG1 := Lib.hid (grownBy_trans hg1 (grown_any a1 _))
  have s1 := hg1.size
  clear hgm hgt hl1 hsm ho1 hc1 hg1 hc hS hb
  go_wp2_with fail
  obtain ⟨w2, hw2⟩ : ∃ u, u = w1.alloc (.cells #[.string nm, .int .i64 (st : Int), .slice A1 m1 c1] 26) := ⟨_, rfl⟩
  have z2 : w2.heap.size = w1.heap.size + 1 := by rw [hw2]; simp
  rw [← hw2] at K1 HO1 HC1 HG1 ⊢
  clear hw2 a1
  refine (spec_l4Course HL1.out HO1.out.recs hm12 hm1 HM.out h3 h6).mono ?_; rintro e w3 ⟨A3, m3, c3, L3, rfl, hm3, hm3', HR3, ho3, hb3⟩
  have KK := Lib.hid (K1.up hb3)
  have HC3 := Lib.hid (HC1.out.up hb3)
  have HG3 := Lib.hid (grownBy_trans HG1.out (grown_any hb3 _))
  have HO3 := Lib.hid ho3
  have HZ3 : Hid (∀ s ∈ L3, digS s) := Lib.hid (fun s hs => rowN_dig (HR3.out s hs))
  have hcap := ho3.cap.1
  have s3 := hb3.size
  obtain ⟨g3, rfl, g3lo, _⟩ := ho3.at_ (by omega)
  clear K1 HO1 HC1 HG1 ho3 hb3 HR3
  by_cases h200 : 200 < m3
  · have hI : (200 : Int) < (m3 : Int) := by omega
    have hI2 : (200 : Int) ≤ (c3 : Int) := by omega
    have HOP := Lib.hid (HO3.out.pre (m := 200) (by omega))
    have HZP : Hid (∀ s ∈ L3.take 200, digS s) := Lib.hid (fun s hs => HZ3.out s (List.mem_of_mem_take hs))
    obtain ⟨LP, hLP⟩ : ∃ LP, LP = L3.take 200 := ⟨_, rfl⟩
    rw [← hLP] at HOP HZP
    clear hLP HO3 HZ3
    go_wp2_with fail
    refine (cur_pick HS.out (G.out _ HG3.out) hp HC3.out (by omega) (by omega) (by omega)).mono ?_; rintro e w5 ⟨x, rfl, ⟨x0, x1⟩, hc5, hg5⟩
    obtain ⟨X, rfl⟩ := Int.eq_ofNat_of_zero_le x0
    have hX : X ≤ 5 := by omega
    have HO5 := Lib.hid (HOP.out.past hg5 (by omega))
    have HC5 := Lib.hid hc5
    have HG5 := Lib.hid (grownBy_trans HG3.out hg5)
    have HK5 := Lib.hid (KK.out.grown hg5 (fun e => by injection e with e; omega))
    have s5 := HG5.out.size
    clear x0 x1 hc5 hg5 HOP HC3 HG3 KK
    by_cases X0 : X = 0
    · subst X0
      go_wp2_with fail
      refine (spec_l1OwnS HO5.out.len HO5.out.recs (by omega)).mono ?_; rintro e w6 ⟨A6, c6, rfl, ho6, hb6⟩
      have HO6 := Lib.hid ho6
      have HR6 := Lib.hid (HO5.out.recs.up hb6)
      have HC6 := Lib.hid (HC5.out.up hb6)
      have HG6 := Lib.hid (grownBy_trans HG5.out (grown_any hb6 _))
      have hlen := Lib.hid HO5.out.len
      have s6 := hb6.size
      clear ho6 hb6
      go_wp2_with (first | (at_builtin; go_must ((refine wpList_append_recs Try.elStr strE_one rfl (.tmp 19) (.tmp 20) rfl rfl HO6.out rfl HR6.out hlen.out ?_ (by decide) ?_ ?_; (focus (first | omega | (simp only [World.size_alloc]; done) | (simp only [World.size_alloc]; omega) | (simp; done) | (simp; omega))); omega; intro A7 c7 w7 ho7 hg7 hl7; have HO7 := Lib.hid ho7; have HC7 := Lib.hid (HC6.out.grown hg7 (fun e => by have := (HO6.out.blk e.symm).1; omega)); have HG7 := Lib.hid (grow_own HG6.out hg7 (fun k hk => by have := (HO6.out.blk hk).1; omega)); clear ho7 hg7 hl7))))
      go_ret
      exact ⟨_, _, _, LP ++ LP, rfl, by omega, fun s hs => by
        rcases List.mem_append.1 hs with hs | hs
        · exact HZP.out s hs
        · exact HZP.out s hs, HO7.out.base_le (by omega), HC7.out.mono (by omega), HG7.out⟩
    · have X0I : ¬ (X : Int) = 0 := by omega
      by_cases X1 : X = 1
      · subst X1
        go_wp2_with fail
        refine (cur_pick HS.out (G.out _ HG5.out) hp HC5.out (by omega) (by omega) (by omega)).mono ?_; rintro e w6 ⟨y, rfl, ⟨y0, y1⟩, hc6, hg6⟩
        obtain ⟨Y, rfl⟩ := Int.eq_ofNat_of_zero_le y0
        have hY : 1 + Y ≤ 200 := by omega
        have hYc : (1 : Int) + (Y : Int) ≤ (c3 : Int) := by omega
        have hY0 : (0 : Int) ≤ (1 : Int) + (Y : Int) := by omega
        have HO6 := Lib.hid ((HO5.out.past hg6 (by omega)).pre hY)
        have HC6 := Lib.hid hc6
        have HG6 := Lib.hid (grownBy_trans HG5.out hg6)
        clear y0 y1 hc6 hg6
        go_wp2
        go_ret
        exact ⟨_, 1 + Y, _, LP.take (1 + Y), rfl, by omega, fun s hs => HZP.out s (List.mem_of_mem_take hs), HO6.out.base_le (by omega), HC6.out.mono (by omega), HG6.out⟩
      · have X1I : ¬ (X : Int) = 1 := by omega
        by_cases X2 : X = 2
        · subst X2
          have k1 := HK5.out.cell 1
          simp only [List.getElem?_cons_zero, List.getElem?_cons_succ] at k1
          go_wp2_with fail
          refine (cur_rowsOf (N := st) (M := 8) HS.out (G.out _ HG5.out) hp HC5.out (by omega) h3 (by omega) (by omega)).mono ?_; rintro e w6 ⟨A6, m6, c6, L6, rfl, hm6, hz6, ho6, hc6, hg6⟩
          go_wp2
          go_ret
          exact ⟨_, m6, _, L6, rfl, by omega, hz6, ho6.base_le (by omega), hc6.mono (by omega), grownBy_trans HG5.out hg6⟩
        · have X2I : ¬ (X : Int) = 2 := by omega
          go_wp2
          go_ret
          exact ⟨_, _, _, LP, rfl, by omega, HZP.out, HO5.out.base_le (by omega), HC5.out.mono (by omega), HG5.out⟩
  · have hI : ¬ (200 : Int) < (m3 : Int) := by omega
    have HOP := HO3
    have HZP := HZ3
    obtain ⟨LP, hLP⟩ : ∃ LP, LP = L3 := ⟨_, rfl⟩
    rw [← hLP] at HOP HZP
    clear hLP HO3 HZ3
    go_wp2_with fail
    refine (cur_pick HS.out (G.out _ HG3.out) hp HC3.out (by omega) (by omega) (by omega)).mono ?_; rintro e w5 ⟨x, rfl, ⟨x0, x1⟩, hc5, hg5⟩
    obtain ⟨X, rfl⟩ := Int.eq_ofNat_of_zero_le x0
    have hX : X ≤ 5 := by omega
    have HO5 := Lib.hid (HOP.out.past hg5 (by omega))
    have HC5 := Lib.hid hc5
    have HG5 := Lib.hid (grownBy_trans HG3.out hg5)
    have HK5 := Lib.hid (KK.out.grown hg5 (fun e => by injection e with e; omega))
    have s5 := HG5.out.size
    clear x0 x1 hc5 hg5 HOP HC3 HG3 KK
    by_cases X0 : X = 0
    · subst X0
      go_wp2_with fail
      refine (spec_l1OwnS HO5.out.len HO5.out.recs (by omega)).mono ?_; rintro e w6 ⟨A6, c6, rfl, ho6, hb6⟩
      have HO6 := Lib.hid ho6
      have HR6 := Lib.hid (HO5.out.recs.up hb6)
      have HC6 := Lib.hid (HC5.out.up hb6)
      have HG6 := Lib.hid (grownBy_trans HG5.out (grown_any hb6 _))
      have hlen := Lib.hid HO5.out.len
      have s6 := hb6.size
      clear ho6 hb6
      go_wp2_with (first | (at_builtin; go_must ((refine wpList_append_recs Try.elStr strE_one rfl (.tmp 19) (.tmp 20) rfl rfl HO6.out rfl HR6.out hlen.out ?_ (by decide) ?_ ?_; (focus (first | omega | (simp only [World.size_alloc]; done) | (simp only [World.size_alloc]; omega) | (simp; done) | (simp; omega))); omega; intro A7 c7 w7 ho7 hg7 hl7; have HO7 := Lib.hid ho7; have HC7 := Lib.hid (HC6.out.grown hg7 (fun e => by have := (HO6.out.blk e.symm).1; omega)); have HG7 := Lib.hid (grow_own HG6.out hg7 (fun k hk => by have := (HO6.out.blk hk).1; omega)); clear ho7 hg7 hl7))))
      go_ret
      exact ⟨_, _, _, LP ++ LP, rfl, by omega, fun s hs => by
        rcases List.mem_append.1 hs with hs | hs
        · exact HZP.out s hs
        · exact HZP.out s hs, HO7.out.base_le (by omega), HC7.out.mono (by omega), HG7.out⟩
    · have X0I : ¬ (X : Int) = 0 := by omega
      by_cases X1 : X = 1
      · subst X1
        go_wp2_with fail
        refine (cur_pick HS.out (G.out _ HG5.out) hp HC5.out (by omega) (by omega) (by omega)).mono ?_; rintro e w6 ⟨y, rfl, ⟨y0, y1⟩, hc6, hg6⟩
        obtain ⟨Y, rfl⟩ := Int.eq_ofNat_of_zero_le y0
        have hY : 1 + Y ≤ m3 := by omega
        have hYc : (1 : Int) + (Y : Int) ≤ (c3 : Int) := by omega
        have hY0 : (0 : Int) ≤ (1 : Int) + (Y : Int) := by omega
        have HO6 := Lib.hid ((HO5.out.past hg6 (by omega)).pre hY)
        have HC6 := Lib.hid hc6
        have HG6 := Lib.hid (grownBy_trans HG5.out hg6)
        clear y0 y1 hc6 hg6
        go_wp2
        go_ret
        exact ⟨_, 1 + Y, _, LP.take (1 + Y), rfl, by omega, fun s hs => HZP.out s (List.mem_of_mem_take hs), HO6.out.base_le (by omega), HC6.out.mono (by omega), HG6.out⟩
      · have X1I : ¬ (X : Int) = 1 := by omega
        by_cases X2 : X = 2
        · subst X2
          have k1 := HK5.out.cell 1
          simp only [List.getElem?_cons_zero, List.getElem?_cons_succ] at k1
          go_wp2_with fail
          refine (cur_rowsOf (N := st) (M := 8) HS.out (G.out _ HG5.out) hp HC5.out (by omega) h3 (by omega) (by omega)).mono ?_; rintro e w6 ⟨A6, m6, c6, L6, rfl, hm6, hz6, ho6, hc6, hg6⟩
          go_wp2
          go_ret
          exact ⟨_, m6, _, L6, rfl, by omega, hz6, ho6.base_le (by omega), hc6.mono (by omega), grownBy_trans HG5.out hg6⟩
        · have X2I : ¬ (X : Int) = 2 := by omega
          go_wp2
          go_ret
          exact ⟨_, _, _, LP, rfl, by omega, HZP.out, HO5.out.base_le (by omega), HC5.out.mono (by omega), HG5.out⟩
set_option maxHeartbeats 1000000 in
set_option maxRecDepth 100000 in
theorem cur_rungFew {A : Option Addr} {n c a p : Nat} {w0 w : World} (hS : Src w0 A n) (hb : Below w0.heap.size w0 w) (hp : w0.heap.size ≤ p) (hc : Cur w p A n c a) (ha : a ≤ 900000) :
    Calls Try.prog 141 #[.pointer (some ⟨p, 0, none⟩)] w fun e w' => ∃ A' m c' L, e = .returned (.slice A' m c') ∧ m ≤ 12 ∧ (∀ s ∈ L, digS s) ∧ Owned strE 1 9 w' w.heap.size A' m c' L ∧ Cur w' p A n c (a + 200) ∧ w.grownBy w' (some p) := by
  go_in
  go_wp2_with fail
  refine (cur_rung hS hb hp hc ha).mono ?_; rintro e w1 ⟨A1, m1, c1, L1, rfl, hm, hz, ho, hc1, hg1⟩
  by_cases h12 : 12 < m1
  · have hI : (12 : Int) < (m1 : Int) := by omega
    have hcap := ho.cap.1
    have hI2 : (12 : Int) ≤ (c1 : Int) := by omega
    obtain ⟨g3, rfl, g3lo, _⟩ := ho.at_ (by omega)
    go_wp2
    go_ret
    exact ⟨_, 12, _, L1.take 12, rfl, Nat.le_refl _, fun s hs => hz s (List.mem_of_mem_take hs), ho.pre (by omega), hc1, hg1⟩
  · have hI : ¬ (12 : Int) < (m1 : Int) := by omega
    go_wp2
    go_ret
    exact ⟨_, m1, _, L1, rfl, by omega, hz, ho, hc1, hg1⟩
end Go.Proofs.Ytpccbmndgdiloaa
/- The walks through the generators of touches and calls. -/
namespace Go.Proofs.Ytpccbmndgdiloaa
set_option linter.unusedVariables false
set_option linter.unusedSimpArgs false
open Go.ChangeShapes Go.WideShapes Go.ChangeAt Go.RowKit Go.Deep
theorem sets3_grown (u : World) (r : Nat) (a b c : Value) : u.grownBy (((u.setCell ⟨r, 0, none⟩ a).setCell ⟨r, 1, none⟩ b).setCell ⟨r, 2, none⟩ c) (some r) :=
  grownBy_trans (grownBy_trans (only_set _ (p := ⟨r, 0, none⟩) _) (only_set _ (p := ⟨r, 1, none⟩) _)) (only_set _ (p := ⟨r, 2, none⟩) _)
theorem sets2_grown (u : World) (r : Nat) (a b : Value) : u.grownBy ((u.setCell ⟨r, 0, none⟩ a).setCell ⟨r, 1, none⟩ b) (some r) :=
  grownBy_trans (only_set _ (p := ⟨r, 0, none⟩) _) (only_set _ (p := ⟨r, 1, none⟩) _)
set_option maxHeartbeats 4000000 in
set_option maxRecDepth 100000 in
theorem cur_called {A : Option Addr} {n c a p : Nat} {w0 w : World} (hS : Src w0 A n) (hb : Below w0.heap.size w0 w) (hp : w0.heap.size ≤ p) (hc : Cur w p A n c a) (ha : a ≤ 100000) :
    Calls Try.prog 154 #[.pointer (some ⟨p, 0, none⟩)] w fun e w' => ∃ (nm : ByteArray) (st : Nat) (A' : Option Addr) (m c' : Nat) (L : List ByteArray) (kb ks : ByteArray), e = .returned (.tuple #[.agg #[.string nm, .int .i64 st, .slice A' m c'], .agg #[.string kb, .string ks]]) ∧ goodM nm st L = true ∧ 3 ≤ st ∧ st ≤ 6 ∧ kb.size ≤ 8 ∧ ks.size ≤ 8 ∧ m ≤ 12 ∧ Owned strE 1 9 w' w.heap.size A' m c' L ∧ Cur w' p A n c (a + 102) ∧ w.grownBy w' (some p) := by
  have hpw := hc.lt
  have R0 := (Blk.at_ w 26 [.string ⟨#[]⟩, .int .i64 0, .slice none 0 0] (b := w.heap.size) rfl).alloc (.cells #[.string ⟨#[]⟩, .string ⟨#[]⟩] 28)
  have Q0 := Blk.at_ (w.alloc (.cells #[.string ⟨#[]⟩, .int .i64 0, .slice none 0 0] 26)) 28 [.string ⟨#[]⟩, .string ⟨#[]⟩] (b := w.heap.size + 1) (by simp)
  have b0 : Below w.heap.size w ((w.alloc (.cells #[.string ⟨#[]⟩, .int .i64 0, .slice none 0 0] 26)).alloc (.cells #[.string ⟨#[]⟩, .string ⟨#[]⟩] 28)) := by (repeat' (first | (with_reducible exact Below.refl _ _) | (with_reducible assumption) | (with_reducible refine below_drewN ?_ _) | (with_reducible refine Below.drew ?_) | (with_reducible refine below_alloc ?_ _) | (with_reducible refine Below.alloc ?_ ?_ _) | (with_reducible refine Below.setCell ?_ ?_ _) | (with_reducible refine below_go ?_ (by with_reducible assumption)) | (with_reducible refine below_then (by with_reducible assumption) ?_ ?_) | go_size))
  have G : Hid (∀ u : World, w.grownBy u (some p) → Below w0.heap.size w0 u) := Lib.hid (fun u hg => grown_below hb hp hg)
  have HS := Lib.hid hS
  clear hS hb
  go_in
  go_wp2_with fail
  obtain ⟨w1, hw1⟩ : ∃ u, u = (w.alloc (.cells #[.string ⟨#[]⟩, .int .i64 0, .slice none 0 0] 26)).alloc (.cells #[.string ⟨#[]⟩, .string ⟨#[]⟩] 28) := ⟨_, rfl⟩
  have z1 : w1.heap.size = w.heap.size + 2 := by rw [hw1]; simp
  rw [← hw1] at b0 R0 Q0 ⊢
  clear hw1
  refine (cur_method HS.out (G.out _ (grown_any b0 _)) hp (hc.up b0) (by omega)).mono ?_; rintro e w2 ⟨nm, st, A2, m, c2, L, rfl, hgm, h3, h6, hm, ho2, hc2, hg2⟩
  have g2 : w.grownBy w2 (some p) := grownBy_trans (grown_any b0 _) hg2
  have s2 := hg2.size
  have R2 := R0.grown hg2 (fun e => by injection e with e; omega)
  have Q2 := Q0.grown hg2 (fun e => by injection e with e; omega)
  have K2 := Blk.at_ w2 26 [.string nm, .int .i64 (st : Int), .slice A2 m c2] (b := w2.heap.size) rfl
  have a2 : Below w2.heap.size w2 (w2.alloc (.cells #[.string nm, .int .i64 (st : Int), .slice A2 m c2] 26)) := by (repeat' (first | (with_reducible exact Below.refl _ _) | (with_reducible assumption) | (with_reducible refine below_drewN ?_ _) | (with_reducible refine Below.drew ?_) | (with_reducible refine below_alloc ?_ _) | (with_reducible refine Below.alloc ?_ ?_ _) | (with_reducible refine Below.setCell ?_ ?_ _) | (with_reducible refine below_go ?_ (by with_reducible assumption)) | (with_reducible refine below_then (by with_reducible assumption) ?_ ?_) | go_size))
  have HO := Lib.hid (ho2.up a2)
  have HC := Lib.hid (hc2.up a2)
  have HG := Lib.hid (grownBy_trans g2 (grown_any a2 _))
  have R3 := R2.up a2; have Q3 := Q2.up a2
  have HGM := Lib.hid hgm
  clear R0 Q0 R2 Q2 hc ho2 hc2 hg2 g2 hgm
  go_upto_region 2 with fail
  obtain ⟨w3, hw3⟩ : ∃ u, u = w2.alloc (.cells #[.string nm, .int .i64 (st : Int), .slice A2 m c2] 26) := ⟨_, rfl⟩
  rw [← hw3] at K2 a2 HO HC HG R3 Q3 ⊢
  have s3 : w3.heap.size = w2.heap.size + 1 := by rw [hw3]; simp
  clear hw3
  have carry : Hid (∀ u : World, w3.grownBy u (some p) → u.cell? ⟨w2.heap.size, 0, none⟩ = some (.string nm) ∧ u.cell? ⟨w2.heap.size, 1, none⟩ = some (.int .i64 (st : Int)) ∧ u.cell? ⟨w2.heap.size, 2, none⟩ = some (.slice A2 m c2)) := Lib.hid (fun u hu => by
    have J := K2.grown hu (fun e => by injection e with e; omega)
    exact ⟨by simpa using J.cell 0, by simpa using J.cell 1, by simpa using J.cell 2⟩)
  have carB : Hid (∀ u : World, w3.grownBy u (some p) → (u.cell? ⟨w.heap.size, 0, none⟩ = some (.string ⟨#[]⟩) ∧ u.cell? ⟨w.heap.size, 1, none⟩ = some (.int .i64 0) ∧ u.cell? ⟨w.heap.size, 2, none⟩ = some (.slice none 0 0)) ∧ (u.frozen? ⟨w.heap.size, 0, none⟩ = false ∧ u.frozen? ⟨w.heap.size, 1, none⟩ = false ∧ u.frozen? ⟨w.heap.size, 2, none⟩ = false) ∧ (u.cell? ⟨w.heap.size + 1, 0, none⟩ = some (.string ⟨#[]⟩) ∧ u.cell? ⟨w.heap.size + 1, 1, none⟩ = some (.string ⟨#[]⟩)) ∧ u.frozen? ⟨w.heap.size + 1, 0, none⟩ = false ∧ u.frozen? ⟨w.heap.size + 1, 1, none⟩ = false) := Lib.hid (fun u hu => by
    have J := R3.grown hu (fun e => by injection e with e; omega)
    have J2 := Q3.grown hu (fun e => by injection e with e; omega)
    exact ⟨⟨by simpa using J.cell 0, by simpa using J.cell 1, by simpa using J.cell 2⟩, ⟨J.frozen 0, J.frozen 1, J.frozen 2⟩, ⟨by simpa using J2.cell 0, by simpa using J2.cell 1⟩, J2.frozen 0, J2.frozen 1⟩)
  have far3 : Hid (∀ (u : World) (x y z : Value), (u.cell? ⟨w2.heap.size, 0, none⟩ = some (.string nm) ∧ u.cell? ⟨w2.heap.size, 1, none⟩ = some (.int .i64 (st : Int)) ∧ u.cell? ⟨w2.heap.size, 2, none⟩ = some (.slice A2 m c2)) → w2.heap.size < u.heap.size → ((((u.setCell ⟨w.heap.size, 0, none⟩ x).setCell ⟨w.heap.size, 1, none⟩ y).setCell ⟨w.heap.size, 2, none⟩ z).cell? ⟨w2.heap.size, 0, none⟩ = some (.string nm) ∧ (((u.setCell ⟨w.heap.size, 0, none⟩ x).setCell ⟨w.heap.size, 1, none⟩ y).setCell ⟨w.heap.size, 2, none⟩ z).cell? ⟨w2.heap.size, 1, none⟩ = some (.int .i64 (st : Int)) ∧ (((u.setCell ⟨w.heap.size, 0, none⟩ x).setCell ⟨w.heap.size, 1, none⟩ y).setCell ⟨w.heap.size, 2, none⟩ z).cell? ⟨w2.heap.size, 2, none⟩ = some (.slice A2 m c2))) := Lib.hid (fun u x y z h hu => by
    have q : ∀ o : Nat, (((u.setCell ⟨w.heap.size, 0, none⟩ x).setCell ⟨w.heap.size, 1, none⟩ y).setCell ⟨w.heap.size, 2, none⟩ z).cell? ⟨w2.heap.size, o, none⟩ = u.cell? ⟨w2.heap.size, o, none⟩ := fun o => (sets3_grown u w.heap.size x y z).cell_far ⟨w2.heap.size, o, none⟩ hu (fun e => by injection e with e; dsimp only at e; omega)
    rw [q, q, q]; exact h)
  have far2 : Hid (∀ (u : World) (x y : Value), (u.cell? ⟨w2.heap.size, 0, none⟩ = some (.string nm) ∧ u.cell? ⟨w2.heap.size, 1, none⟩ = some (.int .i64 (st : Int)) ∧ u.cell? ⟨w2.heap.size, 2, none⟩ = some (.slice A2 m c2)) → w2.heap.size < u.heap.size → (((u.setCell ⟨w.heap.size + 1, 0, none⟩ x).setCell ⟨w.heap.size + 1, 1, none⟩ y).cell? ⟨w2.heap.size, 0, none⟩ = some (.string nm) ∧ ((u.setCell ⟨w.heap.size + 1, 0, none⟩ x).setCell ⟨w.heap.size + 1, 1, none⟩ y).cell? ⟨w2.heap.size, 1, none⟩ = some (.int .i64 (st : Int)) ∧ ((u.setCell ⟨w.heap.size + 1, 0, none⟩ x).setCell ⟨w.heap.size + 1, 1, none⟩ y).cell? ⟨w2.heap.size, 2, none⟩ = some (.slice A2 m c2))) := Lib.hid (fun u x y h hu => by
    have q : ∀ o : Nat, ((u.setCell ⟨w.heap.size + 1, 0, none⟩ x).setCell ⟨w.heap.size + 1, 1, none⟩ y).cell? ⟨w2.heap.size, o, none⟩ = u.cell? ⟨w2.heap.size, o, none⟩ := fun o => (sets2_grown u (w.heap.size + 1) x y).cell_far ⟨w2.heap.size, o, none⟩ hu (fun e => by injection e with e; dsimp only at e; omega)
    rw [q, q, q]; exact h)
  have BR : Hid (∀ u : World, w3.grownBy u (some p) → Blk u w.heap.size 26 [.string ⟨#[]⟩, .int .i64 0, .slice none 0 0] ∧ Blk u (w.heap.size + 1) 28 [.string ⟨#[]⟩, .string ⟨#[]⟩]) := Lib.hid (fun u hu => ⟨R3.grown hu (fun e => by injection e with e; omega), Q3.grown hu (fun e => by injection e with e; omega)⟩)
  have fin : Hid (∀ (u v : World) (kb ks : ByteArray) (a' : Nat), w3.grownBy u (some p) → Cur u p A n c a' → a' ≤ a + 102 → kb.size ≤ 8 → ks.size ≤ 8 → (∃ m : World, (u.grownBy m (some w.heap.size) ∧ m.grownBy v (some (w.heap.size + 1))) ∨ (u.grownBy m (some (w.heap.size + 1)) ∧ m.grownBy v (some w.heap.size))) → ∃ (nm' : ByteArray) (st' : Nat) (A' : Option Addr) (m' c' : Nat) (L' : List ByteArray) (kb' ks' : ByteArray), Ending.returned (Value.tuple #[.agg #[.string nm, .int .i64 (st : Int), .slice A2 m c2], .agg #[.string kb, .string ks]]) = .returned (.tuple #[.agg #[.string nm', .int .i64 (st' : Int), .slice A' m' c'], .agg #[.string kb', .string ks']]) ∧ goodM nm' st' L' = true ∧ 3 ≤ st' ∧ st' ≤ 6 ∧ kb'.size ≤ 8 ∧ ks'.size ≤ 8 ∧ m' ≤ 12 ∧ Owned strE 1 9 v w.heap.size A' m' c' L' ∧ Cur v p A n c (a + 102) ∧ w.grownBy v (some p)) := Lib.hid (fun u v kb ks a' h1 h2 h3' h4 h5 ⟨mm, h6'⟩ => by
    have ho := HO.out.past h1 (by omega)
    have hg := grownBy_trans HG.out h1
    rcases h6' with ⟨q1, q2⟩ | ⟨q1, q2⟩
    · exact ⟨nm, st, A2, m, c2, L, kb, ks, rfl, HGM.out, h3, h6, h4, h5, hm, ((ho.past q1 (by omega)).past q2 (by omega)).base_le (by omega), ((h2.grown q1 (fun e => by injection e with e; omega)).grown q2 (fun e => by injection e with e; omega)).mono h3', grow_own (grow_own hg q1 (fun k e => by injection e with e; omega)) q2 (fun k e => by injection e with e; omega)⟩
    · exact ⟨nm, st, A2, m, c2, L, kb, ks, rfl, HGM.out, h3, h6, h4, h5, hm, ((ho.past q1 (by omega)).past q2 (by omega)).base_le (by omega), ((h2.grown q1 (fun e => by injection e with e; omega)).grown q2 (fun e => by injection e with e; omega)).mono h3', grow_own (grow_own hg q1 (fun k e => by injection e with e; omega)) q2 (fun k e => by injection e with e; omega)⟩)
  have C0 : w3.grownBy w3.drew (some p) := grown_any (below_drewN (Below.refl _ _) 1) _
  clear K2 R3 Q3 a2
  go_region_held3 (fun u => u.cell? ⟨w2.heap.size, 0, none⟩ = some (.string nm) ∧ u.cell? ⟨w2.heap.size, 1, none⟩ = some (.int .i64 (st : Int)) ∧ u.cell? ⟨w2.heap.size, 2, none⟩ = some (.slice A2 m c2)) (first | with_reducible exact carry.out _ C2 | with_reducible exact carry.out _ C1 | with_reducible exact carry.out _ C0 | with_reducible exact far3.out _ _ _ _ (by assumption) (by first | omega | (simp; omega)) | with_reducible exact far2.out _ _ _ (by assumption) (by first | omega | (simp; omega))) (first | (go_at_call 190; (with_reducible refine (cur_change HS.out (G.out _ (grownBy_trans HG.out C1)) hp hc4 (by omega) (by omega) h3).mono ?_); rintro e w5 ⟨ks, rfl, gks, zks, hc5, hg5⟩; have C2 := grownBy_trans C1 hg5; have X2 := hg5.size; obtain ⟨⟨u0, u1, u2⟩, ⟨v0, v1, v2⟩, ⟨x0, x1⟩, y0, y1⟩ := carB.out _ C2) | (go_at_call 190; (with_reducible refine (cur_change HS.out (G.out _ (grownBy_trans HG.out C0)) hp (HC.out.up (below_drewN (Below.refl _ _) 1)) (by omega) (by omega) h3).mono ?_); rintro e w4 ⟨kb, rfl, gkb, zkb, hc4, hg4⟩; have C1 := grownBy_trans C0 hg4; have X1 := hg4.size; simp at X1))
  · obtain ⟨R5, Q5⟩ := BR.out _ C2
    have R6 := (((R5.set_ 0 (.string nm)).set_ 1 (.int .i64 (st : Int))).set_ 2 (.slice A2 m c2)).grown (sets2_grown _ (w.heap.size + 1) (.string kb) (.string ks)) (fun e => by injection e with e; omega)
    have Q6 := ((Q5.grown (sets3_grown w5 w.heap.size (.string nm) (.int .i64 (st : Int)) (.slice A2 m c2)) (fun e => by injection e with e; omega)).set_ 0 (.string kb)).set_ 1 (.string ks)
    have k0 := R6.cell 0; have k1 := R6.cell 1; have k2 := R6.cell 2; have l0 := Q6.cell 0; have l1 := Q6.cell 1
    simp only [List.set_cons_zero, List.set_cons_succ, List.getElem?_cons_zero, List.getElem?_cons_succ] at k0 k1 k2 l0 l1
    have FF := Lib.hid (fin.out _ _ kb ks _ C2 hc5 (by omega) zkb zks ⟨_, .inl ⟨sets3_grown w5 w.heap.size (.string nm) (.int .i64 (st : Int)) (.slice A2 m c2), sets2_grown _ (w.heap.size + 1) (.string kb) (.string ks)⟩⟩)
    clear R5 Q5 R6 Q6 hc5 hc4 C0 C1 C2 fin carry carB far2 far3 u0 u1 u2 v0 v1 v2 x0 x1 y0 y1
    go_wp2_with fail
    refine bodyPost_ret (v := .tuple #[.agg #[.string nm, .int .i64 (st : Int), .slice A2 m c2], .agg #[.string kb, .string ks]]) (by simp [results, Try.results154, go_sem, k0, k1, k2, l0, l1]) rfl ?_
    exact FF.out
set_option maxHeartbeats 1000000 in
set_option maxRecDepth 100000 in
theorem cur_staged {A : Option Addr} {n c a p : Nat} {w0 w : World} (hS : Src w0 A n) (hb : Below w0.heap.size w0 w) (hp : w0.heap.size ≤ p) (hc : Cur w p A n c a) (ha : a ≤ 100000) :
    Calls Try.prog 162 #[.pointer (some ⟨p, 0, none⟩)] w fun e w' => ∃ (st : Nat) (x : ByteArray), e = .returned (.tuple #[.int .i64 st, .string x]) ∧ st ≤ 14 ∧ x.size ≤ 8 ∧ Cur w' p A n c (a + 10) ∧ w.grownBy w' (some p) := by
  have hpw := hc.lt
  have G : Hid (∀ u : World, w.grownBy u (some p) → Below w0.heap.size w0 u) := Lib.hid (fun u hg => grown_below hb hp hg)
  go_in
  go_wp2_with fail
  refine (cur_stage hS hb hp hc (by omega)).mono ?_; rintro e w1 ⟨X, rfl, x3, x8, hc1, hg1⟩
  go_wp2_with fail
  refine (cur_one hS (G.out _ hg1) hp hc1 (by omega) (by decide) (by decide)).mono ?_; rintro e w2 ⟨b, rfl, hc2, hg2⟩
  have g2 := grownBy_trans hg1 hg2
  rcases b
  · go_wp2_with fail
    refine (cur_change hS (G.out _ g2) hp hc2 (by omega) (by omega) (by omega)).mono ?_; rintro e w3 ⟨x, rfl, _, zx, hc3, hg3⟩
    go_wp2
    go_ret2
    exact ⟨X, x, rfl, by omega, zx, hc3.mono (by omega), grownBy_trans g2 hg3⟩
  · go_wp2_with fail
    refine (cur_pick hS (G.out _ g2) hp hc2 (by omega) (by decide) (by decide)).mono ?_; rintro e w3 ⟨y, rfl, ⟨y0, y1⟩, hc3, hg3⟩
    have g3 := grownBy_trans g2 hg3
    obtain ⟨Y, rfl⟩ := Int.eq_ofNat_of_zero_le y0
    have hY : Y ≤ 1 := by omega
    clear y0 y1
    go_wp2_with fail
    have hl := lit_strs2 w3 9 [⟨#[45]⟩, ⟨#[]⟩, ⟨#[49]⟩, ⟨#[49, 50]⟩, ⟨#[49, 51]⟩, ⟨#[49, 52]⟩, ⟨#[49, 54]⟩, ⟨#[49, 50, 51, 52, 53, 54]⟩, ⟨#[51, 54]⟩, ⟨#[48]⟩, ⟨#[50, 49]⟩]
    have hpw3 := hc3.lt
    refine (cur_of hS ((G.out _ g3).alloc (G.out _ g3).size _) hp (hc3.up ((Below.refl _ _).alloc (Nat.le_refl _) _)) (by omega) rfl hl (by decide) (by decide) (fun b o e => by injection e with e; injection e with e; omega)).mono ?_; rintro e w4 ⟨x, hx, rfl, hc4, hg4⟩
    have hxs : x.size ≤ 8 := by
      simp only [List.mem_cons, List.not_mem_nil, or_false] at hx
      rcases hx with rfl | rfl | rfl | rfl | rfl | rfl | rfl | rfl | rfl | rfl | rfl <;> decide
    clear hx hl
    go_wp2
    refine bodyPost_ret (v := .tuple #[.int .i64 ((X + Y * 6 : Nat) : Int), .string x]) (by simp [results, Try.results162, go_sem] <;> (try constructor) <;> (try exact (Ending.returned.inj (by assumption)).symm) <;> omega) rfl ?_
    exact ⟨X + Y * 6, x, rfl, by omega, hxs, hc4.mono (by omega), grownBy_trans g3 (grownBy_trans (World.grownBy_alloc _ _ _) hg4)⟩
set_option maxRecDepth 100000 in
theorem draw_GoodChange {A : Option Addr} {n c : Nat} {w : World} (hS : Src w A n) :
    Calls Try.prog 79 #[.slice A n c] w fun e w' => ∃ (st : Nat) (x : ByteArray), e = .returned (.tuple #[.int .i64 st, .string x]) ∧ st ≤ 14 ∧ x.size ≤ 8 ∧ Below w.heap.size w w' := by
  have b0 : Below w.heap.size w (w.alloc (.cells #[.slice A n c, .int .i64 0, .int .u64 0] 104)) := by (repeat' (first | (with_reducible exact Below.refl _ _) | (with_reducible assumption) | (with_reducible refine below_drewN ?_ _) | (with_reducible refine Below.drew ?_) | (with_reducible refine below_alloc ?_ _) | (with_reducible refine Below.alloc ?_ ?_ _) | (with_reducible refine Below.setCell ?_ ?_ _) | (with_reducible refine below_go ?_ (by with_reducible assumption)) | (with_reducible refine below_then (by with_reducible assumption) ?_ ?_) | go_size))
  have c0 := cur_fresh w A n c
  go_in
  go_wp2_with fail
  refine (cur_staged hS b0 (Nat.le_refl _) c0 (by omega)).mono ?_; rintro e w2 ⟨st, x, rfl, h1, h2, hc2, hg2⟩
  go_wp2
  go_ret2
  exact ⟨st, x, rfl, h1, h2, grown_below b0 (Nat.le_refl _) hg2⟩
set_option maxRecDepth 100000 in
theorem draw_ChangeSign {A : Option Addr} {n c : Nat} {w : World} (hS : Src w A n) :
    Calls Try.prog 17 #[.slice A n c] w fun e w' => ∃ (st : Nat) (x : ByteArray), e = .returned (.tuple #[.int .i64 st, .string x]) ∧ st ≤ 14 ∧ x.size ≤ 8 ∧ Below w.heap.size w w' := by
  go_in
  go_wp2_with fail
  refine (draw_GoodChange hS).mono ?_; rintro e w2 ⟨st, x, rfl, h1, h2, h3⟩
  go_wp2
  go_ret2
  exact ⟨st, x, rfl, h1, h2, h3⟩
end Go.Proofs.Ytpccbmndgdiloaa
/- The walks through draws of lists of changes. -/
namespace Go.Proofs.Ytpccbmndgdiloaa
set_option linter.unusedVariables false
set_option linter.unusedSimpArgs false
open Go.ChangeShapes Go.WideShapes Go.ChangeAt Go.RowKit Go.Deep
/-- Texts of at most 8 bytes. -/
def smL (L : List ByteArray) : Prop := ∀ s ∈ L, s.size ≤ 8
theorem smL.nil : smL [] := fun s hs => by cases hs
theorem smL.snoc {L : List ByteArray} {x : ByteArray} (h : smL L) (hx : x.size ≤ 8) : smL (L ++ [x]) := fun s hs => by
  rcases List.mem_append.1 hs with hs | hs
  · exact h s hs
  · rw [List.mem_singleton.1 hs]; exact hx
theorem smL.app {L M : List ByteArray} (h : smL L) (g : smL M) : smL (L ++ M) := fun s hs => by
  rcases List.mem_append.1 hs with hs | hs
  · exact h s hs
  · exact g s hs
set_option maxHeartbeats 1000000 in
set_option maxRecDepth 100000 in
theorem spec_l3Mirror {A : Option Addr} {N c : Nat} {l : List ByteArray} {w : World} (hN : l.length = N) (h : Strs w A l) (hz : N ≤ 1000000) (hs : smL l) :
    Calls Try.prog 225 #[.slice A N c] w fun e w' => ∃ A' m c' L, e = .returned (.slice A' m c') ∧ m ≤ 2 * N ∧ smL L ∧ Owned strE 1 9 w' w.heap.size A' m c' L ∧ Below w.heap.size w w' := by
  go_in
  go_wp2_with fail
  refine (spec_l1OwnS hN h (by omega)).mono ?_; rintro e w1 ⟨A1, c1, rfl, ho1, hb1⟩
  have HO1 := Lib.hid ho1
  have HL := Lib.hid hN
  have HR := Lib.hid h
  have s1 := hb1.size
  clear ho1 hN h
  go_wp2
  go_loopw [3, 4] (fun v i wr => ∃ (m : Nat) (z : Int) (A' : Option Addr) (c' : Nat) (L : List ByteArray), i = .int .i64 z ∧ z < (N : Int) ∧ -2 ≤ z ∧ (m : Int) + z + 2 ≤ 2 * (N : Int) ∧ v = .slice A' m c' ∧ smL L ∧ Hid (Owned strE 1 9 wr w.heap.size A' m c' L) ∧ Below w.heap.size w wr) (fun _ i _ => (intOf i + 3).toNat)
  case atStart => exact ⟨N, (N : Int) - 2, A1, c1, l, rfl, by omega, by omega, by omega, rfl, hs, Lib.hid (HO1.out), hb1⟩
  case round =>
    obtain ⟨m, z, A2, c2, L, rfl, hz1, hz2, hmz, rfl, hsL, HO, hb⟩ := hrel
    rename World => wr
    have hsr := hb.size
    by_cases h0 : 0 ≤ z
    · obtain ⟨k, rfl⟩ := Int.eq_ofNat_of_zero_le h0
      have hk : k < N := by omega
      obtain ⟨b, o, y, rfl, _, hy, hcy⟩ := (HR.out.below hb (Nat.le_refl _)).at_str (k := k) (by rw [HL.out]; exact hk)
      have hyz := hs y (List.mem_of_getElem? hy)
      have hkI : (k : Int) < (N : Int) := by omega
      clear hy
      go_wp2_with (first | (at_builtin; go_must ((refine wpList_append_recs Try.elStr strE_one rfl (.tmp 14) (.tmp 19) rfl rfl (HO.out.alloc _) rfl (own_lit1_at' strE_len _ 9 y rfl (Nat.le_refl _)).recs rfl ?_ (by decide) ?_ ?_; (focus (first | omega | (simp only [World.size_alloc]; done) | (simp only [World.size_alloc]; omega) | (simp; done) | (simp; omega))); (simp; omega); intro A3 c3 w6 ho6 hg6 hl6; have HO6 := Lib.hid ho6; have HB6 := Lib.hid ((hb.alloc hsr (.cells #[.string y] 9)).trans (grown_base hg6 (by simp; omega) (fun k hk => (HO.out.blk hk).1))); clear ho6 hl6))))
      go_roundw
      case rel => exact ⟨m + 1, (k : Int) - 1, A3, c3, L ++ [y], by go_num, by omega, by omega, by omega, rfl, hsL.snoc hyz, HO6, HB6.out⟩
      case measure => simp [intOf]; omega
    · go_wp2
      go_ret
      exact ⟨_, _, _, rfl, by omega, L, hsL, HO.out, hb⟩
set_option maxHeartbeats 4000000 in
set_option maxRecDepth 100000 in
theorem cur_changes {A : Option Addr} {n c a p N : Nat} {w0 w : World} (hS : Src w0 A n) (hb : Below w0.heap.size w0 w) (hp : w0.heap.size ≤ p) (hc : Cur w p A n c a) (ha : a ≤ 900000) (h3 : 3 ≤ N) (h8 : N ≤ 8) :
    Calls Try.prog 189 #[.pointer (some ⟨p, 0, none⟩), .int .i64 N] w fun e w' => ∃ A' m c' L, e = .returned (.slice A' m c') ∧ m ≤ 30 ∧ smL L ∧ Owned strE 1 9 w' w.heap.size A' m c' L ∧ Cur w' p A n c (a + 150) ∧ w.grownBy w' (some p) := by
  have hpw := hc.lt
  have G : Hid (∀ u : World, w.grownBy u (some p) → Below w0.heap.size w0 u) := Lib.hid (fun u hg => grown_below hb hp hg)
  have HS := Lib.hid hS
  go_in
  go_wp2_with fail
  refine (cur_one hS hb hp hc (by omega) (by decide) (by decide)).mono ?_; rintro e w1 ⟨b1, rfl, hc1, hg1⟩
  clear hS hb hc
  rcases b1
  · have HC := Lib.hid (hc1.mono (show a + 1 ≤ a + 102 by omega))
    have HG := Lib.hid hg1
    clear hc1 hg1
    go_wp2_with fail
    refine (cur_pick HS.out (G.out _ HG.out) hp HC.out (by omega) (by decide) (by decide)).mono ?_; rintro e w4 ⟨x, rfl, ⟨x0, x1⟩, hc4, hg4⟩
    obtain ⟨X, rfl⟩ := Int.eq_ofNat_of_zero_le x0
    have hX : X ≤ 5 := by omega
    have HC4 := Lib.hid hc4
    have HG4 := Lib.hid (grownBy_trans HG.out hg4)
    clear x0 x1 hc4 hg4 HC HG
    go_wp2
    go_loopw [6, 7] (fun v i wr => ∃ (k m : Nat) (A' : Option Addr) (c' : Nat) (L : List ByteArray), k + m = X + 1 ∧ i = .int .i64 k ∧ v = .slice A' m c' ∧ smL L ∧ Hid (Owned strE 1 9 wr w.heap.size A' m c' L) ∧ Hid (Cur wr p A n c (a + 103 + m)) ∧ Hid (w.grownBy wr (some p))) (fun _ i _ => (intOf i).toNat)
    case atStart => exact ⟨X + 1, 0, none, 0, [], rfl, by go_num, rfl, smL.nil, Lib.hid (Owned.nil strE_len _ _ _), Lib.hid (HC4.out.mono (by omega)), HG4⟩
    case round =>
      obtain ⟨k, m, A5, c5, L5, hkm, rfl, rfl, hs5, HO5, HC5, HG5⟩ := hrel
      rename World => wr
      have hsr := HG5.out.size
      have hkm6 : k + m ≤ 6 := by omega
      have HKM := Lib.hid hkm
      clear hkm
      by_cases h0 : 0 < k
      · have hI : (0 : Int) < (k : Int) := by omega
        go_wp2_with fail
        refine (cur_change HS.out (G.out _ HG5.out) hp HC5.out (by omega) h8 h3).mono ?_; rintro e w7 ⟨y, rfl, _, zy, hc7, hg7⟩
        have HO7 := Lib.hid (HO5.out.past hg7 hpw)
        have HC7 := Lib.hid hc7
        have HG7 := Lib.hid (grownBy_trans HG5.out hg7)
        have s7 := HG7.out.size
        clear hc7 hg7
        go_wp2_with (first | (at_builtin; go_must ((refine wpList_append_recs Try.elStr strE_one rfl (.tmp 25) (.tmp 29) rfl rfl (HO7.out.alloc _) rfl (own_lit1_at' strE_len _ 9 y rfl (Nat.le_refl _)).recs rfl ?_ (by decide) ?_ ?_; (focus (first | omega | (simp only [World.size_alloc]; done) | (simp only [World.size_alloc]; omega) | (simp; done) | (simp; omega))); (simp; omega); intro A8 c8 w8 ho8 hg8 hl8; have HO8 := Lib.hid ho8; have HC8 := Lib.hid ((HC7.out.up ((Below.refl _ _).alloc (Nat.le_refl _) _)).grown hg8 (fun e => by have := (HO7.out.blk e.symm).1; omega)); have HG8 := Lib.hid (grow_own (grownBy_trans HG7.out (World.grownBy_alloc _ _ _)) hg8 (fun k hk => (HO7.out.blk hk).1)); clear ho8 hg8 hl8))))
        go_roundw
        case rel => exact ⟨k - 1, m + 1, A8, c8, L5 ++ [y], by have := HKM.out; omega, by go_num, rfl, hs5.snoc zy, HO8, Lib.hid (HC8.out.mono (by omega)), HG8⟩
        case measure => simp [intOf]; omega
      · obtain rfl : k = 0 := by omega
        go_wp2_with fail
        refine (cur_one HS.out (G.out _ HG5.out) hp HC5.out (by omega) (by decide) (by decide)).mono ?_; rintro e w7 ⟨bb, rfl, hc7, hg7⟩
        have HO7 := Lib.hid (HO5.out.past hg7 hpw)
        have HC7 := Lib.hid hc7
        have HG7 := Lib.hid (grownBy_trans HG5.out hg7)
        have s7 := HG7.out.size
        clear hc7 hg7
        rcases bb
        · go_wp2
          go_ret
          exact ⟨_, m, _, L5, rfl, by omega, hs5, HO7.out, HC7.out.mono (by omega), HG7.out⟩
        · go_wp2_with fail
          refine (spec_l3Mirror HO7.out.len HO7.out.recs (by omega) hs5).mono ?_; rintro e w8 ⟨A8, m8, c8, L8, rfl, hm8, hs8, ho8, hb8⟩
          have HO8 := Lib.hid (ho8.base_le s7)
          have HC8 := Lib.hid (HC7.out.up hb8)
          have HG8 := Lib.hid (grownBy_trans HG7.out (grown_any hb8 _))
          have s8 := HG8.out.size
          clear ho8 hb8
          go_wp2_with fail
          refine (cur_change HS.out (G.out _ HG8.out) hp HC8.out (by omega) h8 h3).mono ?_; rintro e w9 ⟨y, rfl, _, zy, hc9, hg9⟩
          have HO9 := Lib.hid (HO8.out.past hg9 hpw)
          have HC9 := Lib.hid hc9
          have HG9 := Lib.hid (grownBy_trans HG8.out hg9)
          have s9 := HG9.out.size
          clear hc9 hg9
          have hlit := (own_lit1_at' strE_len w9 9 y (base := w9.heap.size) rfl (Nat.le_refl _)).recs
          go_wp2_with fail
          refine (spec_l3Mirror (l := [y]) (N := 1) rfl hlit (by omega) (smL.snoc smL.nil zy)).mono ?_; rintro e w10 ⟨A10, m10, c10, L10, rfl, hm10, hs10, ho10, hb10⟩
          have hb10' : Below w9.heap.size w9 w10 := ((Below.refl _ _).alloc (Nat.le_refl _) _).trans (hb10.mono (by simp))
          have HO10 := Lib.hid (HO9.out.up hb10')
          have HC10 := Lib.hid (HC9.out.up hb10')
          have HG10 := Lib.hid (grownBy_trans HG9.out (grown_any hb10' _))
          have HR10 := Lib.hid ho10.recs
          have HL10 := Lib.hid ho10.len
          have s10 := HG10.out.size
          clear ho10 hb10 hb10' hlit
          go_wp2_with (first | (at_builtin; go_must ((refine wpList_append_recs Try.elStr strE_one rfl (.tmp 34) (.tmp 39) rfl rfl HO10.out rfl HR10.out HL10.out ?_ (by decide) ?_ ?_; (focus (first | omega | (simp only [World.size_alloc]; done) | (simp only [World.size_alloc]; omega) | (simp; done) | (simp; omega))); omega; intro A11 c11 w11 ho11 hg11 hl11; have HO11 := Lib.hid ho11; have HC11 := Lib.hid (HC10.out.grown hg11 (fun e => by have := (HO10.out.blk e.symm).1; omega)); have HG11 := Lib.hid (grow_own HG10.out hg11 (fun k hk => (HO10.out.blk hk).1)); clear ho11 hg11 hl11))))
          go_ret
          exact ⟨_, m8 + m10, _, L8 ++ L10, rfl, by omega, hs8.app hs10, HO11.out, HC11.out.mono (by omega), HG11.out⟩
  · go_wp2_with fail
    refine (cur_method HS.out (G.out _ hg1) hp hc1 (by omega)).mono ?_; rintro e w2 ⟨nm, st, A2, m2, c2, L2, rfl, hgm, st3, st6, hm12, ho2, hc2, hg2⟩
    have hgt := goodM_t hgm
    have hsm : smL L2 := fun s hs => by
      have := goodChange_small (allCh_mem hgt.2.2.2 s hs); omega
    have K2 := Blk.at_ w2 26 [.string nm, .int .i64 (st : Int), .slice A2 m2 c2] (b := w2.heap.size) rfl
    have a2 : Below w2.heap.size w2 (w2.alloc (.cells #[.string nm, .int .i64 (st : Int), .slice A2 m2 c2] 26)) := by (repeat' (first | (with_reducible exact Below.refl _ _) | (with_reducible assumption) | (with_reducible refine below_drewN ?_ _) | (with_reducible refine Below.drew ?_) | (with_reducible refine below_alloc ?_ _) | (with_reducible refine Below.alloc ?_ ?_ _) | (with_reducible refine Below.setCell ?_ ?_ _) | (with_reducible refine below_go ?_ (by with_reducible assumption)) | (with_reducible refine below_then (by with_reducible assumption) ?_ ?_) | go_size))
    have HO2 := Lib.hid (ho2.up a2)
    have HC := Lib.hid ((hc2.up a2).mono (show a + 1 + 100 ≤ a + 102 by omega))
    have HG := Lib.hid (grownBy_trans (grownBy_trans hg1 hg2) (grown_any a2 _))
    have s1 := hg1.size
    clear hgm hgt ho2 hc1 hc2 hg1 hg2
    go_upto_region 3 with fail
    obtain ⟨w3, hw3⟩ : ∃ u, u = w2.alloc (.cells #[.string nm, .int .i64 (st : Int), .slice A2 m2 c2] 26) := ⟨_, rfl⟩
    rw [← hw3] at K2 HO2 HC HG ⊢
    clear hw3 a2
    have k1 := K2.cell 1; have k2 := K2.cell 2
    simp only [List.getElem?_cons_zero, List.getElem?_cons_succ] at k1 k2
    by_cases hst : st = N
    · have hI : (st : Int) = (N : Int) := by omega
      go_wp2
      go_ret
      exact ⟨_, m2, _, L2, rfl, by omega, hsm, HO2.out.base_le s1, HC.out.mono (by omega), HG.out⟩
    · have hI : ¬ (st : Int) = (N : Int) := by omega
      go_wp2_with fail
      refine (cur_pick HS.out (G.out _ HG.out) hp HC.out (by omega) (by decide) (by decide)).mono ?_; rintro e w4 ⟨x, rfl, ⟨x0, x1⟩, hc4, hg4⟩
      obtain ⟨X, rfl⟩ := Int.eq_ofNat_of_zero_le x0
      have hX : X ≤ 5 := by omega
      have HC4 := Lib.hid hc4
      have HG4 := Lib.hid (grownBy_trans HG.out hg4)
      clear x0 x1 hc4 hg4 HC HG
      go_wp2
      go_loopw [6, 7] (fun v i wr => ∃ (k m : Nat) (A' : Option Addr) (c' : Nat) (L : List ByteArray), k + m = X + 1 ∧ i = .int .i64 k ∧ v = .slice A' m c' ∧ smL L ∧ Hid (Owned strE 1 9 wr w.heap.size A' m c' L) ∧ Hid (Cur wr p A n c (a + 103 + m)) ∧ Hid (w.grownBy wr (some p))) (fun _ i _ => (intOf i).toNat)
      case atStart => exact ⟨X + 1, 0, none, 0, [], rfl, by go_num, rfl, smL.nil, Lib.hid (Owned.nil strE_len _ _ _), Lib.hid (HC4.out.mono (by omega)), HG4⟩
      case round =>
        obtain ⟨k, m, A5, c5, L5, hkm, rfl, rfl, hs5, HO5, HC5, HG5⟩ := hrel
        rename World => wr
        have hsr := HG5.out.size
        have hkm6 : k + m ≤ 6 := by omega
        have HKM := Lib.hid hkm
        clear hkm
        by_cases h0 : 0 < k
        · have hI : (0 : Int) < (k : Int) := by omega
          go_wp2_with fail
          refine (cur_change HS.out (G.out _ HG5.out) hp HC5.out (by omega) h8 h3).mono ?_; rintro e w7 ⟨y, rfl, _, zy, hc7, hg7⟩
          have HO7 := Lib.hid (HO5.out.past hg7 hpw)
          have HC7 := Lib.hid hc7
          have HG7 := Lib.hid (grownBy_trans HG5.out hg7)
          have s7 := HG7.out.size
          clear hc7 hg7
          go_wp2_with (first | (at_builtin; go_must ((refine wpList_append_recs Try.elStr strE_one rfl (.tmp 25) (.tmp 29) rfl rfl (HO7.out.alloc _) rfl (own_lit1_at' strE_len _ 9 y rfl (Nat.le_refl _)).recs rfl ?_ (by decide) ?_ ?_; (focus (first | omega | (simp only [World.size_alloc]; done) | (simp only [World.size_alloc]; omega) | (simp; done) | (simp; omega))); (simp; omega); intro A8 c8 w8 ho8 hg8 hl8; have HO8 := Lib.hid ho8; have HC8 := Lib.hid ((HC7.out.up ((Below.refl _ _).alloc (Nat.le_refl _) _)).grown hg8 (fun e => by have := (HO7.out.blk e.symm).1; omega)); have HG8 := Lib.hid (grow_own (grownBy_trans HG7.out (World.grownBy_alloc _ _ _)) hg8 (fun k hk => (HO7.out.blk hk).1)); clear ho8 hg8 hl8))))
          go_roundw
          case rel => exact ⟨k - 1, m + 1, A8, c8, L5 ++ [y], by have := HKM.out; omega, by go_num, rfl, hs5.snoc zy, HO8, Lib.hid (HC8.out.mono (by omega)), HG8⟩
          case measure => simp [intOf]; omega
        · obtain rfl : k = 0 := by omega
          go_wp2_with fail
          refine (cur_one HS.out (G.out _ HG5.out) hp HC5.out (by omega) (by decide) (by decide)).mono ?_; rintro e w7 ⟨bb, rfl, hc7, hg7⟩
          have HO7 := Lib.hid (HO5.out.past hg7 hpw)
          have HC7 := Lib.hid hc7
          have HG7 := Lib.hid (grownBy_trans HG5.out hg7)
          have s7 := HG7.out.size
          clear hc7 hg7
          rcases bb
          · go_wp2
            go_ret
            exact ⟨_, m, _, L5, rfl, by omega, hs5, HO7.out, HC7.out.mono (by omega), HG7.out⟩
          · go_wp2_with fail
            refine (spec_l3Mirror HO7.out.len HO7.out.recs (by omega) hs5).mono ?_; rintro e w8 ⟨A8, m8, c8, L8, rfl, hm8, hs8, ho8, hb8⟩
            have HO8 := Lib.hid (ho8.base_le s7)
            have HC8 := Lib.hid (HC7.out.up hb8)
            have HG8 := Lib.hid (grownBy_trans HG7.out (grown_any hb8 _))
            have s8 := HG8.out.size
            clear ho8 hb8
            go_wp2_with fail
            refine (cur_change HS.out (G.out _ HG8.out) hp HC8.out (by omega) h8 h3).mono ?_; rintro e w9 ⟨y, rfl, _, zy, hc9, hg9⟩
            have HO9 := Lib.hid (HO8.out.past hg9 hpw)
            have HC9 := Lib.hid hc9
            have HG9 := Lib.hid (grownBy_trans HG8.out hg9)
            have s9 := HG9.out.size
            clear hc9 hg9
            have hlit := (own_lit1_at' strE_len w9 9 y (base := w9.heap.size) rfl (Nat.le_refl _)).recs
            go_wp2_with fail
            refine (spec_l3Mirror (l := [y]) (N := 1) rfl hlit (by omega) (smL.snoc smL.nil zy)).mono ?_; rintro e w10 ⟨A10, m10, c10, L10, rfl, hm10, hs10, ho10, hb10⟩
            have hb10' : Below w9.heap.size w9 w10 := ((Below.refl _ _).alloc (Nat.le_refl _) _).trans (hb10.mono (by simp))
            have HO10 := Lib.hid (HO9.out.up hb10')
            have HC10 := Lib.hid (HC9.out.up hb10')
            have HG10 := Lib.hid (grownBy_trans HG9.out (grown_any hb10' _))
            have HR10 := Lib.hid ho10.recs
            have HL10 := Lib.hid ho10.len
            have s10 := HG10.out.size
            clear ho10 hb10 hb10' hlit
            go_wp2_with (first | (at_builtin; go_must ((refine wpList_append_recs Try.elStr strE_one rfl (.tmp 34) (.tmp 39) rfl rfl HO10.out rfl HR10.out HL10.out ?_ (by decide) ?_ ?_; (focus (first | omega | (simp only [World.size_alloc]; done) | (simp only [World.size_alloc]; omega) | (simp; done) | (simp; omega))); omega; intro A11 c11 w11 ho11 hg11 hl11; have HO11 := Lib.hid ho11; have HC11 := Lib.hid (HC10.out.grown hg11 (fun e => by have := (HO10.out.blk e.symm).1; omega)); have HG11 := Lib.hid (grow_own HG10.out hg11 (fun k hk => (HO10.out.blk hk).1)); clear ho11 hg11 hl11))))
            go_ret
            exact ⟨_, m8 + m10, _, L8 ++ L10, rfl, by omega, hs8.app hs10, HO11.out, HC11.out.mono (by omega), HG11.out⟩
set_option maxHeartbeats 4000000 in
set_option maxRecDepth 100000 in
theorem cur_anyChanges {A : Option Addr} {n c a p : Nat} {w0 w : World} (hS : Src w0 A n) (hb : Below w0.heap.size w0 w) (hp : w0.heap.size ≤ p) (hc : Cur w p A n c a) (ha : a ≤ 800000) :
    Calls Try.prog 125 #[.pointer (some ⟨p, 0, none⟩)] w fun e w' => ∃ (N : Nat) (A' : Option Addr) (m c' : Nat) (L : List ByteArray), e = .returned (.tuple #[.int .i64 (N : Int), .slice A' m c']) ∧ N ≤ 9 ∧ m ≤ 60 ∧ smL L ∧ Owned strE 1 9 w' w.heap.size A' m c' L ∧ Cur w' p A n c (a + 300) ∧ w.grownBy w' (some p) := by
  have hpw := hc.lt
  have G : Hid (∀ u : World, w.grownBy u (some p) → Below w0.heap.size w0 u) := Lib.hid (fun u hg => grown_below hb hp hg)
  have HS := Lib.hid hS
  go_in
  go_wp2_with fail
  refine (cur_stage hS hb hp hc (by omega)).mono ?_; rintro e w1 ⟨N, rfl, N3, N8, hc1, hg1⟩
  have s1 := hg1.size
  go_wp2_with fail
  refine (cur_changes HS.out (G.out _ hg1) hp hc1 (by omega) N3 N8).mono ?_; rintro e w2 ⟨A2, m2, c2, L2, rfl, hm2, hs2, ho2, hc2, hg2⟩
  have HG2 := Lib.hid (grownBy_trans hg1 hg2)
  have HO2 := Lib.hid (ho2.base_le s1)
  have HC2 := Lib.hid hc2
  have s2 := HG2.out.size
  clear hg1 hg2 ho2 hc1 hc2 hS hb hc
  go_wp2_with fail
  refine (cur_pick HS.out (G.out _ HG2.out) hp HC2.out (by omega) (by decide) (by decide)).mono ?_; rintro e w3 ⟨x, rfl, ⟨x0, x1⟩, hc3, hg3⟩
  obtain ⟨X, rfl⟩ := Int.eq_ofNat_of_zero_le x0
  have HO3 := Lib.hid (HO2.out.past hg3 hpw)
  have HC3 := Lib.hid hc3
  have HG3 := Lib.hid (grownBy_trans HG2.out hg3)
  have s3 := HG3.out.size
  clear x0 x1 hc3 hg3 HO2 HC2 HG2
  by_cases X0 : X = 0
  · subst X0
    go_wp2_with fail
    refine (spec_l1OwnS HO3.out.len HO3.out.recs (by omega)).mono ?_; rintro e w4 ⟨A4, c4, rfl, ho4, hb4⟩
    have HO4 := Lib.hid ho4
    have HC4 := Lib.hid (HC3.out.up hb4)
    have HG4 := Lib.hid (grownBy_trans HG3.out (grown_any hb4 _))
    have s4 := hb4.size
    clear ho4 hb4
    go_wp2_with (first | (at_builtin; go_must ((refine wpList_append_recs Try.elStr strE_one rfl (.tmp 17) (.tmp 18) rfl rfl (HO4.out.alloc _) rfl (own_lit1_at' strE_len _ 9 ⟨#[120]⟩ rfl (Nat.le_refl _)).recs rfl ?_ (by decide) ?_ ?_; (focus (first | omega | (simp only [World.size_alloc]; done) | (simp only [World.size_alloc]; omega) | (simp; done) | (simp; omega))); (simp; omega); intro A3 c3 w6 ho6 hg6 hl6; have HO6 := Lib.hid ho6; have HC6 := Lib.hid ((HC4.out.up ((Below.refl _ _).alloc (Nat.le_refl _) _)).grown hg6 (fun e => by have := (HO4.out.blk e.symm).1; omega)); have HG6 := Lib.hid (grow_own (grownBy_trans HG4.out (World.grownBy_alloc _ _ _)) hg6 (fun k hk => by have := (HO4.out.blk hk).1; omega)); clear ho6 hg6 hl6))))
    go_ret2
    exact ⟨N, _, m2 + 1, _, L2 ++ [⟨#[120]⟩], rfl, by omega, by omega, hs2.snoc (by decide), HO6.out.base_le (by omega), HC6.out.mono (by omega), HG6.out⟩
  · have X0I : ¬ (X : Int) = 0 := by omega
    by_cases X1 : X = 1
    · subst X1
      go_wp2
      go_ret2
      exact ⟨N, none, 0, 0, [], rfl, by omega, by omega, smL.nil, Owned.nil strE_len _ _ _, HC3.out.mono (by omega), HG3.out⟩
    · have X1I : ¬ (X : Int) = 1 := by omega
      by_cases X2 : X = 2
      · subst X2
        go_wp2
        refine bodyPost_ret (v := .tuple #[.int .i64 ((N + 1 : Nat) : Int), .slice A2 m2 c2]) (by simp [results, Try.results125, go_sem]) rfl ?_
        exact ⟨N + 1, A2, m2, c2, L2, rfl, by omega, by omega, hs2, HO3.out, HC3.out.mono (by omega), HG3.out⟩
      · have X2I : ¬ (X : Int) = 2 := by omega
        by_cases X3 : X = 3
        · subst X3
          go_wp2_with fail
          refine (spec_l1OwnS HO3.out.len HO3.out.recs (by omega)).mono ?_; rintro e w4 ⟨A4, c4, rfl, ho4, hb4⟩
          have HO4 := Lib.hid (ho4.base_le s3)
          have HC4 := Lib.hid (HC3.out.up hb4)
          have HG4 := Lib.hid (grownBy_trans HG3.out (grown_any hb4 _))
          have s4 := hb4.size
          clear ho4 hb4
          go_wp2_with fail
          refine (cur_pick HS.out (G.out _ HG4.out) hp HC4.out (by omega) (by decide) (by decide)).mono ?_; rintro e w5 ⟨y, rfl, ⟨y0, y1⟩, hc5, hg5⟩
          obtain ⟨Y, rfl⟩ := Int.eq_ofNat_of_zero_le y0
          have hY : Y ≤ 1 := by omega
          have HO5 := Lib.hid (HO4.out.past hg5 hpw)
          have HC5 := Lib.hid hc5
          have HG5 := Lib.hid (grownBy_trans HG4.out hg5)
          clear y0 y1 hc5 hg5 HO4 HC4 HG4 HO3 HC3 HG3
          go_wp2
          go_loopw [5] (fun v wr => ∃ (k m : Nat) (A' : Option Addr) (c' : Nat) (L : List ByteArray), v = .slice A' m c' ∧ m ≤ 41 ∧ k ≤ m ∧ smL L ∧ Hid (Owned strE 1 9 wr w.heap.size A' m c' L) ∧ Hid (Cur wr p A n c (a + 200 + m)) ∧ Hid (w.grownBy wr (some p))) (fun v _ => 60 - slLen v)
          case atStart => exact ⟨0, m2, A4, c4, L2, rfl, by omega, by omega, hs2, HO5, Lib.hid (HC5.out.mono (by omega)), HG5⟩
          case round =>
            obtain ⟨k, m, A6, c6, L6, rfl, hm41, _, hs6, HO6, HC6, HG6⟩ := hrel
            rename World => wr
            have hsr := HG6.out.size
            by_cases hlt : m < 40 + Y
            · have hI : (m : Int) < 40 + (Y : Int) := by omega
              go_wp2_with fail
              refine (cur_change HS.out (G.out _ HG6.out) hp HC6.out (by omega) N8 N3).mono ?_; rintro e w7 ⟨y, rfl, _, zy, hc7, hg7⟩
              have HO7 := Lib.hid (HO6.out.past hg7 hpw)
              have HC7 := Lib.hid hc7
              have HG7 := Lib.hid (grownBy_trans HG6.out hg7)
              have s7 := HG7.out.size
              clear hc7 hg7
              go_wp2_with (first | (at_builtin; go_must ((refine wpList_append_recs Try.elStr strE_one rfl (.tmp 37) (.tmp 41) rfl rfl (HO7.out.alloc _) rfl (own_lit1_at' strE_len _ 9 y rfl (Nat.le_refl _)).recs rfl ?_ (by decide) ?_ ?_; (focus (first | omega | (simp only [World.size_alloc]; done) | (simp only [World.size_alloc]; omega) | (simp; done) | (simp; omega))); (simp; omega); intro A8 c8 w8 ho8 hg8 hl8; have HO8 := Lib.hid ho8; have HC8 := Lib.hid ((HC7.out.up ((Below.refl _ _).alloc (Nat.le_refl _) _)).grown hg8 (fun e => by have := (HO7.out.blk e.symm).1; omega)); have HG8 := Lib.hid (grow_own (grownBy_trans HG7.out (World.grownBy_alloc _ _ _)) hg8 (fun k hk => (HO7.out.blk hk).1)); clear ho8 hg8 hl8))))
              go_roundw
              case rel => exact ⟨0, m + 1, A8, c8, L6 ++ [y], rfl, by omega, by omega, hs6.snoc zy, HO8, Lib.hid (HC8.out.mono (by omega)), HG8⟩
              case measure => simp [slLen]; omega
            · have hI : ¬ (m : Int) < 40 + (Y : Int) := by omega
              go_wp2
              go_ret2
              exact ⟨N, A6, m, c6, rfl, by omega, by omega, L6, hs6, HO6.out, HC6.out.mono (by omega), HG6.out⟩
        · have X3I : ¬ (X : Int) = 3 := by omega
          go_wp2
          go_ret2
          exact ⟨N, A2, m2, c2, L2, rfl, by omega, by omega, hs2, HO3.out, HC3.out.mono (by omega), HG3.out⟩
end Go.Proofs.Ytpccbmndgdiloaa
/- The walk through a row's place, the reference's side; the row of marks by places. -/
namespace Go.Proofs.Ytpccbmndgdiloaa
set_option linter.unusedVariables false
set_option linter.unusedSimpArgs false
open Go.ChangeShapes Go.WideShapes Go.ChangeAt Go.RowKit Go.Deep
theorem nums_drop {s : ByteArray} {k : Nat} (h : k < s.size) : (nums s).drop k = PlainAid.bt s k :: (nums s).drop (k + 1) := drop_someZ (nums_at h)
set_option maxRecDepth 100000 in
theorem spec_l1Place {s : ByteArray} {w : World} (hz : s.size ≤ 8) :
    Calls Try.prog 175 #[.string s] w fun e w' => e = .returned (.int .i64 (place s)) ∧ Below w.heap.size w w' := by
  have gb := PlainAid.get_bt s
  have hpl := place_lt s
  have h40 := fact_le s.size (by omega)
  have hP : place s ≤ 40320 := by omega
  have H0 := Lib.hid (show lh 0 ((nums s).drop 0) = place s from (place_lh s).symm)
  have HL := Lib.hid (fun k (r : List Int) => lh_le r k)
  have HC := Lib.hid (fun x (r : List Int) => cnt_le x r)
  clear hpl h40
  go_in
  go_wp2
  go_loopw [3, 4] (fun v i wr => ∃ i' k : Nat, i' ≤ s.size ∧ i = .int .i64 i' ∧ v = .int .i64 k ∧ k ≤ place s ∧ Hid (lh k ((nums s).drop i') = place s) ∧ Below w.heap.size w wr) (fun _ i _ => s.size - (intOf i).toNat)
  case atStart => exact ⟨0, 0, Nat.zero_le _, rfl, rfl, Nat.zero_le _, H0, Below.refl _ _⟩
  case round =>
    obtain ⟨i, k, hi, rfl, rfl, hk, HK, hbl⟩ := hrel
    by_cases hlt : i < s.size
    · have HD := Lib.hid (nums_drop hlt)
      go_wp2
      go_loopw [5, 6] (fun v x wr => ∃ j q : Nat, i + 1 ≤ j ∧ j ≤ s.size ∧ x = .int .i64 j ∧ v = .int .i64 q ∧ q ≤ j ∧ Hid (q + cnt (PlainAid.bt s i) ((nums s).drop j) = cnt (PlainAid.bt s i) ((nums s).drop (i + 1))) ∧ Below w.heap.size w wr) (fun _ x _ => s.size - (intOf x).toNat)
      case atStart => exact ⟨i + 1, 0, Nat.le_refl _, hlt, by go_num, rfl, Nat.zero_le _, Lib.hid (Nat.zero_add _), hbl⟩
      case round =>
        obtain ⟨j, q, hij, hj, rfl, rfl, hq, HQ, hb2⟩ := hrel
        by_cases hjl : j < s.size
        · have HJ := Lib.hid (nums_drop hjl)
          by_cases hc : PlainAid.bt s j < PlainAid.bt s i
          · have E := Lib.hid (show q + 1 + cnt (PlainAid.bt s i) ((nums s).drop (j + 1)) = cnt (PlainAid.bt s i) ((nums s).drop (i + 1)) by rw [← HQ.out, HJ.out, cnt_cons, if_pos hc]; omega)
            go_wp2
            go_quiet (fail)
            go_wp2
            go_roundw
            case rel => exact ⟨j + 1, q + 1, by omega, by omega, by go_num, by go_num, by omega, E, by (repeat' (first | (with_reducible exact Below.refl _ _) | (with_reducible assumption) | (with_reducible refine below_drewN ?_ _) | (with_reducible refine Below.drew ?_) | (with_reducible refine below_alloc ?_ _) | (with_reducible refine Below.alloc ?_ ?_ _) | (with_reducible refine Below.setCell ?_ ?_ _) | (with_reducible refine below_go ?_ (by with_reducible assumption)) | (with_reducible refine below_then (by with_reducible assumption) ?_ ?_) | go_size))⟩
            case measure => simp [intOf]; omega
          · have E := Lib.hid (show q + cnt (PlainAid.bt s i) ((nums s).drop (j + 1)) = cnt (PlainAid.bt s i) ((nums s).drop (i + 1)) by rw [← HQ.out, HJ.out, cnt_cons, if_neg hc]; omega)
            go_wp2
            go_quiet (fail)
            go_wp2
            go_roundw
            case rel => exact ⟨j + 1, q, by omega, by omega, by go_num, rfl, by omega, E, by (repeat' (first | (with_reducible exact Below.refl _ _) | (with_reducible assumption) | (with_reducible refine below_drewN ?_ _) | (with_reducible refine Below.drew ?_) | (with_reducible refine below_alloc ?_ _) | (with_reducible refine Below.alloc ?_ ?_ _) | (with_reducible refine Below.setCell ?_ ?_ _) | (with_reducible refine below_go ?_ (by with_reducible assumption)) | (with_reducible refine below_then (by with_reducible assumption) ?_ ?_) | go_size))⟩
            case measure => simp [intOf]; omega
        · obtain rfl : j = s.size := by omega
          have E := Lib.hid (show q = cnt (PlainAid.bt s i) ((nums s).drop (i + 1)) by
            rw [← HQ.out, List.drop_eq_nil_of_le (by rw [nums_len]; exact Nat.le_refl _)]; rfl)
          have E2 := Lib.hid (show lh (k * (s.size - i) + q) ((nums s).drop (i + 1)) = place s by
            rw [← HK.out, HD.out, lh, E.out, List.length_drop, nums_len, show s.size - (i + 1) + 1 = s.size - i by omega])
          have h1 : k * (s.size - i) + q ≤ place s := by
            have := HL.out (k * (s.size - i) + q) ((nums s).drop (i + 1))
            rw [E2.out] at this; exact this
          obtain ⟨p, hp⟩ : ∃ p, p = k * (s.size - i) := ⟨_, rfl⟩
          have e0 : (s.size : Int) - (i : Int) = ((s.size - i : Nat) : Int) := by omega
          have e3 : (k : Int) * ((s.size : Int) - (i : Int)) = (p : Int) := by rw [e0, hp]; push_cast; rfl
          rw [← hp] at E2 h1
          have e4 : IntKind.i64.wrap ((s.size : Int) - (i : Int)) = (s.size : Int) - (i : Int) := wrap_id (by omega)
          have e5 : IntKind.i64.wrap ((k : Int) * ((s.size : Int) - (i : Int))) = (p : Int) := by rw [e3]; exact wrap_id (by omega)
          have e6 : IntKind.i64.wrap ((p : Int) + (q : Int)) = ((p + q : Nat) : Int) := by rw [wrap_id (by omega)]; push_cast; rfl
          clear hp e0 e3
          go_wp2
          go_roundw
          case rel => exact ⟨i + 1, p + q, by omega, by go_num, by go_num, h1, E2, hb2⟩
          case measure => simp [intOf]; omega
    · obtain rfl : i = s.size := by omega
      have E := Lib.hid (show k = place s by
        rw [← HK.out, List.drop_eq_nil_of_le (by rw [nums_len]; exact Nat.le_refl _)]; rfl)
      go_wp2
      go_ret
      rw [E.out]
      exact ⟨rfl, hbl⟩
/-- Which rows of a stage a list has, by their places. -/
def MarkR (n : Nat) (L : List ByteArray) (m : List Bool) : Prop := m.length = fact n ∧ ∀ s, RowN n s → m[place s]? = some (inL L s)
theorem MarkR.none (n : Nat) : MarkR n [] (List.replicate (fact n) false) :=
  ⟨by simp, fun s hs => by rw [List.getElem?_replicate, if_pos (rowN_place hs)]; rfl⟩
theorem MarkR.add {n : Nat} {L : List ByteArray} {m : List Bool} {x : ByteArray} (h : MarkR n L m) (hx : RowN n x) : MarkR n (L ++ [x]) (m.set (place x) true) := by
  refine ⟨by rw [List.length_set]; exact h.1, fun s hs => ?_⟩
  rw [List.getElem?_set]
  by_cases e : place x = place s
  · rw [if_pos e, if_pos (by rw [h.1]; exact rowN_place hx)]
    rw [rowN_inj hx hs e, inL_iff.2 (by simp)]
  · rw [if_neg e, h.2 s hs]
    have hne : ¬ x = s := fun q => e (by rw [q])
    congr 1
    rw [inL, inL, List.any_append]
    simp [hne]
theorem MarkR.at_ {n : Nat} {L : List ByteArray} {m : List Bool} {x : ByteArray} (h : MarkR n L m) (hx : RowN n x) : m[place x]? = some (inL L x) := h.2 x hx
theorem spec_l6Seen {n : Nat} {w : World} (h8 : n ≤ 8) :
    Calls Try.prog 174 #[.int .i64 n] w fun e w' => ∃ g, e = .returned (.slice (some ⟨g, 0, none⟩) (fact n) (fact n)) ∧ Owned boolE 1 4 w' w.heap.size (some ⟨g, 0, none⟩) (fact n) (fact n) (List.replicate (fact n) false) ∧ Below w.heap.size w w' := by
  have h40 := fact_le n (by omega)
  have hmk := run_make_rec (P := Try.prog) (e := boolE) Try.elBool false rfl (fact n) (by omega) (by decide)
  have O0 := Owned.made (e := boolE) boolE_len w 4 false (fact n) (by omega) (Nat.le_refl w.heap.size)
  go_in
  go_wp2_with (first | (go_at_call 123; refine (spec_l1Fact h8).mono ?_; rintro e w' ⟨rfl, rfl⟩))
  go_ret
  exact ⟨_, rfl, by simpa using O0, by (repeat' (first | (with_reducible exact Below.refl _ _) | (with_reducible assumption) | (with_reducible refine below_drewN ?_ _) | (with_reducible refine Below.drew ?_) | (with_reducible refine below_alloc ?_ _) | (with_reducible refine Below.alloc ?_ ?_ _) | (with_reducible refine Below.setCell ?_ ?_ _) | (with_reducible refine below_go ?_ (by with_reducible assumption)) | (with_reducible refine below_then (by with_reducible assumption) ?_ ?_) | go_size))⟩
end Go.Proofs.Ytpccbmndgdiloaa
