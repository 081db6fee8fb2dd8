/- Texts 5 of 9 that the claim leans on: plain laws and the walks' contracts, in order. -/
import Derived.Test.YtidolgonmimicaaGreatMSearch4
set_option linter.unusedVariables false
set_option linter.unusedSimpArgs false
namespace Go.Proofs.YtidolgonmimicaaGreat
open Go.ChangeShapes Go.WideShapes Go.ChangeAt Go.RowKit Go.Deep
theorem tr_lead {st : Nat} {l : List ByteArray} {b s t : ByteArray} (h : nodupB (leadL st l) = false) : trueH st l b s t = false := by rw [trueH, h]; rfl
theorem tr_free {st q : Nat} {l : List ByteArray} {b s t : ByteArray} (h : nodupB (leadL st l) = true) (hq : q = 0 ↔ FreeH st l b s t t.size) : trueH st l b s t = decide (q = 0) := by
 rw [trueH, h, Bool.true_and, Bool.eq_iff_iff, freeH_iff, decide_eq_true_iff, hq]
noncomputable def thV (nm : ByteArray) (st : Nat) (l : List ByteArray) (kb ks t : ByteArray) : Bool := goodF nm (st : Int) l kb ks t && trueH st l kb ks t
theorem thV_t {nm : ByteArray} {st : Nat} {l : List ByteArray} {kb ks t : ByteArray} (h : goodF nm (st : Int) l kb ks t = true) : thV nm st l kb ks t = trueH st l kb ks t := by rw [thV, h, Bool.true_and]
theorem thV_f {nm : ByteArray} {st : Nat} {l : List ByteArray} {kb ks t : ByteArray} (h : goodF nm (st : Int) l kb ks t = false) : thV nm st l kb ks t = false := by rw [thV, h]; rfl
theorem hds_front {w : World} {g st base c : Nat} {l : List ByteArray} {b s t : ByteArray} (h : Owned strE 1 9 w base (some ⟨g, 0, none⟩) (t.size + 1) c (hdsL st l b s t (t.size + 1))) : Strs w (some ⟨g, 0, none⟩) (hdsL st l b s t t.size) := by
 have h2 := (h.recs).front t.size (by rw [hdsL_len]; omega)
 rwa [show (hdsL st l b s t (t.size + 1)).take t.size = hdsL st l b s t t.size from by
  rw [hdsL_succ, List.take_append_of_le_length (by rw [hdsL_len]; exact Nat.le_refl _), List.take_of_length_le (by rw [hdsL_len]; exact Nat.le_refl _)]] at h2
set_option maxHeartbeats 4000000 in
set_option maxRecDepth 100000 in
theorem spec_l11True {A : Option Addr} {n c st : Nat} {nm : ByteArray} {l : List ByteArray} {kb ks t : ByteArray} {w : World} (hn : l.length = n) (h : Strs w A l) (hz : n ≤ 1048576) (hs : ∀ s ∈ l, s.size ≤ 16777216) (hnm : nm.size ≤ 16777216) (h9 : st ≤ 1000) (hk : goodK nm (st : Int) l kb ks = true) (hp : preT t) (hcap : n ≤ c) :
  Calls Tryz.prog 91 #[.agg #[.string nm, .int .i64 st, .slice A n c], .agg #[.string kb, .string ks], .string t] w fun e w' => e = .returned (.bool (trueH st l kb ks t)) ∧ Below w.heap.size w w' := by
 have h38 := (goodK_all hk).1
 have ht60 := hp.1
 have b0 : Below w.heap.size w ((w.alloc (.cells ⟨[.string nm, .int .i64 st, .slice A n c]⟩ 25)).alloc (.cells ⟨[.string kb, .string ks]⟩ 27)) := by (repeat' (first | (with_reducible exact Below.refl _ _) | (with_reducible assumption) | (with_reducible refine below_drewN ?_ _) | (with_reducible refine Below.drew ?_) | (with_reducible refine below_alloc ?_ _) | (with_reducible refine Below.alloc ?_ ?_ _) | (with_reducible refine Below.setCell ?_ ?_ _) | (with_reducible refine below_go ?_ (by with_reducible assumption)) | (with_reducible refine below_then (by with_reducible assumption) ?_ ?_) | go_size))
 have K0 := (Blk.at_ w 25 [.string nm, .int .i64 st, .slice A n c] (b := w.heap.size) rfl).alloc (.cells ⟨[.string kb, .string ks]⟩ 27)
 have J0 := Blk.at_ (w.alloc (.cells ⟨[.string nm, .int .i64 st, .slice A n c]⟩ 25)) 27 [.string kb, .string ks] (b := w.heap.size + 1) (by simp)
 have HTL := Lib.hid (@tr_lead st l kb ks t)
 have HTF := Lib.hid (fun (q : Nat) => @tr_free st q l kb ks t)
 have HRL := Lib.hid (show rowsL (roundsS st) l n = leadL st l by rw [leadL, hn])
 have hrz : (roundsS st).size ≤ 8 := by rw [rounds_size st (by omega)]; omega
 have HLZ := Lib.hid (show ∀ s ∈ leadL st l, s.size ≤ 16777216 from fun s hs => by
  have := leadL_row h38.1 h38.2 l s hs
  rw [this.2]; omega)
 have hcL : (t.size : Int) ≤ (t.size : Int) + 1 := by omega
 go_in
 go_upto_region 1 with fail
 obtain ⟨w0, hw0⟩ : ∃ u, u = ((w.alloc (.cells #[.string nm, .int .i64 st, .slice A n c] 25)).alloc (.cells #[.string kb, .string ks] 27)) := ⟨_, rfl⟩
 rw [← hw0] at b0 K0 J0 ⊢
 clear hw0
 have H0 := Lib.hid (h.up b0)
 have CA : Hid (∀ u : World, Below w0.heap.size w0 u → (u.cell? ⟨w.heap.size, 0, none⟩ = some (.string nm) ∧ u.cell? ⟨w.heap.size, 1, none⟩ = some (.int .i64 st) ∧ u.cell? ⟨w.heap.size, 2, none⟩ = some (.slice A n c)) ∧ u.cell? ⟨w.heap.size + 1, 0, none⟩ = some (.string kb) ∧ u.cell? ⟨w.heap.size + 1, 1, none⟩ = some (.string ks)) := Lib.hid (fun u hu => by
  have L0 := K0.up hu; have L1 := J0.up hu
  exact ⟨⟨by simpa using L0.cell 0, by simpa using L0.cell 1, by simpa using L0.cell 2⟩, by simpa using L1.cell 0, by simpa using L1.cell 1⟩)
 clear h K0 J0
 have C0 : Below w0.heap.size w0 w0.drew := (Below.refl _ _).drew
 rcases hl : nodupB (leadL st l)
 ·have e2 := Lib.hid (HTL.out hl)
  have HL := Lib.hid hl
  clear hl
  refine wp_region_held_drew (S := fun u => (u.cell? ⟨w.heap.size, 0, none⟩ = some (.string nm) ∧ u.cell? ⟨w.heap.size, 1, none⟩ = some (.int .i64 st) ∧ u.cell? ⟨w.heap.size, 2, none⟩ = some (.slice A n c)) ∧ u.cell? ⟨w.heap.size + 1, 0, none⟩ = some (.string kb) ∧ u.cell? ⟨w.heap.size + 1, 1, none⟩ = some (.string ks)) (by kernel_rfl) (CA.out _ C0) (fun hHeld => ?_)
  refine takeH 0 7 (v := ?_) rfl (by kernel_rfl) (by kernel_rfl) (by kernel_rfl) (fun _ _ _ h => h) (Or.inl ⟨by rfl, ?_⟩) (by assumption) ?_
  rotate_left
  ·(intro w hSw; (try dsimp only at hSw); go_simp) <;> with_reducible rfl
  (try simp only [Act.put, List.setIfInBounds_toArray, List.set_cons_zero, List.set_cons_succ])
  refine takeH 1 8 (v := ?_) rfl (by kernel_rfl) (by kernel_rfl) (by kernel_rfl) (fun _ _ _ h => h) (Or.inl ⟨by rfl, ?_⟩) (by assumption) ?_
  rotate_left
  ·(intro w hSw; (try dsimp only at hSw); go_simp) <;> with_reducible rfl
  (try simp only [Act.put, List.setIfInBounds_toArray, List.set_cons_zero, List.set_cons_succ])
  refine takeH 2 9 (v := ?_) rfl (by kernel_rfl) (by kernel_rfl) (by kernel_rfl) (fun _ _ _ h => h) (Or.inl ⟨by rfl, ?_⟩) (by assumption) ?_
  rotate_left
  ·(intro w hSw; (try dsimp only at hSw); go_simp) <;> with_reducible rfl
  (try simp only [Act.put, List.setIfInBounds_toArray, List.set_cons_zero, List.set_cons_succ])
  refine wpAnyH_ready (rs := [3]) (by kernel_rfl) (by simp) ?_
  refine AllReadyH.cons (o := _) rfl (fun K hK => ?_) AllReadyH.nil
  go_simp
  refine (spec_l1Rounds h38.2).mono ?_; rintro e w1 ⟨rfl, hw1⟩
  have C1 : Below w0.heap.size w0 w1 := by rw [← hw1]; exact C0
  try go_wp2_with fail
  refine hK.out _ _ (CA.out _ C1) (fun hHeld => ?_)
  clear hK K
  (try simp only [Act.put, List.setIfInBounds_toArray, List.set_cons_zero, List.set_cons_succ])
  refine wpAnyH_ready (rs := [4]) (by kernel_rfl) (by simp) ?_
  refine AllReadyH.cons (o := _) rfl (fun K hK => ?_) AllReadyH.nil
  go_simp
  refine (spec_l11Lead (nm := nm) hrz hn (H0.out.up C1) hz hs).mono ?_; rw [HRL.out]; rintro e w2 ⟨A2, c2, rfl, ho2, hb2⟩
  have C2 := below_go C1 hb2
  try go_wp2_with fail
  refine hK.out _ _ (CA.out _ C2) (fun hHeld => ?_)
  clear hK K
  (try simp only [Act.put, List.setIfInBounds_toArray, List.set_cons_zero, List.set_cons_succ])
  refine wpAnyH_ready (rs := [5]) (by kernel_rfl) (by simp) ?_
  refine AllReadyH.cons (o := _) rfl (fun K hK => ?_) AllReadyH.nil
  go_simp
  refine (spec_l7True ho2.len ho2.recs (by omega) HLZ.out).mono ?_; rw [HL.out]; rintro e w3 ⟨rfl, hb3⟩
  have C3 := below_go C2 hb3
  try go_wp2_with fail
  refine hK.out _ _ (CA.out _ C3) (fun hHeld => ?_)
  clear hK K
  (try simp only [Act.put, List.setIfInBounds_toArray, List.set_cons_zero, List.set_cons_succ])
  refine takeH 6 13 (v := ?_) rfl (by kernel_rfl) (by kernel_rfl) (by kernel_rfl) (fun _ _ _ h => h) (Or.inl ⟨by rfl, ?_⟩) (by assumption) ?_
  rotate_left
  ·(intro w hSw; (try dsimp only at hSw); go_simp) <;> with_reducible rfl
  (try simp only [Act.put, List.setIfInBounds_toArray, List.set_cons_zero, List.set_cons_succ])
  refine takeH 7 14 (v := undef) rfl (by kernel_rfl) (by kernel_rfl) (by kernel_rfl) (fun _ _ _ h => h) (Or.inr ⟨by rfl, rfl⟩) (by assumption) ?_
  (try simp only [Act.put, List.setIfInBounds_toArray, List.set_cons_zero, List.set_cons_succ])
  refine takeH 8 15 (v := undef) rfl (by kernel_rfl) (by kernel_rfl) (by kernel_rfl) (fun _ _ _ h => h) (Or.inr ⟨by rfl, rfl⟩) (by assumption) ?_
  (try simp only [Act.put, List.setIfInBounds_toArray, List.set_cons_zero, List.set_cons_succ])
  refine takeH 9 16 (v := undef) rfl (by kernel_rfl) (by kernel_rfl) (by kernel_rfl) (fun _ _ _ h => h) (Or.inr ⟨by rfl, rfl⟩) (by assumption) ?_
  (try simp only [Act.put, List.setIfInBounds_toArray, List.set_cons_zero, List.set_cons_succ])
  refine takeH 10 17 (v := undef) rfl (by kernel_rfl) (by kernel_rfl) (by kernel_rfl) (fun _ _ _ h => h) (Or.inr ⟨by rfl, rfl⟩) (by assumption) ?_
  (try simp only [Act.put, List.setIfInBounds_toArray, List.set_cons_zero, List.set_cons_succ])
  refine takeH 12 19 (v := undef) rfl (by kernel_rfl) (by kernel_rfl) (by kernel_rfl) (fun _ _ _ h => h) (Or.inr ⟨by rfl, rfl⟩) (by assumption) ?_
  (try simp only [Act.put, List.setIfInBounds_toArray, List.set_cons_zero, List.set_cons_succ])
  refine takeH 13 20 (v := undef) rfl (by kernel_rfl) (by kernel_rfl) (by kernel_rfl) (fun _ _ _ h => h) (Or.inr ⟨by rfl, rfl⟩) (by assumption) ?_
  (try simp only [Act.put, List.setIfInBounds_toArray, List.set_cons_zero, List.set_cons_succ])
  refine wpAnyH_ready (rs := [11]) (by kernel_rfl) (by simp) ?_
  refine AllReadyH.cons (o := _) rfl (fun K hK => ?_) AllReadyH.nil
  go_simp
  refine hK.out _ _ (CA.out _ C3) (fun hHeld => ?_)
  clear hK K
  (try simp only [Act.put, List.setIfInBounds_toArray, List.set_cons_zero, List.set_cons_succ])
  refine takeH 14 21 (v := undef) rfl (by kernel_rfl) (by kernel_rfl) (by kernel_rfl) (fun _ _ _ h => h) (Or.inr ⟨by rfl, rfl⟩) (by assumption) ?_
  (try simp only [Act.put, List.setIfInBounds_toArray, List.set_cons_zero, List.set_cons_succ])
  refine wpAnyH_ready (rs := [15]) (by kernel_rfl) (by simp) ?_
  refine AllReadyH.cons (o := _) rfl (fun K hK => ?_) AllReadyH.nil
  go_simp
  refine hK.out _ _ (CA.out _ C3) (fun hHeld => ?_)
  clear hK K
  (try simp only [Act.put, List.setIfInBounds_toArray, List.set_cons_zero, List.set_cons_succ])
  refine takeH 16 23 (v := undef) rfl (by kernel_rfl) (by kernel_rfl) (by kernel_rfl) (fun _ _ _ h => h) (Or.inr ⟨by rfl, rfl⟩) (by assumption) ?_
  (try simp only [Act.put, List.setIfInBounds_toArray, List.set_cons_zero, List.set_cons_succ])
  refine takeH 17 24 (v := undef) rfl (by kernel_rfl) (by kernel_rfl) (by kernel_rfl) (fun _ _ _ h => h) (Or.inr ⟨by rfl, rfl⟩) (by assumption) ?_
  (try simp only [Act.put, List.setIfInBounds_toArray, List.set_cons_zero, List.set_cons_succ])
  refine takeH 18 25 (v := ?_) rfl (by kernel_rfl) (by kernel_rfl) (by kernel_rfl) (fun _ _ _ h => h) (Or.inl ⟨by rfl, ?_⟩) (by assumption) ?_
  rotate_left
  ·(intro w hSw; (try dsimp only at hSw); go_simp) <;> with_reducible rfl
  (try simp only [Act.put, List.setIfInBounds_toArray, List.set_cons_zero, List.set_cons_succ])
  refine takeH 19 6 (v := ?_) rfl (by kernel_rfl) (by kernel_rfl) (by kernel_rfl) (fun _ _ _ h => h) (Or.inl ⟨by rfl, ?_⟩) (by assumption) ?_
  rotate_left
  ·(intro w hSw; (try dsimp only at hSw); go_simp) <;> with_reducible rfl
  (try simp only [Act.put, List.setIfInBounds_toArray, List.set_cons_zero, List.set_cons_succ])
  refine wpAnyH_done (by kernel_rfl) ?_ _
  (try simp only [Act.put, List.setIfInBounds_toArray, List.set_cons_zero, List.set_cons_succ])
  go_wp2
  go_ret
  rw [e2.out]
  exact ⟨rfl, below_go b0 C3⟩
 ·have HL := Lib.hid hl
  clear hl
  refine wp_region_held_drew (S := fun u => (u.cell? ⟨w.heap.size, 0, none⟩ = some (.string nm) ∧ u.cell? ⟨w.heap.size, 1, none⟩ = some (.int .i64 st) ∧ u.cell? ⟨w.heap.size, 2, none⟩ = some (.slice A n c)) ∧ u.cell? ⟨w.heap.size + 1, 0, none⟩ = some (.string kb) ∧ u.cell? ⟨w.heap.size + 1, 1, none⟩ = some (.string ks)) (by kernel_rfl) (CA.out _ C0) (fun hHeld => ?_)
  refine takeH 0 7 (v := ?_) rfl (by kernel_rfl) (by kernel_rfl) (by kernel_rfl) (fun _ _ _ h => h) (Or.inl ⟨by rfl, ?_⟩) (by assumption) ?_
  rotate_left
  ·(intro w hSw; (try dsimp only at hSw); go_simp) <;> with_reducible rfl
  (try simp only [Act.put, List.setIfInBounds_toArray, List.set_cons_zero, List.set_cons_succ])
  refine takeH 1 8 (v := ?_) rfl (by kernel_rfl) (by kernel_rfl) (by kernel_rfl) (fun _ _ _ h => h) (Or.inl ⟨by rfl, ?_⟩) (by assumption) ?_
  rotate_left
  ·(intro w hSw; (try dsimp only at hSw); go_simp) <;> with_reducible rfl
  (try simp only [Act.put, List.setIfInBounds_toArray, List.set_cons_zero, List.set_cons_succ])
  refine takeH 2 9 (v := ?_) rfl (by kernel_rfl) (by kernel_rfl) (by kernel_rfl) (fun _ _ _ h => h) (Or.inl ⟨by rfl, ?_⟩) (by assumption) ?_
  rotate_left
  ·(intro w hSw; (try dsimp only at hSw); go_simp) <;> with_reducible rfl
  (try simp only [Act.put, List.setIfInBounds_toArray, List.set_cons_zero, List.set_cons_succ])
  refine wpAnyH_ready (rs := [3]) (by kernel_rfl) (by simp) ?_
  refine AllReadyH.cons (o := _) rfl (fun K hK => ?_) AllReadyH.nil
  go_simp
  refine (spec_l1Rounds h38.2).mono ?_; rintro e w1 ⟨rfl, hw1⟩
  have C1 : Below w0.heap.size w0 w1 := by rw [← hw1]; exact C0
  try go_wp2_with fail
  refine hK.out _ _ (CA.out _ C1) (fun hHeld => ?_)
  clear hK K
  (try simp only [Act.put, List.setIfInBounds_toArray, List.set_cons_zero, List.set_cons_succ])
  refine wpAnyH_ready (rs := [4]) (by kernel_rfl) (by simp) ?_
  refine AllReadyH.cons (o := _) rfl (fun K hK => ?_) AllReadyH.nil
  go_simp
  refine (spec_l11Lead (nm := nm) hrz hn (H0.out.up C1) hz hs).mono ?_; rw [HRL.out]; rintro e w2 ⟨A2, c2, rfl, ho2, hb2⟩
  have C2 := below_go C1 hb2
  try go_wp2_with fail
  refine hK.out _ _ (CA.out _ C2) (fun hHeld => ?_)
  clear hK K
  (try simp only [Act.put, List.setIfInBounds_toArray, List.set_cons_zero, List.set_cons_succ])
  refine wpAnyH_ready (rs := [5]) (by kernel_rfl) (by simp) ?_
  refine AllReadyH.cons (o := _) rfl (fun K hK => ?_) AllReadyH.nil
  go_simp
  refine (spec_l7True ho2.len ho2.recs (by omega) HLZ.out).mono ?_; rw [HL.out]; rintro e w3 ⟨rfl, hb3⟩
  have C3 := below_go C2 hb3
  try go_wp2_with fail
  refine hK.out _ _ (CA.out _ C3) (fun hHeld => ?_)
  clear hK K
  (try simp only [Act.put, List.setIfInBounds_toArray, List.set_cons_zero, List.set_cons_succ])
  refine takeH 6 13 (v := ?_) rfl (by kernel_rfl) (by kernel_rfl) (by kernel_rfl) (fun _ _ _ h => h) (Or.inl ⟨by rfl, ?_⟩) (by assumption) ?_
  rotate_left
  ·(intro w hSw; (try dsimp only at hSw); go_simp) <;> with_reducible rfl
  (try simp only [Act.put, List.setIfInBounds_toArray, List.set_cons_zero, List.set_cons_succ])
  refine takeH 7 14 (v := ?_) rfl (by kernel_rfl) (by kernel_rfl) (by kernel_rfl) (fun _ _ _ h => h) (Or.inl ⟨by rfl, ?_⟩) (by assumption) ?_
  rotate_left
  ·(intro w hSw; (try dsimp only at hSw); go_simp) <;> with_reducible rfl
  (try simp only [Act.put, List.setIfInBounds_toArray, List.set_cons_zero, List.set_cons_succ])
  refine takeH 8 15 (v := ?_) rfl (by kernel_rfl) (by kernel_rfl) (by kernel_rfl) (fun _ _ _ h => h) (Or.inl ⟨by rfl, ?_⟩) (by assumption) ?_
  rotate_left
  ·(intro w hSw; (try dsimp only at hSw); go_simp) <;> with_reducible rfl
  (try simp only [Act.put, List.setIfInBounds_toArray, List.set_cons_zero, List.set_cons_succ])
  refine takeH 9 16 (v := ?_) rfl (by kernel_rfl) (by kernel_rfl) (by kernel_rfl) (fun _ _ _ h => h) (Or.inl ⟨by rfl, ?_⟩) (by assumption) ?_
  rotate_left
  ·(intro w hSw; (try dsimp only at hSw); go_simp) <;> with_reducible rfl
  (try simp only [Act.put, List.setIfInBounds_toArray, List.set_cons_zero, List.set_cons_succ])
  refine takeH 10 17 (v := ?_) rfl (by kernel_rfl) (by kernel_rfl) (by kernel_rfl) (fun _ _ _ h => h) (Or.inl ⟨by rfl, ?_⟩) (by assumption) ?_
  rotate_left
  ·(intro w hSw; (try dsimp only at hSw); go_simp) <;> with_reducible rfl
  (try simp only [Act.put, List.setIfInBounds_toArray, List.set_cons_zero, List.set_cons_succ])
  refine takeH 12 19 (v := ?_) rfl (by kernel_rfl) (by kernel_rfl) (by kernel_rfl) (fun _ _ _ h => h) (Or.inl ⟨by rfl, ?_⟩) (by assumption) ?_
  rotate_left
  ·(intro w hSw; (try dsimp only at hSw); go_simp) <;> with_reducible rfl
  (try simp only [Act.put, List.setIfInBounds_toArray, List.set_cons_zero, List.set_cons_succ])
  refine takeH 13 20 (v := ?_) rfl (by kernel_rfl) (by kernel_rfl) (by kernel_rfl) (fun _ _ _ h => h) (Or.inl ⟨by rfl, ?_⟩) (by assumption) ?_
  rotate_left
  ·(intro w hSw; (try dsimp only at hSw); go_simp) <;> with_reducible rfl
  (try simp only [Act.put, List.setIfInBounds_toArray, List.set_cons_zero, List.set_cons_succ])
  refine wpAnyH_ready (rs := [11]) (by kernel_rfl) (by simp) ?_
  refine AllReadyH.cons (o := _) rfl (fun K hK => ?_) AllReadyH.nil
  go_simp
  refine (spec_l9HeadsP (nm := nm) (t := t) hn (H0.out.up C3) hk hp hcap).mono ?_; rintro e w4 ⟨A4, c4, rfl, ho4, hb4⟩
  have C4 := below_go C3 hb4
  have hcp4 := ho4.cap.1
  obtain ⟨g, rfl, _⟩ := ho4.at_ (by omega)
  have HF4 := Lib.hid (hds_front ho4)
  have hcN : (t.size : Int) ≤ (c4 : Int) := by omega
  clear ho4
  try go_wp2_with fail
  refine hK.out _ _ (CA.out _ C4) (fun hHeld => ?_)
  clear hK K
  (try simp only [Act.put, List.setIfInBounds_toArray, List.set_cons_zero, List.set_cons_succ])
  refine takeH 14 21 (v := ?_) rfl (by kernel_rfl) (by kernel_rfl) (by kernel_rfl) (fun _ _ _ h => h) (Or.inl ⟨by rfl, ?_⟩) (by assumption) ?_
  rotate_left
  ·(intro w hSw; (try dsimp only at hSw); go_simp) <;> with_reducible rfl
  (try simp only [Act.put, List.setIfInBounds_toArray, List.set_cons_zero, List.set_cons_succ])
  refine wpAnyH_ready (rs := [15]) (by kernel_rfl) (by simp) ?_
  refine AllReadyH.cons (o := _) rfl (fun K hK => ?_) AllReadyH.nil
  go_simp
  refine (spec_l11Clashes (nm := nm) hn (H0.out.up C4) hz hs hnm h9 hk HF4.out ht60).mono ?_; intro e w5 hx
  obtain ⟨A5, q, c5, rfl, hq, hqf, hb5⟩ := hx
  have C5 := below_go C4 hb5
  have HQF := Lib.hid hqf
  clear hqf
  try go_wp2_with fail
  refine hK.out _ _ (CA.out _ C5) (fun hHeld => ?_)
  clear hK K
  (try simp only [Act.put, List.setIfInBounds_toArray, List.set_cons_zero, List.set_cons_succ])
  refine takeH 16 23 (v := ?_) rfl (by kernel_rfl) (by kernel_rfl) (by kernel_rfl) (fun _ _ _ h => h) (Or.inl ⟨by rfl, ?_⟩) (by assumption) ?_
  rotate_left
  ·(intro w hSw; (try dsimp only at hSw); go_simp) <;> with_reducible rfl
  (try simp only [Act.put, List.setIfInBounds_toArray, List.set_cons_zero, List.set_cons_succ])
  refine takeH 17 24 (v := ?_) rfl (by kernel_rfl) (by kernel_rfl) (by kernel_rfl) (fun _ _ _ h => h) (Or.inl ⟨by rfl, ?_⟩) (by assumption) ?_
  rotate_left
  ·(intro w hSw; (try dsimp only at hSw); go_simp) <;> with_reducible rfl
  (try simp only [Act.put, List.setIfInBounds_toArray, List.set_cons_zero, List.set_cons_succ])
  refine takeH 18 25 (v := ?_) rfl (by kernel_rfl) (by kernel_rfl) (by kernel_rfl) (fun _ _ _ h => h) (Or.inl ⟨by rfl, ?_⟩) (by assumption) ?_
  rotate_left
  ·(intro w hSw; (try dsimp only at hSw); go_simp) <;> with_reducible rfl
  (try simp only [Act.put, List.setIfInBounds_toArray, List.set_cons_zero, List.set_cons_succ])
  refine takeH 19 6 (v := ?_) rfl (by kernel_rfl) (by kernel_rfl) (by kernel_rfl) (fun _ _ _ h => h) (Or.inl ⟨by rfl, ?_⟩) (by assumption) ?_
  rotate_left
  ·(intro w hSw; (try dsimp only at hSw); go_simp) <;> with_reducible rfl
  (try simp only [Act.put, List.setIfInBounds_toArray, List.set_cons_zero, List.set_cons_succ])
  refine wpAnyH_done (by kernel_rfl) ?_ _
  (try simp only [Act.put, List.setIfInBounds_toArray, List.set_cons_zero, List.set_cons_succ])
  by_cases hq0 : q = 0
  ·have e2 := Lib.hid (show trueH st l kb ks t = true by rw [HTF.out q HL.out HQF.out, decide_eq_true hq0])
   subst hq0
   go_wp2
   go_ret
   rw [e2.out]
   exact ⟨rfl, below_go b0 C5⟩
  ·have e2 := Lib.hid (show trueH st l kb ks t = false by rw [HTF.out q HL.out HQF.out, decide_eq_false hq0])
   have hq1 : ((q : Int) == 0) = false := by rw [beq_eq_false_iff_ne]; omega
   go_wp2
   go_ret
   rw [e2.out]
   simp [hq0]
   exact below_go b0 C5
set_option maxHeartbeats 4000000 in
set_option maxRecDepth 100000 in
theorem impl_headClashes {A : Option Addr} {n c st : Nat} {nm : ByteArray} {l : List ByteArray} {kb ks t : ByteArray} {w : World} (hn : l.length = n) (h : Strs w A l) (hz : n ≤ 1048576) (hs : ∀ s ∈ l, s.size ≤ 16777216) (hnm : nm.size ≤ 16777216) (h9 : st ≤ 1000) (hk : goodK nm (st : Int) l kb ks = true) (hp : preT t) :
  Calls Tryz.prog 214 #[.agg #[.string nm, .int .i64 st, .slice A n c], .agg #[.string kb, .string ks], .string t] w fun e w' => ClR st l kb ks t t.size w e w' := by
 have ht60 := hp.1
 have b0 : Below w.heap.size w ((w.alloc (.cells ⟨[.string nm, .int .i64 st, .slice A n c]⟩ 25)).alloc (.cells ⟨[.string kb, .string ks]⟩ 27)) := by (repeat' (first | (with_reducible exact Below.refl _ _) | (with_reducible assumption) | (with_reducible refine below_drewN ?_ _) | (with_reducible refine Below.drew ?_) | (with_reducible refine below_alloc ?_ _) | (with_reducible refine Below.alloc ?_ ?_ _) | (with_reducible refine Below.setCell ?_ ?_ _) | (with_reducible refine below_go ?_ (by with_reducible assumption)) | (with_reducible refine below_then (by with_reducible assumption) ?_ ?_) | go_size))
 have K0 := (Blk.at_ w 25 [.string nm, .int .i64 st, .slice A n c] (b := w.heap.size) rfl).alloc (.cells ⟨[.string kb, .string ks]⟩ 27)
 have J0 := Blk.at_ (w.alloc (.cells ⟨[.string nm, .int .i64 st, .slice A n c]⟩ 25)) 27 [.string kb, .string ks] (b := w.heap.size + 1) (by simp)
 have hcL : (t.size : Int) ≤ (t.size : Int) + 1 := by omega
 go_in
 go_upto_region 1 with fail
 obtain ⟨w0, hw0⟩ : ∃ u, u = ((w.alloc (.cells #[.string nm, .int .i64 st, .slice A n c] 25)).alloc (.cells #[.string kb, .string ks] 27)) := ⟨_, rfl⟩
 rw [← hw0] at b0 K0 J0 ⊢
 clear hw0
 have H0 := Lib.hid (h.up b0)
 have CA : Hid (∀ u : World, Below w0.heap.size w0 u → (u.cell? ⟨w.heap.size, 0, none⟩ = some (.string nm) ∧ u.cell? ⟨w.heap.size, 1, none⟩ = some (.int .i64 st) ∧ u.cell? ⟨w.heap.size, 2, none⟩ = some (.slice A n c)) ∧ u.cell? ⟨w.heap.size + 1, 0, none⟩ = some (.string kb) ∧ u.cell? ⟨w.heap.size + 1, 1, none⟩ = some (.string ks)) := Lib.hid (fun u hu => by
  have L0 := K0.up hu; have L1 := J0.up hu
  exact ⟨⟨by simpa using L0.cell 0, by simpa using L0.cell 1, by simpa using L0.cell 2⟩, by simpa using L1.cell 0, by simpa using L1.cell 1⟩)
 clear h K0 J0
 have C0 : Below w0.heap.size w0 w0.drew := (Below.refl _ _).drew
 refine wp_region_held_drew (S := fun u => (u.cell? ⟨w.heap.size, 0, none⟩ = some (.string nm) ∧ u.cell? ⟨w.heap.size, 1, none⟩ = some (.int .i64 st) ∧ u.cell? ⟨w.heap.size, 2, none⟩ = some (.slice A n c)) ∧ u.cell? ⟨w.heap.size + 1, 0, none⟩ = some (.string kb) ∧ u.cell? ⟨w.heap.size + 1, 1, none⟩ = some (.string ks)) (by kernel_rfl) (CA.out _ C0) (fun hHeld => ?_)
 refine takeH 0 7 (v := ?_) rfl (by kernel_rfl) (by kernel_rfl) (by kernel_rfl) (fun _ _ _ h => h) (Or.inl ⟨by rfl, ?_⟩) (by assumption) ?_
 rotate_left
 ·(intro w hSw; (try dsimp only at hSw); go_simp) <;> with_reducible rfl
 (try simp only [Act.put, List.setIfInBounds_toArray, List.set_cons_zero, List.set_cons_succ])
 refine takeH 1 8 (v := ?_) rfl (by kernel_rfl) (by kernel_rfl) (by kernel_rfl) (fun _ _ _ h => h) (Or.inl ⟨by rfl, ?_⟩) (by assumption) ?_
 rotate_left
 ·(intro w hSw; (try dsimp only at hSw); go_simp) <;> with_reducible rfl
 (try simp only [Act.put, List.setIfInBounds_toArray, List.set_cons_zero, List.set_cons_succ])
 refine takeH 2 9 (v := ?_) rfl (by kernel_rfl) (by kernel_rfl) (by kernel_rfl) (fun _ _ _ h => h) (Or.inl ⟨by rfl, ?_⟩) (by assumption) ?_
 rotate_left
 ·(intro w hSw; (try dsimp only at hSw); go_simp) <;> with_reducible rfl
 (try simp only [Act.put, List.setIfInBounds_toArray, List.set_cons_zero, List.set_cons_succ])
 refine takeH 3 10 (v := ?_) rfl (by kernel_rfl) (by kernel_rfl) (by kernel_rfl) (fun _ _ _ h => h) (Or.inl ⟨by rfl, ?_⟩) (by assumption) ?_
 rotate_left
 ·(intro w hSw; (try dsimp only at hSw); go_simp) <;> with_reducible rfl
 (try simp only [Act.put, List.setIfInBounds_toArray, List.set_cons_zero, List.set_cons_succ])
 refine takeH 5 12 (v := ?_) rfl (by kernel_rfl) (by kernel_rfl) (by kernel_rfl) (fun _ _ _ h => h) (Or.inl ⟨by rfl, ?_⟩) (by assumption) ?_
 rotate_left
 ·(intro w hSw; (try dsimp only at hSw); go_simp) <;> with_reducible rfl
 (try simp only [Act.put, List.setIfInBounds_toArray, List.set_cons_zero, List.set_cons_succ])
 refine takeH 6 13 (v := ?_) rfl (by kernel_rfl) (by kernel_rfl) (by kernel_rfl) (fun _ _ _ h => h) (Or.inl ⟨by rfl, ?_⟩) (by assumption) ?_
 rotate_left
 ·(intro w hSw; (try dsimp only at hSw); go_simp) <;> with_reducible rfl
 (try simp only [Act.put, List.setIfInBounds_toArray, List.set_cons_zero, List.set_cons_succ])
 refine wpAnyH_ready (rs := [4]) (by kernel_rfl) (by simp) ?_
 refine AllReadyH.cons (o := _) rfl (fun K hK => ?_) AllReadyH.nil
 go_simp
 refine (impl_headsP (nm := nm) (t := t) hn (H0.out.up C0) hk hp).mono ?_; rintro e w4 ⟨A4, c4, rfl, ho4, hb4⟩
 have C4 := below_go C0 hb4
 have hcp4 := ho4.cap.1
 obtain ⟨g, rfl, _⟩ := ho4.at_ (by omega)
 have HF4 := Lib.hid (hds_front ho4)
 have hcN : (t.size : Int) ≤ (c4 : Int) := by omega
 clear ho4
 try go_wp2_with fail
 refine hK.out _ _ (CA.out _ C4) (fun hHeld => ?_)
 clear hK K
 (try simp only [Act.put, List.setIfInBounds_toArray, List.set_cons_zero, List.set_cons_succ])
 refine takeH 7 14 (v := ?_) rfl (by kernel_rfl) (by kernel_rfl) (by kernel_rfl) (fun _ _ _ h => h) (Or.inl ⟨by rfl, ?_⟩) (by assumption) ?_
 rotate_left
 ·(intro w hSw; (try dsimp only at hSw); go_simp) <;> with_reducible rfl
 (try simp only [Act.put, List.setIfInBounds_toArray, List.set_cons_zero, List.set_cons_succ])
 refine wpAnyH_ready (rs := [8]) (by kernel_rfl) (by simp) ?_
 refine AllReadyH.cons (o := _) rfl (fun K hK => ?_) AllReadyH.nil
 go_simp
 refine (impl_clashes (nm := nm) hn (H0.out.up C4) hz hs hnm h9 hk HF4.out ht60).mono ?_; intro e w5 hx
 obtain ⟨A5, q, c5, rfl, hq, hqf, hb5⟩ := hx
 have C5 := below_go C4 hb5
 have HQF := Lib.hid hqf
 clear hqf
 try go_wp2_with fail
 refine hK.out _ _ (CA.out _ C5) (fun hHeld => ?_)
 clear hK K
 (try simp only [Act.put, List.setIfInBounds_toArray, List.set_cons_zero, List.set_cons_succ])
 refine takeH 9 6 (v := ?_) rfl (by kernel_rfl) (by kernel_rfl) (by kernel_rfl) (fun _ _ _ h => h) (Or.inl ⟨by rfl, ?_⟩) (by assumption) ?_
 rotate_left
 ·(intro w hSw; (try dsimp only at hSw); go_simp) <;> with_reducible rfl
 (try simp only [Act.put, List.setIfInBounds_toArray, List.set_cons_zero, List.set_cons_succ])
 refine wpAnyH_done (by kernel_rfl) ?_ _
 (try simp only [Act.put, List.setIfInBounds_toArray, List.set_cons_zero, List.set_cons_succ])
 go_wp2
 go_ret
 exact ClR.mk _ _ _ rfl hq HQF.out (below_go b0 C5)
set_option maxHeartbeats 4000000 in
set_option maxRecDepth 100000 in
theorem impl_trueByHeads {A : Option Addr} {n c st : Nat} {nm : ByteArray} {l : List ByteArray} {kb ks t : ByteArray} {w : World} (hn : l.length = n) (h : Strs w A l) (hz : n ≤ 1048576) (hs : ∀ s ∈ l, s.size ≤ 16777216) (hnm : nm.size ≤ 16777216) (h9 : st ≤ 1000) (hk : goodK nm (st : Int) l kb ks = true) (hp : preT t) :
  Calls Tryz.prog 162 #[.agg #[.string nm, .int .i64 st, .slice A n c], .agg #[.string kb, .string ks], .string t] w fun e w' => e = .returned (.bool (trueH st l kb ks t)) ∧ Below w.heap.size w w' := by
 have hGM := (goodK_t hk).1
 have b0 : Below w.heap.size w ((w.alloc (.cells ⟨[.string nm, .int .i64 st, .slice A n c]⟩ 25)).alloc (.cells ⟨[.string kb, .string ks]⟩ 27)) := by (repeat' (first | (with_reducible exact Below.refl _ _) | (with_reducible assumption) | (with_reducible refine below_drewN ?_ _) | (with_reducible refine Below.drew ?_) | (with_reducible refine below_alloc ?_ _) | (with_reducible refine Below.alloc ?_ ?_ _) | (with_reducible refine Below.setCell ?_ ?_ _) | (with_reducible refine below_go ?_ (by with_reducible assumption)) | (with_reducible refine below_then (by with_reducible assumption) ?_ ?_) | go_size))
 have K0 := (Blk.at_ w 25 [.string nm, .int .i64 st, .slice A n c] (b := w.heap.size) rfl).alloc (.cells ⟨[.string kb, .string ks]⟩ 27)
 have J0 := Blk.at_ (w.alloc (.cells ⟨[.string nm, .int .i64 st, .slice A n c]⟩ 25)) 27 [.string kb, .string ks] (b := w.heap.size + 1) (by simp)
 have HTL := Lib.hid (@tr_lead st l kb ks t)
 have HTF := Lib.hid (fun (q : Nat) => @tr_free st q l kb ks t)
 have H0 := Lib.hid (h.up b0)
 clear h
 go_in
 go_wp2_with fail
 rcases hl : nodupB (leadL st l)
 ·have e2 := Lib.hid (HTL.out hl)
  have HL := Lib.hid hl
  clear hl
  refine (impl_leadTrue (nm := nm) hn H0.out hz hs hnm h9 hGM).mono ?_; rw [HL.out]; rintro e w1 ⟨rfl, hb1⟩
  go_wp2
  go_ret
  rw [e2.out]
  exact ⟨rfl, below_go b0 hb1⟩
 ·have HL := Lib.hid hl
  clear hl
  refine (impl_leadTrue (nm := nm) hn H0.out hz hs hnm h9 hGM).mono ?_; rw [HL.out]; rintro e w1 ⟨rfl, hb1⟩
  have K1 := K0.up hb1
  have J1 := J0.up hb1
  have H1 := H0.out.up hb1
  have k0 := K1.cell 0; have k1 := K1.cell 1; have k2 := K1.cell 2; have j0 := J1.cell 0; have j1 := J1.cell 1
  simp only [List.getElem?_cons_zero, List.getElem?_cons_succ] at k0 k1 k2 j0 j1
  have C1 := hb1
  go_wp2_with fail
  refine (impl_headClashes (nm := nm) (t := t) hn H1 hz hs hnm h9 hk hp).mono ?_; intro e w5 hx
  obtain ⟨A5, q, c5, rfl, hq, hqf, hb5⟩ := hx
  have C5 := below_go hb1 hb5
  have HQF := Lib.hid hqf
  clear hqf
  by_cases hq0 : q = 0
  ·have e2 := Lib.hid (show trueH st l kb ks t = true by rw [HTF.out q HL.out HQF.out, decide_eq_true hq0])
   subst hq0
   go_wp2
   go_ret
   rw [e2.out]
   exact ⟨rfl, below_go b0 C5⟩
  ·have e2 := Lib.hid (show trueH st l kb ks t = false by rw [HTF.out q HL.out HQF.out, decide_eq_false hq0])
   have hq1 : ((q : Int) == 0) = false := by rw [beq_eq_false_iff_ne]; omega
   go_wp2
   go_ret
   rw [e2.out]
   simp [hq0]
   exact below_go b0 C5
set_option maxHeartbeats 4000000 in
set_option maxRecDepth 100000 in
theorem impl_TrueByHeads {A : Option Addr} {n c st : Nat} {nm : ByteArray} {l : List ByteArray} {kb ks t : ByteArray} {w : World} (hn : l.length = n) (h : Strs w A l) (hz : n ≤ 1048576) (hs : ∀ s ∈ l, s.size ≤ 16777216) (hnm : nm.size ≤ 16777216) (h9 : st ≤ 1000) (hkb : kb.size ≤ 16777216) (hks : ks.size ≤ 16777216) (ht : t.size ≤ 16777216) :
  Calls Tryz.prog 70 #[.agg #[.string nm, .int .i64 st, .slice A n c], .agg #[.string kb, .string ks], .string t] w fun e w' => e = .returned (.tuple #[.bool (thV nm st l kb ks t), .bool (goodF nm (st : Int) l kb ks t)]) ∧ Below w.heap.size w w' := by
 have b0 : Below w.heap.size w ((w.alloc (.cells ⟨[.string nm, .int .i64 st, .slice A n c]⟩ 25)).alloc (.cells ⟨[.string kb, .string ks]⟩ 27)) := by (repeat' (first | (with_reducible exact Below.refl _ _) | (with_reducible assumption) | (with_reducible refine below_drewN ?_ _) | (with_reducible refine Below.drew ?_) | (with_reducible refine below_alloc ?_ _) | (with_reducible refine Below.alloc ?_ ?_ _) | (with_reducible refine Below.setCell ?_ ?_ _) | (with_reducible refine below_go ?_ (by with_reducible assumption)) | (with_reducible refine below_then (by with_reducible assumption) ?_ ?_) | go_size))
 have K0 := (Blk.at_ w 25 [.string nm, .int .i64 st, .slice A n c] (b := w.heap.size) rfl).alloc (.cells ⟨[.string kb, .string ks]⟩ 27)
 have J0 := Blk.at_ (w.alloc (.cells ⟨[.string nm, .int .i64 st, .slice A n c]⟩ 25)) 27 [.string kb, .string ks] (b := w.heap.size + 1) (by simp)
 have hI : I64 (st : Int) := ⟨by omega, by omega⟩
 have H0 := h.up b0
 have HG : Hid (goodF nm st l kb ks t = (goodK nm (st : Int) l kb ks && goodT t)) := Lib.hid rfl
 have HVT := Lib.hid (@thV_t nm st l kb ks t)
 have HVF := Lib.hid (@thV_f nm st l kb ks t)
 clear h
 go_in
 go_wp2_with fail
 refine (impl_goodFor (nm := nm) (st := (st : Int)) hn H0 hz hs hnm hI hkb hks ht).mono ?_; rintro e w1 ⟨rfl, hb1⟩
 have K1 := K0.up hb1
 have J1 := J0.up hb1
 have H1 := H0.up hb1
 have B1 := below_go b0 hb1
 clear K0 J0 H0 b0 hb1
 rcases hg : goodF nm st l kb ks t
 ·have e2 := Lib.hid hg
  go_wp2
  go_ret2
  rw [HVF.out e2.out, e2.out]
  exact ⟨rfl, B1⟩
 ·have e2 := Lib.hid hg
  have hgg := hg
  rw [HG.out, Bool.and_eq_true] at hgg
  have k0 := K1.cell 0; have k1 := K1.cell 1; have k2 := K1.cell 2; have j0 := J1.cell 0; have j1 := J1.cell 1
  simp only [List.getElem?_cons_zero, List.getElem?_cons_succ] at k0 k1 k2 j0 j1
  go_wp2_with fail
  refine (impl_trueByHeads (nm := nm) (t := t) hn H1 hz hs hnm h9 hgg.1 (goodT.pre hgg.2)).mono ?_; rintro e w2 ⟨rfl, hb2⟩
  go_wp2
  go_ret2
  rw [HVT.out e2.out, e2.out]
  exact ⟨rfl, below_go B1 hb2⟩
end Go.Proofs.YtidolgonmimicaaGreat
namespace Go.Proofs.YtidolgonmimicaaGreat
open Go.ChangeShapes Go.WideShapes Go.ChangeAt Go.RowKit Go.Deep
theorem wrap_pred {k : Nat} (h0 : 0 < k) (h1 : k ≤ 16777216) : IntKind.i64.wrap ((k : Int) - 1) = ((k - 1 : Nat) : Int) := by
 rw [PlainAid.i64_is]; unfold wrap64; omega
set_option maxRecDepth 100000 in
theorem impl_increasing {A : Option Addr} {N c : Nat} {l : List ByteArray} {w : World} (hN : l.length = N) (h : Strs w A l) (hz : N ≤ 16777216) :
  Calls Tryz.prog 159 #[.slice A N c] w fun e w' => e = .returned (.bool (incB l)) ∧ Below w.heap.size w w' := by
 subst hN
 have HG : Hid (incB l = (List.range l.length).all (okInc l)) := Lib.hid rfl
 go_in
 go_wp2
 go_loopw [3] (fun i wr => ∃ k : Nat, 0 < k ∧ k ≤ l.length + 1 ∧ i = .int .i64 k ∧ Hid (∀ j, j < k → okInc l j = true) ∧ Below w.heap.size w wr) (fun i _ => l.length + 1 - (intOf i).toNat)
 case atStart => exact ⟨1, by omega, by omega, rfl, Lib.hid (fun j hj => (by have : j = 0 := (by omega); subst this; exact okInc_0 l)), Below.refl _ _⟩
 case round =>
  obtain ⟨k, hk0, hk, rfl, HK, hb⟩ := hrel
  by_cases hlt : k < l.length
  ·have hr := h.below hb (Nat.le_refl _)
   obtain ⟨b1, o1, y, rfl, hbb, hy, hcy⟩ := hr.at_str hlt
   obtain ⟨b2, o2, x, e, _, hx, hcx⟩ := hr.at_str (k := k - 1) (by omega)
   injection e with e
   injection e with e1 e2
   subst e1 e2
   have E := Lib.hid (okInc_pos hk0 hx hy)
   have hwk := wrap_pred hk0 (by omega)
   have hlt1 : k - 1 < l.length := by omega
   clear h hr hx hy
   rcases hl : less x y
   ·obtain ⟨h1, h2⟩ := less_no hl
    clear hl
    have e0 := Lib.hid (show okInc l k = false by rw [E.out]; exact h1)
    rcases h2 with h2 | ⟨h2, h3⟩
    all_goals
     go_wp2
     go_quiet (fail)
     go_wp2
     go_ret
     refine ⟨ret_bool ?_, by (repeat' (first | (with_reducible exact Below.refl _ _) | (with_reducible assumption) | (with_reducible refine below_drewN ?_ _) | (with_reducible refine Below.drew ?_) | (with_reducible refine below_alloc ?_ _) | (with_reducible refine Below.alloc ?_ ?_ _) | (with_reducible refine Below.setCell ?_ ?_ _) | (with_reducible refine below_go ?_ (by with_reducible assumption)) | (with_reducible refine below_then (by with_reducible assumption) ?_ ?_) | go_size))⟩
     rw [HG.out, all_no hlt e0.out]
   ·obtain ⟨h1, h2, h3⟩ := less_yes hl
    have e0 := Lib.hid (show okInc l k = true by rw [E.out]; exact hl)
    clear hl
    go_wp2
    go_quiet (fail)
    go_wp2
    go_roundw
    case rel => exact ⟨k + 1, by omega, by omega, by go_num, Lib.hid (upto_succ HK.out e0.out), by (repeat' (first | (with_reducible exact Below.refl _ _) | (with_reducible assumption) | (with_reducible refine below_drewN ?_ _) | (with_reducible refine Below.drew ?_) | (with_reducible refine below_alloc ?_ _) | (with_reducible refine Below.alloc ?_ ?_ _) | (with_reducible refine Below.setCell ?_ ?_ _) | (with_reducible refine below_go ?_ (by with_reducible assumption)) | (with_reducible refine below_then (by with_reducible assumption) ?_ ?_) | go_size))⟩
    case measure => simp [intOf]; omega
  ·go_wp2
   go_ret
   refine ⟨ret_bool ?_, hb⟩
   rw [HG.out, all_yes (fun j hj => HK.out j (by omega))]
end Go.Proofs.YtidolgonmimicaaGreat
namespace Go.Proofs.YtidolgonmimicaaGreat
open Go.ChangeShapes Go.WideShapes Go.ChangeAt Go.RowKit Go.Deep
theorem sumC_snoc (N : Nat) {C : List Cut3} {k : Nat} {x : Cut3} (h : C[k]? = some x) : sumC N (C.take (k + 1)) = sumC N (C.take k) + p3 (N - x.1.size) := by
 rw [List.take_add_one, h, sumC_app]; simp [sumC, p3]
noncomputable def tokI (st : Nat) (l : List ByteArray) (kb ks : ByteArray) (N : Nat) (t : ByteArray) : Bool := decide (t.size = N) && ((List.range t.size).all (callB t) && (decide (hdAt st l kb ks t t.size = roundsS st) && trueH st l kb ks t))
noncomputable def ckI (nm : ByteArray) (st : Nat) (l : List ByteArray) (kb ks : ByteArray) (N : Nat) (T : List ByteArray) (C : List Cut3) (ok : Bool) : Bool := askS nm st l kb ks N && (ok && (incB T && (C.all (jusB (cutF st l kb ks N) N) && (decide (T.length + sumC N C = p3 N) && (T.all (tokI st l kb ks N) && apI T (txC C))))))
theorem tokI_1 {st : Nat} {l : List ByteArray} {kb ks : ByteArray} {N : Nat} {t : ByteArray} (h : ¬ t.size = N) : tokI st l kb ks N t = false := by rw [tokI, decide_eq_false h, Bool.false_and]
theorem tokI_2 {st : Nat} {l : List ByteArray} {kb ks : ByteArray} {N : Nat} {t : ByteArray} (h : (List.range t.size).all (callB t) = false) : tokI st l kb ks N t = false := by rw [tokI, h, Bool.false_and, Bool.and_false]
theorem tokI_3 {st : Nat} {l : List ByteArray} {kb ks : ByteArray} {N : Nat} {t : ByteArray} (h : decide (hdAt st l kb ks t t.size = roundsS st) = false) : tokI st l kb ks N t = false := by rw [tokI, h, Bool.false_and, Bool.and_false, Bool.and_false]
theorem tokI_4 {st : Nat} {l : List ByteArray} {kb ks : ByteArray} {N : Nat} {t : ByteArray} (h1 : t.size = N) (h2 : (List.range t.size).all (callB t) = true) (h3 : decide (hdAt st l kb ks t t.size = roundsS st) = true) : tokI st l kb ks N t = trueH st l kb ks t := by rw [tokI, decide_eq_true h1, h2, h3]; simp only [Bool.true_and]
theorem all_mem_f {α : Type} {f : α → Bool} {l : List α} {k : Nat} {x : α} (hx : l[k]? = some x) (h : f x = false) : l.all f = false := by
 rw [List.all_eq_false]; exact ⟨x, List.mem_of_getElem? hx, by rw [h]; simp⟩
theorem all_take {α : Type} {f : α → Bool} {l : List α} {k : Nat} {x : α} (hx : l[k]? = some x) (h : (l.take k).all f = true) (h2 : f x = true) : (l.take (k + 1)).all f = true := by
 rw [List.take_add_one, hx, List.all_append, h]; simp [h2]
set_option maxHeartbeats 4000000 in
set_option maxRecDepth 100000 in
theorem impl_CheckFound {A : Option Addr} {n c st : Nat} {nm : ByteArray} {l : List ByteArray} {kb ks : ByteArray} {N : Nat} {AT AC : Option Addr} {nT cT nC cC : Nat} {T : List ByteArray} {C : List Cut3} {ok : Bool} {w : World} (hn : l.length = n) (h : Strs w A l) (hz : n ≤ 1048576) (hs : ∀ s ∈ l, s.size ≤ 16777216) (hnm : nm.size ≤ 16777216) (h9 : st ≤ 1000) (hkb : kb.size ≤ 16777216) (hks : ks.size ≤ 16777216) (hN : N ≤ 1000) (hnT : T.length = nT) (hT : Strs w AT T) (hnC : C.length = nC) (hC : Recs cutE 3 w AC C) (hzT : nT ≤ 10000) (hzC : nC ≤ 10000) (hsT : ∀ s ∈ T, s.size ≤ 16777216) (hsC : ∀ x ∈ C, x.1.size ≤ 16777216) :
  Calls Tryz.prog 68 #[.agg #[.string nm, .int .i64 st, .slice A n c], .agg #[.string kb, .string ks], .int .i64 (N : Int), .agg #[.slice AT nT cT, .slice AC nC cC, .bool ok]] w fun e w' => e = .returned (.bool (ckI nm st l kb ks N T C ok)) ∧ Below w.heap.size w w' := by
 subst hnT hnC
 have HQ : Hid (ckI nm st l kb ks N T C ok = (askS nm st l kb ks N && (ok && (incB T && (C.all (jusB (cutF st l kb ks N) N) && (decide (T.length + sumC N C = p3 N) && (T.all (tokI st l kb ks N) && apI T (txC C)))))))) := Lib.hid rfl
 have HA : Hid (askS nm st l kb ks N = (goodK nm (st : Int) l kb ks && inB (N : Int) 1 6)) := Lib.hid rfl
 have HTS := Lib.hid (@askS_t nm st l kb ks N)
 have HST := Lib.hid hsT
 have HSC := Lib.hid hsC
 have b0 : Below w.heap.size w (((w.alloc (.cells ⟨[.string nm, .int .i64 st, .slice A n c]⟩ 25)).alloc (.cells ⟨[.string kb, .string ks]⟩ 27)).alloc (.cells #[.slice AT T.length cT, .slice AC C.length cC, .bool ok] 75)) := by (repeat' (first | (with_reducible exact Below.refl _ _) | (with_reducible assumption) | (with_reducible refine below_drewN ?_ _) | (with_reducible refine Below.drew ?_) | (with_reducible refine below_alloc ?_ _) | (with_reducible refine Below.alloc ?_ ?_ _) | (with_reducible refine Below.setCell ?_ ?_ _) | (with_reducible refine below_go ?_ (by with_reducible assumption)) | (with_reducible refine below_then (by with_reducible assumption) ?_ ?_) | go_size))
 have K0 := ((Blk.at_ w 25 [.string nm, .int .i64 st, .slice A n c] (b := w.heap.size) rfl).alloc (.cells ⟨[.string kb, .string ks]⟩ 27)).alloc (.cells #[.slice AT T.length cT, .slice AC C.length cC, .bool ok] 75)
 have J0 := (Blk.at_ (w.alloc (.cells ⟨[.string nm, .int .i64 st, .slice A n c]⟩ 25)) 27 [.string kb, .string ks] (b := w.heap.size + 1) (by simp)).alloc (.cells #[.slice AT T.length cT, .slice AC C.length cC, .bool ok] 75)
 have D0 := Blk.at_ ((w.alloc (.cells ⟨[.string nm, .int .i64 st, .slice A n c]⟩ 25)).alloc (.cells ⟨[.string kb, .string ks]⟩ 27)) 75 [.slice AT T.length cT, .slice AC C.length cC, .bool ok] (b := w.heap.size + 1 + 1) (by simp)
 have H0 := h.up b0
 have HT0 := hT.up b0
 have HC0 := hC.up b0
 clear h hT hC hsT hsC
 go_in
 go_wp2_with fail
 obtain ⟨w0, hw0⟩ : ∃ u, u = (((w.alloc (.cells #[.string nm, .int .i64 st, .slice A n c] 25)).alloc (.cells #[.string kb, .string ks] 27)).alloc (.cells #[.slice AT T.length cT, .slice AC C.length cC, .bool ok] 75)) := ⟨_, rfl⟩
 rw [← hw0] at b0 K0 J0 D0 H0 HT0 HC0 ⊢
 clear hw0
 obtain ⟨M, hM⟩ : ∃ u, u = w.heap.size := ⟨_, rfl⟩
 have HMW := Lib.hid hM
 rw [← hM] at K0 J0 D0 ⊢
 clear hM
 refine (impl_goodSearch (nm := nm) hn H0 hz hs hnm h9 hkb hks hN).mono ?_; rw [← HA.out]; rintro e w1 ⟨rfl, hb1⟩
 have K1 := Lib.hid (K0.up hb1)
 have J1 := Lib.hid (J0.up hb1)
 have D1 := Lib.hid (D0.up hb1)
 have H1 := Lib.hid (H0.up hb1)
 have HT1 := Lib.hid (HT0.up hb1)
 have HC1 := Lib.hid (HC0.up hb1)
 have B1 := Lib.hid (below_go b0 hb1)
 clear K0 J0 D0 H0 HT0 HC0 b0 hb1
 rcases hg : askS nm st l kb ks N
 ·have e2 : Hid (ckI nm st l kb ks N T C ok = false) := Lib.hid (by rw [HQ.out, hg]; rfl)
  clear hg
  go_wp2
  go_ret
  rw [e2.out]
  exact ⟨rfl, B1.out⟩
 ·obtain ⟨hk, hN1, hN6⟩ := HTS.out hg
  have HG := Lib.hid hg
  clear hg
  have d2 := D1.out.cell 2; have d0 := D1.out.cell 0
  simp only [List.getElem?_cons_zero, List.getElem?_cons_succ] at d2 d0
  rcases hok : ok
  ·have e2 : Hid (ckI nm st l kb ks N T C ok = false) := Lib.hid (by rw [HQ.out, hok, Bool.false_and, Bool.and_false])
   rw [hok] at d2
   clear hok
   go_wp2
   go_ret
   rw [e2.out]
   exact ⟨rfl, B1.out⟩
  ·have HOK := Lib.hid hok
   rw [hok] at d2
   clear hok
   go_wp2_with fail
   refine (impl_increasing rfl HT1.out (by omega)).mono ?_; rintro e w2 ⟨rfl, hb2⟩
   clear d2 d0
   have HB2 := Lib.hid hb2
   clear hb2
   rcases hi : incB T
   ·have e2 : Hid (ckI nm st l kb ks N T C ok = false) := Lib.hid (by rw [HQ.out, hi, Bool.false_and, Bool.and_false, Bool.and_false])
    clear hi
    go_wp2
    go_ret
    rw [e2.out]
    exact ⟨rfl, below_go B1.out HB2.out⟩
   ·have HI := Lib.hid hi
    clear hi
    have HQ2 : Hid (ckI nm st l kb ks N T C ok = (C.all (jusB (cutF st l kb ks N) N) && (decide (T.length + sumC N C = p3 N) && (T.all (tokI st l kb ks N) && apI T (txC C))))) := Lib.hid (by rw [HQ.out, HG.out, HOK.out, HI.out]; simp only [Bool.true_and])
    have m0 := (K1.out.up HB2.out).cell 0; have m1 := (K1.out.up HB2.out).cell 1; have m2 := (K1.out.up HB2.out).cell 2; have j0 := (J1.out.up HB2.out).cell 0; have j1 := (J1.out.up HB2.out).cell 1
    simp only [List.getElem?_cons_zero, List.getElem?_cons_succ] at m0 m1 m2 j0 j1
    go_wp2_with fail
    clear m0 m1 m2 j0 j1
    refine (impl_newSearcher (nm := nm) hn (H1.out.up HB2.out) hz hs hnm h9 hk hN).mono ?_; rintro e w3 ⟨B, b, rfl, hKB, hm3, hb, hbB, hb3⟩
    have B3 := Lib.hid (below_go HB2.out hb3)
    have KB3 := Lib.hid hKB
    have M3 := Lib.hid hm3
    clear hKB hm3 hb hbB hb3
    have K3 := Lib.hid (K1.out.up B3.out)
    have J3 := Lib.hid (J1.out.up B3.out)
    have D3 := Lib.hid (D1.out.up B3.out)
    have H3 := Lib.hid (H1.out.up B3.out)
    have HT3 := Lib.hid (HT1.out.up B3.out)
    have HC3 := Lib.hid (HC1.out.up B3.out)
    have B03 := Lib.hid (below_go B1.out B3.out)
    clear K1 J1 D1 H1 HT1 HC1 HB2 B3 B1
    have d0 := D3.out.cell 0; have d1 := D3.out.cell 1
    simp only [List.getElem?_cons_zero, List.getElem?_cons_succ] at d0 d1
    go_wp2
    clear d0 d1
    go_loopw [10, 41] (fun tv iv wr => ∃ k S : Nat, k ≤ C.length ∧ tv = .int .i64 (S : Int) ∧ iv = .int .i64 k ∧ Hid (S = T.length + sumC N (C.take k)) ∧ S ≤ 10000 + 729 * k ∧ Hid ((C.take k).all (jusB (cutF st l kb ks N) N) = true) ∧ Hid (Below w3.heap.size w3 wr)) (fun _ i _ => C.length - (intOf i).toNat)
    case atStart => exact ⟨0, T.length, Nat.zero_le _, rfl, rfl, Lib.hid (by simp [sumC]), by omega, Lib.hid (by simp), Lib.hid (Below.refl _ _)⟩
    case round =>
     obtain ⟨k, S, hk2, rfl, rfl, HS, hS, HJ, HB⟩ := hrel
     rename World => wr
     by_cases hlt : k < C.length
     ·obtain ⟨x, hx⟩ : ∃ x, C[k]? = some x := ⟨_, List.getElem?_eq_getElem hlt⟩
      have hxz := HSC.out x (List.mem_of_getElem? hx)
      obtain ⟨b1, o1, hA, hbb, hc0, hc1, hc2⟩ := (HC3.out.up HB.out).at_3 hx
      have HX := Lib.hid hx
      have HCS := Lib.hid HC3.out
      have SN := Lib.hid (sumC_snoc N hx)
      obtain ⟨t, a, c2⟩ := x
      subst hA
      dsimp only at hc0 hc1 hc2 hxz SN
      have hb2 : Below wr.heap.size wr (wr.alloc (.cells ⟨[.string t, .int .i64 a, .int .i64 c2]⟩ 29)) := by (repeat' (first | (with_reducible exact Below.refl _ _) | (with_reducible assumption) | (with_reducible refine below_drewN ?_ _) | (with_reducible refine Below.drew ?_) | (with_reducible refine below_alloc ?_ _) | (with_reducible refine Below.alloc ?_ ?_ _) | (with_reducible refine Below.setCell ?_ ?_ _) | (with_reducible refine below_go ?_ (by with_reducible assumption)) | (with_reducible refine below_then (by with_reducible assumption) ?_ ?_) | go_size))
      have KX := Lib.hid (Blk.at_ wr 29 [.string t, .int .i64 a, .int .i64 c2] (b := wr.heap.size) rfl)
      have HB2 := Lib.hid (below_go HB.out hb2)
      have x0 := KX.out.cell 0; have x1 := KX.out.cell 1; have x2 := KX.out.cell 2
      simp only [List.getElem?_cons_zero, List.getElem?_cons_succ] at x0 x1 x2
      clear hx hb2
      go_wp2_with fail
      clear x0 x1 x2 hc0 hc1 hc2
      obtain ⟨w4, hw4⟩ : ∃ u, u = (wr.alloc (.cells #[.string t, .int .i64 a, .int .i64 c2] 29)) := ⟨_, rfl⟩
      rw [← hw4] at HB2 KX ⊢
      clear hw4
      obtain ⟨X, hX⟩ : ∃ u, u = wr.heap.size := ⟨_, rfl⟩
      rw [← hX] at KX ⊢
      clear hX
      refine (impl_justified (s := t) (x := a) (y := c2) hn (H3.out.up HB2.out) hk (KB3.out.up HB2.out) (M3.out.up HB2.out) hxz (by omega)).mono ?_; rintro e w5 ⟨rfl, hb5⟩
      have HB5 := Lib.hid (below_go HB2.out hb5)
      have x0 := (KX.out.up hb5).cell 0
      simp only [List.getElem?_cons_zero, List.getElem?_cons_succ] at x0
      clear hb5
      rcases hj : jusB (cutF st l kb ks N) N (t, a, c2)
      ·have e2 : Hid (ckI nm st l kb ks N T C ok = false) := Lib.hid (by rw [HQ2.out, all_mem_f HX.out hj, Bool.false_and])
       clear hj
       go_wp2
       go_ret
       rw [e2.out]
       exact ⟨rfl, below_go B03.out HB5.out⟩
      ·have HJ2 := Lib.hid (all_take HX.out HJ.out hj)
       have hpN : t.size ≤ N := by
        rw [jusB, Bool.and_eq_true, pfxB, Bool.and_eq_true, decide_eq_true_iff] at hj
        exact hj.1.1
       have hwN : IntKind.i64.wrap ((N : Int) - (t.size : Int)) = ((N - t.size : Nat) : Int) := by rw [wrap_id (by omega)]; omega
       have hp3 := p3_le (j := N - t.size) (by omega)
       have hwS : IntKind.i64.wrap ((S : Int) + (p3 (N - t.size) : Int)) = ((S + p3 (N - t.size) : Nat) : Int) := by rw [wrap_id (by omega)]; omega
       clear hj
       have HD := Lib.hid hwS
       clear hwS
       obtain ⟨dN, hdN⟩ : ∃ u, u = N - t.size := ⟨_, rfl⟩
       rw [← hdN] at hwN hp3 HD SN
       have hdN6 : dN ≤ 6 := by omega
       clear hdN
       go_wp2_with fail
       refine (impl_power3 hdN6).mono ?_; rintro e w6 ⟨rfl, rfl⟩
       have hwS := HD.out
       go_wp2
       go_roundw
       case rel => exact ⟨k + 1, S + p3 dN, by omega, by simp [hwS], by go_num, Lib.hid (by rw [SN.out, HS.out]; omega), by omega, HJ2, HB5⟩
       case measure => simp [intOf]; omega
     ·obtain rfl : k = C.length := by omega
      have HJ2 : Hid (C.all (jusB (cutF st l kb ks N) N) = true) := Lib.hid (by have := HJ.out; rwa [List.take_length] at this)
      have HS2 : Hid (S = T.length + sumC N C) := Lib.hid (by have := HS.out; rwa [List.take_length] at this)
      clear HJ HS
      go_wp2_with fail
      refine (impl_power3 hN6).mono ?_; rintro e w6 ⟨rfl, rfl⟩
      by_cases hSN : S = p3 N
      ·have HQ3 : Hid (ckI nm st l kb ks N T C ok = (T.all (tokI st l kb ks N) && apI T (txC C))) := Lib.hid (by rw [HQ2.out, HJ2.out, ← HS2.out, decide_eq_true hSN]; simp only [Bool.true_and])
       have hSI : ((S : Int) == (p3 N : Int)) = true := by rw [hSN]; simp
       have hSJ : (S : Int) = (p3 N : Int) := by rw [hSN]
       subst hSN
       have d0 := (D3.out.up HB.out).cell 0
       simp only [List.getElem?_cons_zero, List.getElem?_cons_succ] at d0
       go_wp2
       clear d0 hSI hSJ
       go_loopw [65] (fun iv wr => ∃ k : Nat, k ≤ T.length ∧ iv = .int .i64 k ∧ Hid ((T.take k).all (tokI st l kb ks N) = true) ∧ Hid (Below w3.heap.size w3 wr)) (fun i _ => T.length - (intOf i).toNat)
       case atStart => exact ⟨0, Nat.zero_le _, rfl, Lib.hid (by simp), HB⟩
       case round =>
        clear HB
        obtain ⟨k, hk2, rfl, HJ, HB⟩ := hrel
        rename World => wt
        by_cases hlt : k < T.length
        ·obtain ⟨b3, o3, t, hAT, hbb3, hx, hcx⟩ := (HT3.out.up HB.out).at_str hlt
         have HTT := Lib.hid HT3.out
         subst hAT
         have hxz := HST.out t (List.mem_of_getElem? hx)
         have HX := Lib.hid hx
         have bad : Hid (tokI st l kb ks N t = false → ckI nm st l kb ks N T C ok = false) := Lib.hid (fun hq => by rw [HQ3.out, all_mem_f HX.out hq, Bool.false_and])
         clear hx
         by_cases hsz : t.size = N
         ·have hII : ((t.size : Int) == (N : Int)) = true := by rw [hsz]; simp
          have hIJ : (t.size : Int) = (N : Int) := by rw [hsz]
          have HSZ := Lib.hid hsz
          clear hsz
          go_wp2_with fail
          refine (impl_areCalls hxz).mono ?_; rintro e w7 ⟨rfl, rfl⟩
          rcases hcl : (List.range t.size).all (callB t)
          ·have e2 := Lib.hid (bad.out (tokI_2 hcl))
           clear hcl
           go_wp2
           go_ret
           rw [e2.out]
           exact ⟨rfl, below_go B03.out HB.out⟩
          ·have HCL := Lib.hid hcl
           have HP : Hid (preT t) := Lib.hid ⟨by have := HSZ.out; omega, fun k hk => List.all_eq_true.1 HCL.out k (List.mem_range.2 hk)⟩
           have HGT : Hid (goodT t = true) := Lib.hid (by
            have h1 := HSZ.out
            rw [goodT, HCL.out, Bool.true_and, inB]
            exact decide_eq_true ⟨by omega, by omega⟩)
           clear hcl
           have m0 := (K3.out.up HB.out).cell 0; have m1 := (K3.out.up HB.out).cell 1; have m2 := (K3.out.up HB.out).cell 2; have j0 := (J3.out.up HB.out).cell 0; have j1 := (J3.out.up HB.out).cell 1
           simp only [List.getElem?_cons_zero, List.getElem?_cons_succ] at m0 m1 m2 j0 j1
           go_wp2_with fail
           clear m0 m1 m2 j0 j1 hII hIJ
           refine (impl_comesRound (nm := nm) hn (H3.out.up HB.out) hk HGT.out).mono ?_; rintro e w8 ⟨rfl, hb8⟩
           have HB8 := Lib.hid (below_go HB.out hb8)
           clear hb8
           rcases hcr : decide (hdAt st l kb ks t t.size = roundsS st)
           ·have e2 := Lib.hid (bad.out (tokI_3 hcr))
            clear hcr
            go_wp2
            go_ret
            rw [e2.out]
            exact ⟨rfl, below_go B03.out HB8.out⟩
           ·have HCR := Lib.hid hcr
            clear hcr
            have HE := Lib.hid (tokI_4 HSZ.out HCL.out HCR.out)
            have m0 := (K3.out.up HB8.out).cell 0; have m1 := (K3.out.up HB8.out).cell 1; have m2 := (K3.out.up HB8.out).cell 2; have j0 := (J3.out.up HB8.out).cell 0; have j1 := (J3.out.up HB8.out).cell 1
            simp only [List.getElem?_cons_zero, List.getElem?_cons_succ] at m0 m1 m2 j0 j1
            go_wp2_with fail
            clear m0 m1 m2 j0 j1
            refine (impl_trueByHeads (nm := nm) hn (H3.out.up HB8.out) hz hs hnm h9 hk HP.out).mono ?_; rintro e w9 ⟨rfl, hb9⟩
            have HB9 := Lib.hid (below_go HB8.out hb9)
            clear hb9
            rcases htr : trueH st l kb ks t
            ·have e2 := Lib.hid (bad.out (HE.out.trans htr))
             clear htr
             go_wp2
             go_ret
             rw [e2.out]
             exact ⟨rfl, below_go B03.out HB9.out⟩
            ·have HJ2 := Lib.hid (all_take HX.out HJ.out (HE.out.trans htr))
             clear htr
             go_wp2
             go_roundw
             case rel => exact ⟨k + 1, by omega, by go_num, HJ2, HB9⟩
             case measure => simp [intOf]; omega
         ·have hII : ((t.size : Int) == (N : Int)) = false := by rw [beq_eq_false_iff_ne]; omega
          have hIJ : ¬ (t.size : Int) = (N : Int) := by omega
          have e2 := Lib.hid (bad.out (tokI_1 hsz))
          go_wp2
          go_ret
          rw [e2.out]
          exact ⟨rfl, below_go B03.out HB.out⟩
        ·obtain rfl : k = T.length := by omega
         have HQ4 : Hid (ckI nm st l kb ks N T C ok = apI T (txC C)) := Lib.hid (by
          have := HJ.out
          rw [List.take_length] at this
          rw [HQ3.out, this, Bool.true_and])
         have d0 := (D3.out.up HB.out).cell 0; have d1 := (D3.out.up HB.out).cell 1; have d2 := (D3.out.up HB.out).cell 2
         simp only [List.getElem?_cons_zero, List.getElem?_cons_succ] at d0 d1 d2
         go_wp2_with fail
         clear d0 d1 d2
         refine (impl_apart rfl (HT3.out.up HB.out) rfl (HC3.out.up HB.out) (by omega) (by omega) HST.out HSC.out).mono ?_; rintro e w9 ⟨rfl, hb9⟩
         go_wp2
         go_ret
         rw [HQ4.out]
         exact ⟨rfl, below_go B03.out (below_go HB.out hb9)⟩
      ·have e2 : Hid (ckI nm st l kb ks N T C ok = false) := Lib.hid (by rw [HQ2.out, ← HS2.out, decide_eq_false hSN, Bool.false_and, Bool.and_false])
       have hSI : ((S : Int) == (p3 N : Int)) = false := by rw [beq_eq_false_iff_ne]; omega
       have hSJ : ¬ (S : Int) = (p3 N : Int) := by omega
       go_wp2
       go_ret
       rw [e2.out]
       exact ⟨rfl, below_go B03.out HB.out⟩
end Go.Proofs.YtidolgonmimicaaGreat
