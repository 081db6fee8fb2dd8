/- Texts 4 of 5 that the claim leans on: plain laws and the walks' contracts, in order. -/
import Derived.Test.YtmdmnjjlpefigaaMExactNextHead3
import Derived.Deep.RegionHeld3
import Derived.StillTailTactics
import Derived.Maps.StringElems
/- The walks of chapter 17: the next head of a row (the program). -/
namespace Go.Proofs.Ytmdmnjjlpefigaa
set_option linter.unusedVariables false
set_option linter.unusedSimpArgs false
open Go.ChangeShapes Go.WideShapes Go.ChangeAt Go.RowKit Go.Deep
noncomputable def ok17 (st : Nat) (l : List ByteArray) (kb ks : ByteArray) (T : List ByteArray) : Bool := decide ((gF st l kb ks).length ≤ 130) && (rowsInB (gF st l kb ks) T && closedB (cQ st l kb ks) T)
theorem inL_perm {L M : List ByteArray} (h : L.Perm M) (s : ByteArray) : inL L s = inL M s := by
  rw [Bool.eq_iff_iff, inL_iff, inL_iff]; exact h.mem_iff
theorem rowsIn_perm {L M B : List ByteArray} (h : L.Perm M) : rowsInB L B = rowsInB M B := by
  rw [rowsInB, rowsInB, show B.all (inL L) = B.all (inL M) from by congr 1; funext s; exact inL_perm h s]
theorem rowsIn_t {L B : List ByteArray} (h : rowsInB L B = true) : (∀ s ∈ B, s ∈ L) ∧ Srt B := by
  rw [rowsInB, Bool.and_eq_true] at h
  exact ⟨fun s hs => inL_iff.1 (List.all_eq_true.1 h.1 s hs), inc_srt h.2⟩
set_option maxHeartbeats 2000000 in
set_option maxRecDepth 100000 in
theorem impl_goodBlocks {A : Option Addr} {n c st : Nat} {nm : ByteArray} {l : List ByteArray} {kb ks : ByteArray} {T : List ByteArray} {AT : Option Addr} {NT cT : Nat} {w : World} (hn : l.length = n) (h : Strs w A l) (hk : goodK nm (st : Int) l kb ks = true) (hNT : T.length = NT) (hT : Strs w AT T) (hzT : NT ≤ 16777216) :
    Calls Try.prog 103 #[.agg #[.string nm, .int .i64 st, .slice A n c], .agg #[.string kb, .string ks], .slice AT NT cT] w fun e w' => ∃ G gn gc, e = .returned (.tuple #[.agg #[.string (cP st l kb ks), .string (cB st l kb ks), .slice G gn gc, .string (cQ st l kb ks)], .bool (ok17 st l kb ks T)]) ∧ ((gF st l kb ks).length ≤ 130 → gn = (gF st l kb ks).length ∧ ∃ L, Owned strE 1 9 w' w.heap.size G gn gc L ∧ L.Perm (gF st l kb ks) ∧ Srt L) ∧ Below w.heap.size w w' := by
  have HO17 := Lib.hid (show ok17 st l kb ks T = (decide ((gF st l kb ks).length ≤ 130) && (rowsInB (gF st l kb ks) T && closedB (cQ st l kb ks) T)) from rfl)
  have HGR := Lib.hid (gF_row hk)
  have b0 : Below w.heap.size w (((w.alloc (.cells ⟨[.string nm, .int .i64 st, .slice A n c]⟩ 42)).alloc (.cells ⟨[.string kb, .string ks]⟩ 44)).alloc (.cells ⟨noB⟩ 119)) := by (repeat' (first | (with_reducible exact Below.refl _ _) | (with_reducible assumption) | (with_reducible refine below_drewN ?_ _) | (with_reducible refine Below.drew ?_) | (with_reducible refine below_alloc ?_ _) | (with_reducible refine Below.alloc ?_ ?_ _) | (with_reducible refine Below.setCell ?_ ?_ _) | (with_reducible refine below_go ?_ (by with_reducible assumption)) | (with_reducible refine below_then (by with_reducible assumption) ?_ ?_) | go_size))
  have K2 := Blk.at_ ((w.alloc (.cells ⟨[.string nm, .int .i64 st, .slice A n c]⟩ 42)).alloc (.cells ⟨[.string kb, .string ks]⟩ 44)) 119 noB (b := w.heap.size + 1 + 1) (by simp)
  go_in
  go_wp2_with fail
  obtain ⟨w0, hw0⟩ : ∃ u, u = (((w.alloc (.cells #[.string nm, .int .i64 st, .slice A n c] 42)).alloc (.cells #[.string kb, .string ks] 44)).alloc (.cells #[.string { data := #[] }, .string { data := #[] }, .slice none 0 0, .string { data := #[] }] 119)) := ⟨_, rfl⟩
  rw [← hw0] at b0 K2 ⊢
  clear hw0
  refine (impl_newBlocks hn (h.up b0) hk).mono ?_; rintro e w1 ⟨G, gn, gc, rfl, hyes, hb1, hq⟩
  have HQ := Lib.hid hq
  have HY := Lib.hid hyes
  clear hyes hq h
  have hB1 := below_go b0 hb1
  have hb2 : Below w1.heap.size w1 (w1.alloc (.cells ⟨[.string (cP st l kb ks), .string (cB st l kb ks), .slice G gn gc, .string (cQ st l kb ks)]⟩ 119)) := by (repeat' (first | (with_reducible exact Below.refl _ _) | (with_reducible assumption) | (with_reducible refine below_drewN ?_ _) | (with_reducible refine Below.drew ?_) | (with_reducible refine below_alloc ?_ _) | (with_reducible refine Below.alloc ?_ ?_ _) | (with_reducible refine Below.setCell ?_ ?_ _) | (with_reducible refine below_go ?_ (by with_reducible assumption)) | (with_reducible refine below_then (by with_reducible assumption) ?_ ?_) | go_size))
  have KX := Blk.at_ w1 119 [.string (cP st l kb ks), .string (cB st l kb ks), .slice G gn gc, .string (cQ st l kb ks)] (b := w1.heap.size) rfl
  have M2 := K2.up hb1
  clear K2
  go_wp2_with fail
  obtain ⟨w2, hw2⟩ : ∃ u, u = (w1.alloc (.cells #[.string (cP st l kb ks), .string (cB st l kb ks), .slice G gn gc, .string (cQ st l kb ks)] 119)) := ⟨_, rfl⟩
  have N2 := M2.up hb2
  have sz2 : w1.heap.size < w2.heap.size := by rw [hw2]; simp
  have HY2 := Lib.hid (fun (hle : (gF st l kb ks).length ≤ 130) => (show ∃ L, Owned strE 1 9 w2 w0.heap.size G gn gc L ∧ L.Perm (gF st l kb ks) ∧ Srt L by
    obtain ⟨_, L, ho, hp, hs⟩ := HY.out hle
    exact ⟨L, by rw [hw2]; exact ho.alloc _, hp, hs⟩))
  rw [← hw2] at hb2 KX N2 ⊢
  clear hw2
  have hp2 : w.heap.size + 1 + 1 < w1.heap.size := by have := M2.lt; exact this
  have hB2 := below_go hB1 hb2
  have carry : Hid (∀ u : World, Below w2.heap.size w2 u → u.cell? ⟨w1.heap.size, 0, none⟩ = some (.string (cP st l kb ks)) ∧ u.cell? ⟨w1.heap.size, 1, none⟩ = some (.string (cB st l kb ks)) ∧ u.cell? ⟨w1.heap.size, 2, none⟩ = some (.slice G gn gc) ∧ u.cell? ⟨w1.heap.size, 3, none⟩ = some (.string (cQ st l kb ks))) := Lib.hid (fun u hu => by
    have L0 := KX.up hu
    exact ⟨by simpa using L0.cell 0, by simpa using L0.cell 1, by simpa using L0.cell 2, by simpa using L0.cell 3⟩)
  have carryS : Hid (∀ (u : World) (x0 x1 x2 x3 : Value), Below w2.heap.size w2 u → ((((u.setCell ⟨w.heap.size + 1 + 1, 0, none⟩ x0).setCell ⟨w.heap.size + 1 + 1, 1, none⟩ x1).setCell ⟨w.heap.size + 1 + 1, 2, none⟩ x2).setCell ⟨w.heap.size + 1 + 1, 3, none⟩ x3).cell? ⟨w1.heap.size, 0, none⟩ = some (.string (cP st l kb ks)) ∧ ((((u.setCell ⟨w.heap.size + 1 + 1, 0, none⟩ x0).setCell ⟨w.heap.size + 1 + 1, 1, none⟩ x1).setCell ⟨w.heap.size + 1 + 1, 2, none⟩ x2).setCell ⟨w.heap.size + 1 + 1, 3, none⟩ x3).cell? ⟨w1.heap.size, 1, none⟩ = some (.string (cB st l kb ks)) ∧ ((((u.setCell ⟨w.heap.size + 1 + 1, 0, none⟩ x0).setCell ⟨w.heap.size + 1 + 1, 1, none⟩ x1).setCell ⟨w.heap.size + 1 + 1, 2, none⟩ x2).setCell ⟨w.heap.size + 1 + 1, 3, none⟩ x3).cell? ⟨w1.heap.size, 2, none⟩ = some (.slice G gn gc) ∧ ((((u.setCell ⟨w.heap.size + 1 + 1, 0, none⟩ x0).setCell ⟨w.heap.size + 1 + 1, 1, none⟩ x1).setCell ⟨w.heap.size + 1 + 1, 2, none⟩ x2).setCell ⟨w.heap.size + 1 + 1, 3, none⟩ x3).cell? ⟨w1.heap.size, 3, none⟩ = some (.string (cQ st l kb ks))) := Lib.hid (fun u x0 x1 x2 x3 hu => by
    have L0 := carry.out u hu
    have oth : ∀ (v : World) (i j : Nat) (x : Value), (v.setCell ⟨w.heap.size + 1 + 1, i, none⟩ x).cell? ⟨w1.heap.size, j, none⟩ = v.cell? ⟨w1.heap.size, j, none⟩ := fun v i j x => World.cell?_setCell_other _ _ _ _ (by intro e; injection e with e; omega)
    simp only [oth]
    exact L0)
  have HT2 := Lib.hid (hT.up hB2)
  have HN := Lib.hid N2
  have HK := Lib.hid KX
  have fin : Hid (∀ (u : World) (r : Bool), Below w2.heap.size w2 u → r = ok17 st l kb ks T → Blk u (w.heap.size + 1 + 1) 119 noB → ∃ G' gn' gc', Ending.returned (.tuple #[.agg #[.string (cP st l kb ks), .string (cB st l kb ks), .slice G gn gc, .string (cQ st l kb ks)], .bool r]) = Ending.returned (.tuple #[.agg #[.string (cP st l kb ks), .string (cB st l kb ks), .slice G' gn' gc', .string (cQ st l kb ks)], .bool (ok17 st l kb ks T)]) ∧ ((gF st l kb ks).length ≤ 130 → gn' = (gF st l kb ks).length ∧ ∃ L, Owned strE 1 9 ((((u.setCell ⟨w.heap.size + 1 + 1, 0, none⟩ (.string (cP st l kb ks))).setCell ⟨w.heap.size + 1 + 1, 1, none⟩ (.string (cB st l kb ks))).setCell ⟨w.heap.size + 1 + 1, 2, none⟩ (.slice G gn gc)).setCell ⟨w.heap.size + 1 + 1, 3, none⟩ (.string (cQ st l kb ks))) w.heap.size G' gn' gc' L ∧ L.Perm (gF st l kb ks) ∧ Srt L) ∧ Below w.heap.size w ((((u.setCell ⟨w.heap.size + 1 + 1, 0, none⟩ (.string (cP st l kb ks))).setCell ⟨w.heap.size + 1 + 1, 1, none⟩ (.string (cB st l kb ks))).setCell ⟨w.heap.size + 1 + 1, 2, none⟩ (.slice G gn gc)).setCell ⟨w.heap.size + 1 + 1, 3, none⟩ (.string (cQ st l kb ks)))) := Lib.hid (fun u r hu hr hbk => by
    subst hr
    refine ⟨G, gn, gc, rfl, fun hle => ?_, ?_⟩
    · obtain ⟨L, ho, hp, hs⟩ := HY2.out hle
      exact ⟨(HY.out hle).1, L, set4_fin hbk ((ho.up hu).base_le b0.size) (by decide) _ _ _ _, hp, hs⟩
    · have hBu := below_go hB2 hu
      exact (((hBu.setCell (p := ⟨_, 0, none⟩) (by simp; omega) _).setCell (p := ⟨_, 1, none⟩) (by simp; omega) _).setCell (p := ⟨_, 2, none⟩) (by simp; omega) _).setCell (p := ⟨_, 3, none⟩) (by simp; omega) _)
  by_cases hle : (gF st l kb ks).length ≤ 130
  · obtain ⟨L, hoL, hpL, hsL⟩ := HY2.out hle
    have HL := Lib.hid hoL
    have HPL := Lib.hid hpL
    have HSL := Lib.hid hsL
    have hgz : gn ≤ 16777216 := by have := (HY.out hle).1; omega
    have hdec : decide ((gF st l kb ks).length ≤ 130) = true := decide_eq_true hle
    have cI := Lib.hid (fun (u : World) (hb : Below w2.heap.size w2 u) => impl_inGroup (p := cP st l kb ks) (b := cB st l kb ks) (q := cQ st l kb ks) (gc := gc) (c := cT) HL.out.len ((HL.out.up hb).recs) hgz HSL.out hNT (HT2.out.up hb) hzT)
    clear hoL hpL hsL
    have HRP := Lib.hid (rowsIn_perm (B := T) HPL.out)
    rcases hr : rowsInB L T
    · have e0 := Lib.hid (show false = ok17 st l kb ks T by rw [HO17.out, ← HRP.out, hr, Bool.false_and, Bool.and_false])
      have HR := Lib.hid hr
      clear hr
      rw [hdec]
      have CD : Below w2.heap.size w2 w2.drew := (Below.refl _ _).drew
      refine wp_region_held_drew (S := fun u => u.cell? ⟨w1.heap.size, 0, none⟩ = some (.string (cP st l kb ks)) ∧ u.cell? ⟨w1.heap.size, 1, none⟩ = some (.string (cB st l kb ks)) ∧ u.cell? ⟨w1.heap.size, 2, none⟩ = some (.slice G gn gc) ∧ u.cell? ⟨w1.heap.size, 3, none⟩ = some (.string (cQ st l kb ks))) (by kernel_rfl) (carry.out _ (Below.refl _ _).drew) (fun hHeld => ?_)
      refine wpAnyH_take (i := 0) (oi := { dst := some 16, op := _, type := _, pos := _, after := _, guard := _ }) (v := ?_) rfl (by kernel_rfl) (by kernel_rfl) (by kernel_rfl) (fun _ _ _ h => h) (Or.inl ⟨by rfl, ?_⟩) (by assumption) ?_
      rotate_left
      · (intro w hSw; (try dsimp only at hSw); go_simp) <;> with_reducible rfl
      try simp only [Act.put, List.setIfInBounds_toArray, List.set_cons_zero, List.set_cons_succ]
      refine wpAnyH_take (i := 1) (oi := { dst := some 17, op := _, type := _, pos := _, after := _, guard := _ }) (v := ?_) rfl (by kernel_rfl) (by kernel_rfl) (by kernel_rfl) (fun _ _ _ h => h) (Or.inl ⟨by rfl, ?_⟩) (by assumption) ?_
      rotate_left
      · (intro w hSw; (try dsimp only at hSw); go_simp) <;> with_reducible rfl
      try simp only [Act.put, List.setIfInBounds_toArray, List.set_cons_zero, List.set_cons_succ]
      refine wpAnyH_take (i := 2) (oi := { dst := some 18, op := _, type := _, pos := _, after := _, guard := _ }) (v := ?_) rfl (by kernel_rfl) (by kernel_rfl) (by kernel_rfl) (fun _ _ _ h => h) (Or.inl ⟨by rfl, ?_⟩) (by assumption) ?_
      rotate_left
      · (intro w hSw; (try dsimp only at hSw); go_simp) <;> with_reducible rfl
      try simp only [Act.put, List.setIfInBounds_toArray, List.set_cons_zero, List.set_cons_succ]
      refine wpAnyH_take (i := 3) (oi := { dst := some 19, op := _, type := _, pos := _, after := _, guard := _ }) (v := ?_) rfl (by kernel_rfl) (by kernel_rfl) (by kernel_rfl) (fun _ _ _ h => h) (Or.inl ⟨by rfl, ?_⟩) (by assumption) ?_
      rotate_left
      · (intro w hSw; (try dsimp only at hSw); go_simp) <;> with_reducible rfl
      try simp only [Act.put, List.setIfInBounds_toArray, List.set_cons_zero, List.set_cons_succ]
      refine wpAnyH_take (i := 4) (oi := { dst := some 20, op := _, type := _, pos := _, after := _, guard := _ }) (v := ?_) rfl (by kernel_rfl) (by kernel_rfl) (by kernel_rfl) (fun _ _ _ h => h) (Or.inl ⟨by rfl, ?_⟩) (by assumption) ?_
      rotate_left
      · (intro w hSw; (try dsimp only at hSw); go_simp) <;> with_reducible rfl
      try simp only [Act.put, List.setIfInBounds_toArray, List.set_cons_zero, List.set_cons_succ]
      refine wpAnyH_ready (rs := [5]) (by kernel_rfl) (by simp) ?_
      refine AllReadyH.cons (o := _) rfl (fun K hK => ?_) AllReadyH.nil
      go_simp
      refine (cI.out _ CD).mono ?_; rw [HR.out]; rintro e w3 ⟨rfl, hbd3⟩
      have C1 := CD.trans (hbd3.mono CD.size)
      try go_wp2_with fail
      refine hK.out _ _ (carry.out _ C1) (fun hHeld => ?_)
      clear hK K
      try simp only [Act.put, List.setIfInBounds_toArray, List.set_cons_zero, List.set_cons_succ]
      refine wpAnyH_take (i := 6) (oi := { dst := some 22, op := _, type := _, pos := _, after := _, guard := _ }) (v := ?_) rfl (by kernel_rfl) (by kernel_rfl) (by kernel_rfl) (fun _ _ _ h => h) (Or.inl ⟨by rfl, ?_⟩) (by assumption) ?_
      rotate_left
      · (intro w hSw; (try dsimp only at hSw); go_simp) <;> with_reducible rfl
      try simp only [Act.put, List.setIfInBounds_toArray, List.set_cons_zero, List.set_cons_succ]
      refine wpAnyH_take (i := 7) (oi := { dst := some 23, op := _, type := _, pos := _, after := _, guard := _ }) (v := ?_) rfl (by kernel_rfl) (by kernel_rfl) (by kernel_rfl) (fun _ _ _ h => h) (Or.inl ⟨by rfl, ?_⟩) (by assumption) ?_
      rotate_left
      · (intro w hSw; (try dsimp only at hSw); go_simp) <;> with_reducible rfl
      try simp only [Act.put, List.setIfInBounds_toArray, List.set_cons_zero, List.set_cons_succ]
      refine wpAnyH_take (i := 8) (oi := { dst := some 24, op := _, type := _, pos := _, after := _, guard := _ }) (v := undef) rfl (by kernel_rfl) (by kernel_rfl) (by kernel_rfl) (fun _ _ _ h => h) (Or.inr ⟨by rfl, rfl⟩) (by assumption) ?_
      try simp only [Act.put, List.setIfInBounds_toArray, List.set_cons_zero, List.set_cons_succ]
      refine wpAnyH_take (i := 9) (oi := { dst := some 25, op := _, type := _, pos := _, after := _, guard := _ }) (v := undef) rfl (by kernel_rfl) (by kernel_rfl) (by kernel_rfl) (fun _ _ _ h => h) (Or.inr ⟨by rfl, rfl⟩) (by assumption) ?_
      try simp only [Act.put, List.setIfInBounds_toArray, List.set_cons_zero, List.set_cons_succ]
      refine wpAnyH_ready (rs := [10]) (by kernel_rfl) (by simp) ?_
      refine AllReadyH.cons (o := _) rfl (fun K hK => ?_) AllReadyH.nil
      go_simp
      refine hK.out _ _ (carry.out _ C1) (fun hHeld => ?_)
      clear hK K
      try simp only [Act.put, List.setIfInBounds_toArray, List.set_cons_zero, List.set_cons_succ]
      refine wpAnyH_take (i := 11) (oi := { dst := some 27, op := _, type := _, pos := _, after := _, guard := _ }) (v := ?_) rfl (by kernel_rfl) (by kernel_rfl) (by kernel_rfl) (fun _ _ _ h => h) (Or.inl ⟨by rfl, ?_⟩) (by assumption) ?_
      rotate_left
      · (intro w hSw; (try dsimp only at hSw); go_simp) <;> with_reducible rfl
      try simp only [Act.put, List.setIfInBounds_toArray, List.set_cons_zero, List.set_cons_succ]
      have KZ := HN.out.up C1
      have z0 := KZ.cell 0; have z1 := KZ.cell 1; have z2 := KZ.cell 2; have z3 := KZ.cell 3
      simp only [List.getElem?_cons_zero, List.getElem?_cons_succ] at z0 z1 z2 z3
      have f0 := KZ.frozen 0; have f1 := KZ.frozen 1; have f2 := KZ.frozen 2; have f3 := KZ.frozen 3
      refine wpAnyH_ready (rs := [12]) (by kernel_rfl) (by simp) ?_
      refine AllReadyH.cons (o := _) rfl (fun K hK => ?_) AllReadyH.nil
      go_simp
      refine hK.out _ _ (carryS.out _ _ _ _ _ C1) (fun hHeld => ?_)
      clear hK K
      try simp only [Act.put, List.setIfInBounds_toArray, List.set_cons_zero, List.set_cons_succ]
      refine wpAnyH_take (i := 13) (oi := { dst := some 7, op := _, type := _, pos := _, after := _, guard := _ }) (v := ?_) rfl (by kernel_rfl) (by kernel_rfl) (by kernel_rfl) (fun _ _ _ h => h) (Or.inl ⟨by rfl, ?_⟩) (by assumption) ?_
      rotate_left
      · (intro w hSw; (try dsimp only at hSw); go_simp) <;> with_reducible rfl
      try simp only [Act.put, List.setIfInBounds_toArray, List.set_cons_zero, List.set_cons_succ]
      refine wpAnyH_done (by kernel_rfl) ?_ _
      try simp only [Act.put, List.setIfInBounds_toArray, List.set_cons_zero, List.set_cons_succ]
      go_wp2
      have Z := (((KZ.set_ 0 (.string (cP st l kb ks))).set_ 1 (.string (cB st l kb ks))).set_ 2 (.slice G gn gc)).set_ 3 (.string (cQ st l kb ks))
      have y0 := Z.cell 0; have y1 := Z.cell 1; have y2 := Z.cell 2; have y3 := Z.cell 3
      simp only [List.set_cons_zero, List.set_cons_succ, List.getElem?_cons_zero, List.getElem?_cons_succ] at y0 y1 y2 y3
      refine bodyPost_ret (v := .tuple #[.agg #[.string (cP st l kb ks), .string (cB st l kb ks), .slice G gn gc, .string (cQ st l kb ks)], .bool (false)]) (by simp [results, Try.results103, go_sem, y0, y1, y2, y3]) rfl ?_
      exact fin.out _ _ C1 e0.out KZ
    · have HIT := Lib.hid (rowsIn_t hr)
      have HTR := Lib.hid (fun s hs => HGR.out s (HPL.out.mem_iff.1 (HIT.out.1 s hs)))
      have cA := Lib.hid (fun (u : World) (hb : Below w2.heap.size w2 u) => impl_areBobs (p := cP st l kb ks) (b := cB st l kb ks) (G := G) (gn := gn) (gc := gc) (c := cT) HQ.out hNT (HT2.out.up hb) hzT HTR.out HIT.out.2)
      have e0 := Lib.hid (show closedB (cQ st l kb ks) T = ok17 st l kb ks T by rw [HO17.out, ← HRP.out, hr, hdec, Bool.true_and, Bool.true_and])
      have HR := Lib.hid hr
      clear hr
      rw [hdec]
      have CD : Below w2.heap.size w2 w2.drew := (Below.refl _ _).drew
      refine wp_region_held_drew (S := fun u => u.cell? ⟨w1.heap.size, 0, none⟩ = some (.string (cP st l kb ks)) ∧ u.cell? ⟨w1.heap.size, 1, none⟩ = some (.string (cB st l kb ks)) ∧ u.cell? ⟨w1.heap.size, 2, none⟩ = some (.slice G gn gc) ∧ u.cell? ⟨w1.heap.size, 3, none⟩ = some (.string (cQ st l kb ks))) (by kernel_rfl) (carry.out _ (Below.refl _ _).drew) (fun hHeld => ?_)
      refine wpAnyH_take (i := 0) (oi := { dst := some 16, op := _, type := _, pos := _, after := _, guard := _ }) (v := ?_) rfl (by kernel_rfl) (by kernel_rfl) (by kernel_rfl) (fun _ _ _ h => h) (Or.inl ⟨by rfl, ?_⟩) (by assumption) ?_
      rotate_left
      · (intro w hSw; (try dsimp only at hSw); go_simp) <;> with_reducible rfl
      try simp only [Act.put, List.setIfInBounds_toArray, List.set_cons_zero, List.set_cons_succ]
      refine wpAnyH_take (i := 1) (oi := { dst := some 17, op := _, type := _, pos := _, after := _, guard := _ }) (v := ?_) rfl (by kernel_rfl) (by kernel_rfl) (by kernel_rfl) (fun _ _ _ h => h) (Or.inl ⟨by rfl, ?_⟩) (by assumption) ?_
      rotate_left
      · (intro w hSw; (try dsimp only at hSw); go_simp) <;> with_reducible rfl
      try simp only [Act.put, List.setIfInBounds_toArray, List.set_cons_zero, List.set_cons_succ]
      refine wpAnyH_take (i := 2) (oi := { dst := some 18, op := _, type := _, pos := _, after := _, guard := _ }) (v := ?_) rfl (by kernel_rfl) (by kernel_rfl) (by kernel_rfl) (fun _ _ _ h => h) (Or.inl ⟨by rfl, ?_⟩) (by assumption) ?_
      rotate_left
      · (intro w hSw; (try dsimp only at hSw); go_simp) <;> with_reducible rfl
      try simp only [Act.put, List.setIfInBounds_toArray, List.set_cons_zero, List.set_cons_succ]
      refine wpAnyH_take (i := 3) (oi := { dst := some 19, op := _, type := _, pos := _, after := _, guard := _ }) (v := ?_) rfl (by kernel_rfl) (by kernel_rfl) (by kernel_rfl) (fun _ _ _ h => h) (Or.inl ⟨by rfl, ?_⟩) (by assumption) ?_
      rotate_left
      · (intro w hSw; (try dsimp only at hSw); go_simp) <;> with_reducible rfl
      try simp only [Act.put, List.setIfInBounds_toArray, List.set_cons_zero, List.set_cons_succ]
      refine wpAnyH_take (i := 4) (oi := { dst := some 20, op := _, type := _, pos := _, after := _, guard := _ }) (v := ?_) rfl (by kernel_rfl) (by kernel_rfl) (by kernel_rfl) (fun _ _ _ h => h) (Or.inl ⟨by rfl, ?_⟩) (by assumption) ?_
      rotate_left
      · (intro w hSw; (try dsimp only at hSw); go_simp) <;> with_reducible rfl
      try simp only [Act.put, List.setIfInBounds_toArray, List.set_cons_zero, List.set_cons_succ]
      refine wpAnyH_ready (rs := [5]) (by kernel_rfl) (by simp) ?_
      refine AllReadyH.cons (o := _) rfl (fun K hK => ?_) AllReadyH.nil
      go_simp
      refine (cI.out _ CD).mono ?_; rw [HR.out]; rintro e w3 ⟨rfl, hbd3⟩
      have C1 := CD.trans (hbd3.mono CD.size)
      try go_wp2_with fail
      refine hK.out _ _ (carry.out _ C1) (fun hHeld => ?_)
      clear hK K
      try simp only [Act.put, List.setIfInBounds_toArray, List.set_cons_zero, List.set_cons_succ]
      refine wpAnyH_take (i := 6) (oi := { dst := some 22, op := _, type := _, pos := _, after := _, guard := _ }) (v := ?_) rfl (by kernel_rfl) (by kernel_rfl) (by kernel_rfl) (fun _ _ _ h => h) (Or.inl ⟨by rfl, ?_⟩) (by assumption) ?_
      rotate_left
      · (intro w hSw; (try dsimp only at hSw); go_simp) <;> with_reducible rfl
      try simp only [Act.put, List.setIfInBounds_toArray, List.set_cons_zero, List.set_cons_succ]
      refine wpAnyH_take (i := 7) (oi := { dst := some 23, op := _, type := _, pos := _, after := _, guard := _ }) (v := ?_) rfl (by kernel_rfl) (by kernel_rfl) (by kernel_rfl) (fun _ _ _ h => h) (Or.inl ⟨by rfl, ?_⟩) (by assumption) ?_
      rotate_left
      · (intro w hSw; (try dsimp only at hSw); go_simp) <;> with_reducible rfl
      try simp only [Act.put, List.setIfInBounds_toArray, List.set_cons_zero, List.set_cons_succ]
      refine wpAnyH_take (i := 8) (oi := { dst := some 24, op := _, type := _, pos := _, after := _, guard := _ }) (v := ?_) rfl (by kernel_rfl) (by kernel_rfl) (by kernel_rfl) (fun _ _ _ h => h) (Or.inl ⟨by rfl, ?_⟩) (by assumption) ?_
      rotate_left
      · (intro w hSw; (try dsimp only at hSw); go_simp) <;> with_reducible rfl
      try simp only [Act.put, List.setIfInBounds_toArray, List.set_cons_zero, List.set_cons_succ]
      refine wpAnyH_take (i := 9) (oi := { dst := some 25, op := _, type := _, pos := _, after := _, guard := _ }) (v := ?_) rfl (by kernel_rfl) (by kernel_rfl) (by kernel_rfl) (fun _ _ _ h => h) (Or.inl ⟨by rfl, ?_⟩) (by assumption) ?_
      rotate_left
      · (intro w hSw; (try dsimp only at hSw); go_simp) <;> with_reducible rfl
      try simp only [Act.put, List.setIfInBounds_toArray, List.set_cons_zero, List.set_cons_succ]
      refine wpAnyH_ready (rs := [10]) (by kernel_rfl) (by simp) ?_
      refine AllReadyH.cons (o := _) rfl (fun K hK => ?_) AllReadyH.nil
      go_simp
      refine (cA.out _ C1).mono ?_; rintro e w4 ⟨rfl, hb4⟩
      have C2 := C1.trans (hb4.mono C1.size)
      try go_wp2_with fail
      refine hK.out _ _ (carry.out _ C2) (fun hHeld => ?_)
      clear hK K
      try simp only [Act.put, List.setIfInBounds_toArray, List.set_cons_zero, List.set_cons_succ]
      refine wpAnyH_take (i := 11) (oi := { dst := some 27, op := _, type := _, pos := _, after := _, guard := _ }) (v := ?_) rfl (by kernel_rfl) (by kernel_rfl) (by kernel_rfl) (fun _ _ _ h => h) (Or.inl ⟨by rfl, ?_⟩) (by assumption) ?_
      rotate_left
      · (intro w hSw; (try dsimp only at hSw); go_simp) <;> with_reducible rfl
      try simp only [Act.put, List.setIfInBounds_toArray, List.set_cons_zero, List.set_cons_succ]
      have KZ := HN.out.up C2
      have z0 := KZ.cell 0; have z1 := KZ.cell 1; have z2 := KZ.cell 2; have z3 := KZ.cell 3
      simp only [List.getElem?_cons_zero, List.getElem?_cons_succ] at z0 z1 z2 z3
      have f0 := KZ.frozen 0; have f1 := KZ.frozen 1; have f2 := KZ.frozen 2; have f3 := KZ.frozen 3
      refine wpAnyH_ready (rs := [12]) (by kernel_rfl) (by simp) ?_
      refine AllReadyH.cons (o := _) rfl (fun K hK => ?_) AllReadyH.nil
      go_simp
      refine hK.out _ _ (carryS.out _ _ _ _ _ C2) (fun hHeld => ?_)
      clear hK K
      try simp only [Act.put, List.setIfInBounds_toArray, List.set_cons_zero, List.set_cons_succ]
      refine wpAnyH_take (i := 13) (oi := { dst := some 7, op := _, type := _, pos := _, after := _, guard := _ }) (v := ?_) rfl (by kernel_rfl) (by kernel_rfl) (by kernel_rfl) (fun _ _ _ h => h) (Or.inl ⟨by rfl, ?_⟩) (by assumption) ?_
      rotate_left
      · (intro w hSw; (try dsimp only at hSw); go_simp) <;> with_reducible rfl
      try simp only [Act.put, List.setIfInBounds_toArray, List.set_cons_zero, List.set_cons_succ]
      refine wpAnyH_done (by kernel_rfl) ?_ _
      try simp only [Act.put, List.setIfInBounds_toArray, List.set_cons_zero, List.set_cons_succ]
      go_wp2
      have Z := (((KZ.set_ 0 (.string (cP st l kb ks))).set_ 1 (.string (cB st l kb ks))).set_ 2 (.slice G gn gc)).set_ 3 (.string (cQ st l kb ks))
      have y0 := Z.cell 0; have y1 := Z.cell 1; have y2 := Z.cell 2; have y3 := Z.cell 3
      simp only [List.set_cons_zero, List.set_cons_succ, List.getElem?_cons_zero, List.getElem?_cons_succ] at y0 y1 y2 y3
      refine bodyPost_ret (v := .tuple #[.agg #[.string (cP st l kb ks), .string (cB st l kb ks), .slice G gn gc, .string (cQ st l kb ks)], .bool (closedB (cQ st l kb ks) T)]) (by simp [results, Try.results103, go_sem, y0, y1, y2, y3]) rfl ?_
      exact fin.out _ _ C2 e0.out KZ
  · have hdec : decide ((gF st l kb ks).length ≤ 130) = false := decide_eq_false hle
    have e0 := Lib.hid (show false = ok17 st l kb ks T by rw [HO17.out, hdec, Bool.false_and])
    rw [hdec]
    have CD : Below w2.heap.size w2 w2.drew := (Below.refl _ _).drew
    refine wp_region_held_drew (S := fun u => u.cell? ⟨w1.heap.size, 0, none⟩ = some (.string (cP st l kb ks)) ∧ u.cell? ⟨w1.heap.size, 1, none⟩ = some (.string (cB st l kb ks)) ∧ u.cell? ⟨w1.heap.size, 2, none⟩ = some (.slice G gn gc) ∧ u.cell? ⟨w1.heap.size, 3, none⟩ = some (.string (cQ st l kb ks))) (by kernel_rfl) (carry.out _ (Below.refl _ _).drew) (fun hHeld => ?_)
    refine wpAnyH_take (i := 0) (oi := { dst := some 16, op := _, type := _, pos := _, after := _, guard := _ }) (v := ?_) rfl (by kernel_rfl) (by kernel_rfl) (by kernel_rfl) (fun _ _ _ h => h) (Or.inl ⟨by rfl, ?_⟩) (by assumption) ?_
    rotate_left
    · (intro w hSw; (try dsimp only at hSw); go_simp) <;> with_reducible rfl
    try simp only [Act.put, List.setIfInBounds_toArray, List.set_cons_zero, List.set_cons_succ]
    refine wpAnyH_take (i := 1) (oi := { dst := some 17, op := _, type := _, pos := _, after := _, guard := _ }) (v := ?_) rfl (by kernel_rfl) (by kernel_rfl) (by kernel_rfl) (fun _ _ _ h => h) (Or.inl ⟨by rfl, ?_⟩) (by assumption) ?_
    rotate_left
    · (intro w hSw; (try dsimp only at hSw); go_simp) <;> with_reducible rfl
    try simp only [Act.put, List.setIfInBounds_toArray, List.set_cons_zero, List.set_cons_succ]
    refine wpAnyH_take (i := 2) (oi := { dst := some 18, op := _, type := _, pos := _, after := _, guard := _ }) (v := ?_) rfl (by kernel_rfl) (by kernel_rfl) (by kernel_rfl) (fun _ _ _ h => h) (Or.inl ⟨by rfl, ?_⟩) (by assumption) ?_
    rotate_left
    · (intro w hSw; (try dsimp only at hSw); go_simp) <;> with_reducible rfl
    try simp only [Act.put, List.setIfInBounds_toArray, List.set_cons_zero, List.set_cons_succ]
    generalize w2.drew = wd at CD hHeld ⊢
    refine wpAnyH_take (i := 3) (oi := { dst := some 19, op := _, type := _, pos := _, after := _, guard := _ }) (v := undef) rfl (by kernel_rfl) (by kernel_rfl) (by kernel_rfl) (fun _ _ _ h => h) (Or.inr ⟨by rfl, rfl⟩) (by assumption) ?_
    try simp only [Act.put, List.setIfInBounds_toArray, List.set_cons_zero, List.set_cons_succ]
    refine wpAnyH_take (i := 4) (oi := { dst := some 20, op := _, type := _, pos := _, after := _, guard := _ }) (v := undef) rfl (by kernel_rfl) (by kernel_rfl) (by kernel_rfl) (fun _ _ _ h => h) (Or.inr ⟨by rfl, rfl⟩) (by assumption) ?_
    try simp only [Act.put, List.setIfInBounds_toArray, List.set_cons_zero, List.set_cons_succ]
    refine wpAnyH_ready (rs := [5]) (by kernel_rfl) (by simp) ?_
    refine AllReadyH.cons (o := _) rfl (fun K hK => ?_) AllReadyH.nil
    go_simp
    refine hK.out _ _ (carry.out _ CD) (fun hHeld => ?_)
    clear hK K
    try simp only [Act.put, List.setIfInBounds_toArray, List.set_cons_zero, List.set_cons_succ]
    refine wpAnyH_take (i := 6) (oi := { dst := some 22, op := _, type := _, pos := _, after := _, guard := _ }) (v := ?_) rfl (by kernel_rfl) (by kernel_rfl) (by kernel_rfl) (fun _ _ _ h => h) (Or.inl ⟨by rfl, ?_⟩) (by assumption) ?_
    rotate_left
    · (intro w hSw; (try dsimp only at hSw); go_simp) <;> with_reducible rfl
    try simp only [Act.put, List.setIfInBounds_toArray, List.set_cons_zero, List.set_cons_succ]
    refine wpAnyH_take (i := 7) (oi := { dst := some 23, op := _, type := _, pos := _, after := _, guard := _ }) (v := ?_) rfl (by kernel_rfl) (by kernel_rfl) (by kernel_rfl) (fun _ _ _ h => h) (Or.inl ⟨by rfl, ?_⟩) (by assumption) ?_
    rotate_left
    · (intro w hSw; (try dsimp only at hSw); go_simp) <;> with_reducible rfl
    try simp only [Act.put, List.setIfInBounds_toArray, List.set_cons_zero, List.set_cons_succ]
    refine wpAnyH_take (i := 8) (oi := { dst := some 24, op := _, type := _, pos := _, after := _, guard := _ }) (v := undef) rfl (by kernel_rfl) (by kernel_rfl) (by kernel_rfl) (fun _ _ _ h => h) (Or.inr ⟨by rfl, rfl⟩) (by assumption) ?_
    try simp only [Act.put, List.setIfInBounds_toArray, List.set_cons_zero, List.set_cons_succ]
    refine wpAnyH_take (i := 9) (oi := { dst := some 25, op := _, type := _, pos := _, after := _, guard := _ }) (v := undef) rfl (by kernel_rfl) (by kernel_rfl) (by kernel_rfl) (fun _ _ _ h => h) (Or.inr ⟨by rfl, rfl⟩) (by assumption) ?_
    try simp only [Act.put, List.setIfInBounds_toArray, List.set_cons_zero, List.set_cons_succ]
    refine wpAnyH_ready (rs := [10]) (by kernel_rfl) (by simp) ?_
    refine AllReadyH.cons (o := _) rfl (fun K hK => ?_) AllReadyH.nil
    go_simp
    refine hK.out _ _ (carry.out _ CD) (fun hHeld => ?_)
    clear hK K
    try simp only [Act.put, List.setIfInBounds_toArray, List.set_cons_zero, List.set_cons_succ]
    refine wpAnyH_take (i := 11) (oi := { dst := some 27, op := _, type := _, pos := _, after := _, guard := _ }) (v := ?_) rfl (by kernel_rfl) (by kernel_rfl) (by kernel_rfl) (fun _ _ _ h => h) (Or.inl ⟨by rfl, ?_⟩) (by assumption) ?_
    rotate_left
    · (intro w hSw; (try dsimp only at hSw); go_simp) <;> with_reducible rfl
    try simp only [Act.put, List.setIfInBounds_toArray, List.set_cons_zero, List.set_cons_succ]
    have KZ := HN.out.up CD
    have z0 := KZ.cell 0; have z1 := KZ.cell 1; have z2 := KZ.cell 2; have z3 := KZ.cell 3
    simp only [List.getElem?_cons_zero, List.getElem?_cons_succ] at z0 z1 z2 z3
    have f0 := KZ.frozen 0; have f1 := KZ.frozen 1; have f2 := KZ.frozen 2; have f3 := KZ.frozen 3
    refine wpAnyH_ready (rs := [12]) (by kernel_rfl) (by simp) ?_
    refine AllReadyH.cons (o := _) rfl (fun K hK => ?_) AllReadyH.nil
    go_simp
    refine hK.out _ _ (carryS.out _ _ _ _ _ CD) (fun hHeld => ?_)
    clear hK K
    try simp only [Act.put, List.setIfInBounds_toArray, List.set_cons_zero, List.set_cons_succ]
    refine wpAnyH_take (i := 13) (oi := { dst := some 7, op := _, type := _, pos := _, after := _, guard := _ }) (v := ?_) rfl (by kernel_rfl) (by kernel_rfl) (by kernel_rfl) (fun _ _ _ h => h) (Or.inl ⟨by rfl, ?_⟩) (by assumption) ?_
    rotate_left
    · (intro w hSw; (try dsimp only at hSw); go_simp) <;> with_reducible rfl
    try simp only [Act.put, List.setIfInBounds_toArray, List.set_cons_zero, List.set_cons_succ]
    refine wpAnyH_done (by kernel_rfl) ?_ _
    try simp only [Act.put, List.setIfInBounds_toArray, List.set_cons_zero, List.set_cons_succ]
    go_wp2
    have Z := (((KZ.set_ 0 (.string (cP st l kb ks))).set_ 1 (.string (cB st l kb ks))).set_ 2 (.slice G gn gc)).set_ 3 (.string (cQ st l kb ks))
    have y0 := Z.cell 0; have y1 := Z.cell 1; have y2 := Z.cell 2; have y3 := Z.cell 3
    simp only [List.set_cons_zero, List.set_cons_succ, List.getElem?_cons_zero, List.getElem?_cons_succ] at y0 y1 y2 y3
    refine bodyPost_ret (v := .tuple #[.agg #[.string (cP st l kb ks), .string (cB st l kb ks), .slice G gn gc, .string (cQ st l kb ks)], .bool (false)]) (by simp [results, Try.results103, go_sem, y0, y1, y2, y3]) rfl ?_
    exact fin.out _ _ CD e0.out KZ
end Go.Proofs.Ytmdmnjjlpefigaa
/- The walks of chapter 17: the next head of a row (the program), at its top. -/
namespace Go.Proofs.Ytmdmnjjlpefigaa
set_option linter.unusedVariables false
set_option linter.unusedSimpArgs false
open Go.ChangeShapes Go.WideShapes Go.ChangeAt Go.RowKit Go.Deep
noncomputable def okNH (nm : ByteArray) (st : Int) (l : List ByteArray) (kb ks : ByteArray) (T : List ByteArray) (x : ByteArray) : Bool := goodK nm st l kb ks && (ok17 st.toNat l kb ks T && inL (gF st.toNat l kb ks) x)
noncomputable def nhR (nm : ByteArray) (st : Int) (l : List ByteArray) (kb ks : ByteArray) (T : List ByteArray) (x : ByteArray) : ByteArray := if okNH nm st l kb ks T x = true then nextS (cP st.toNat l kb ks) (cB st.toNat l kb ks) T x else { data := #[] }
theorem nhR_f {nm : ByteArray} {st : Int} {l : List ByteArray} {kb ks : ByteArray} {T : List ByteArray} {x : ByteArray} (h : okNH nm st l kb ks T x = false) : nhR nm st l kb ks T x = { data := #[] } := if_neg (by rw [h]; simp)
theorem nhR_t {nm : ByteArray} {st : Nat} {l : List ByteArray} {kb ks : ByteArray} {T : List ByteArray} {x : ByteArray} (h : okNH nm (st : Int) l kb ks T x = true) : nhR nm (st : Int) l kb ks T x = nextS (cP st l kb ks) (cB st l kb ks) T x := if_pos h
theorem ok17_t {st : Nat} {l : List ByteArray} {kb ks : ByteArray} {T : List ByteArray} (h : ok17 st l kb ks T = true) : (gF st l kb ks).length ≤ 130 ∧ rowsInB (gF st l kb ks) T = true ∧ closedB (cQ st l kb ks) T = true := by
  rw [ok17, Bool.and_eq_true, Bool.and_eq_true] at h
  exact ⟨of_decide_eq_true h.1, h.2.1, h.2.2⟩
set_option maxHeartbeats 2000000 in
set_option maxRecDepth 100000 in
theorem impl_goodBlocks_no {A : Option Addr} {n c : Nat} {nm : ByteArray} {st : Int} {l : List ByteArray} {kb ks : ByteArray} {T : List ByteArray} {AT : Option Addr} {NT cT : Nat} {w : World} (hn : l.length = n) (h : Strs w A l) (hz : n ≤ 1048576) (hs : ∀ s ∈ l, s.size ≤ 16777216) (hnm : nm.size ≤ 16777216) (hst : I64 st) (hkb : kb.size ≤ 16777216) (hks : ks.size ≤ 16777216) (hk : goodK nm st l kb ks = false) :
    Calls Try.prog 103 #[.agg #[.string nm, .int .i64 st, .slice A n c], .agg #[.string kb, .string ks], .slice AT NT cT] w fun e w' => e = .returned (.tuple #[.agg #[.string { data := #[] }, .string { data := #[] }, .slice none 0 0, .string { data := #[] }], .bool false]) ∧ Below w.heap.size w w' := by
  have b0 : Below w.heap.size w (((w.alloc (.cells ⟨[.string nm, .int .i64 st, .slice A n c]⟩ 42)).alloc (.cells ⟨[.string kb, .string ks]⟩ 44)).alloc (.cells ⟨noB⟩ 119)) := by (repeat' (first | (with_reducible exact Below.refl _ _) | (with_reducible assumption) | (with_reducible refine below_drewN ?_ _) | (with_reducible refine Below.drew ?_) | (with_reducible refine below_alloc ?_ _) | (with_reducible refine Below.alloc ?_ ?_ _) | (with_reducible refine Below.setCell ?_ ?_ _) | (with_reducible refine below_go ?_ (by with_reducible assumption)) | (with_reducible refine below_then (by with_reducible assumption) ?_ ?_) | go_size))
  have K2 := Blk.at_ ((w.alloc (.cells ⟨[.string nm, .int .i64 st, .slice A n c]⟩ 42)).alloc (.cells ⟨[.string kb, .string ks]⟩ 44)) 119 noB (b := w.heap.size + 1 + 1) (by simp)
  go_in
  go_wp2_with fail
  obtain ⟨w0, hw0⟩ : ∃ u, u = (((w.alloc (.cells #[.string nm, .int .i64 st, .slice A n c] 42)).alloc (.cells #[.string kb, .string ks] 44)).alloc (.cells #[.string { data := #[] }, .string { data := #[] }, .slice none 0 0, .string { data := #[] }] 119)) := ⟨_, rfl⟩
  rw [← hw0] at b0 K2 ⊢
  clear hw0
  refine (impl_newBlocks_no hn (h.up b0) hz hs hnm hst hkb hks hk).mono ?_; rintro e w1 ⟨rfl, hb1⟩
  have hB1 := below_go b0 hb1
  have hb2 : Below w1.heap.size w1 (w1.alloc (.cells ⟨noB⟩ 119)) := by (repeat' (first | (with_reducible exact Below.refl _ _) | (with_reducible assumption) | (with_reducible refine below_drewN ?_ _) | (with_reducible refine Below.drew ?_) | (with_reducible refine below_alloc ?_ _) | (with_reducible refine Below.alloc ?_ ?_ _) | (with_reducible refine Below.setCell ?_ ?_ _) | (with_reducible refine below_go ?_ (by with_reducible assumption)) | (with_reducible refine below_then (by with_reducible assumption) ?_ ?_) | go_size))
  have KX := Blk.at_ w1 119 noB (b := w1.heap.size) rfl
  have M2 := K2.up hb1
  clear K2
  go_wp2_with fail
  obtain ⟨w2, hw2⟩ : ∃ u, u = (w1.alloc (.cells #[.string { data := #[] }, .string { data := #[] }, .slice none 0 0, .string { data := #[] }] 119)) := ⟨_, rfl⟩
  have N2 := M2.up hb2
  have sz2 : w1.heap.size < w2.heap.size := by rw [hw2]; simp
  rw [← hw2] at hb2 KX N2 ⊢
  clear hw2
  have hp2 : w.heap.size + 1 + 1 < w1.heap.size := by have := M2.lt; exact this
  have hB2 := below_go hB1 hb2
  have carry : Hid (∀ u : World, Below w2.heap.size w2 u → u.cell? ⟨w1.heap.size, 0, none⟩ = some (.string { data := #[] }) ∧ u.cell? ⟨w1.heap.size, 1, none⟩ = some (.string { data := #[] }) ∧ u.cell? ⟨w1.heap.size, 2, none⟩ = some (.slice none 0 0) ∧ u.cell? ⟨w1.heap.size, 3, none⟩ = some (.string { data := #[] })) := Lib.hid (fun u hu => by
    have L0 := KX.up hu
    exact ⟨by simpa using L0.cell 0, by simpa using L0.cell 1, by simpa using L0.cell 2, by simpa using L0.cell 3⟩)
  have oth : Hid (∀ (v : World) (i j : Nat) (x : Value), (v.setCell ⟨w.heap.size + 1 + 1, i, none⟩ x).cell? ⟨w1.heap.size, j, none⟩ = v.cell? ⟨w1.heap.size, j, none⟩) := Lib.hid (fun v i j x => World.cell?_setCell_other _ _ _ _ (by intro e; injection e with e; omega))
  have HN := Lib.hid N2
  have CD : Below w2.heap.size w2 w2.drew := (Below.refl _ _).drew
  refine wp_region_held_drew (S := fun u => u.cell? ⟨w1.heap.size, 0, none⟩ = some (.string { data := #[] }) ∧ u.cell? ⟨w1.heap.size, 1, none⟩ = some (.string { data := #[] }) ∧ u.cell? ⟨w1.heap.size, 2, none⟩ = some (.slice none 0 0) ∧ u.cell? ⟨w1.heap.size, 3, none⟩ = some (.string { data := #[] })) (by kernel_rfl) (carry.out _ (Below.refl _ _).drew) (fun hHeld => ?_)
  refine wpAnyH_take (i := 0) (oi := { dst := some 16, op := _, type := _, pos := _, after := _, guard := _ }) (v := ?_) rfl (by kernel_rfl) (by kernel_rfl) (by kernel_rfl) (fun _ _ _ h => h) (Or.inl ⟨by rfl, ?_⟩) (by assumption) ?_
  rotate_left
  · (intro w hSw; (try dsimp only at hSw); go_simp) <;> with_reducible rfl
  try simp only [Act.put, List.setIfInBounds_toArray, List.set_cons_zero, List.set_cons_succ]
  refine wpAnyH_take (i := 1) (oi := { dst := some 17, op := _, type := _, pos := _, after := _, guard := _ }) (v := ?_) rfl (by kernel_rfl) (by kernel_rfl) (by kernel_rfl) (fun _ _ _ h => h) (Or.inl ⟨by rfl, ?_⟩) (by assumption) ?_
  rotate_left
  · (intro w hSw; (try dsimp only at hSw); go_simp) <;> with_reducible rfl
  try simp only [Act.put, List.setIfInBounds_toArray, List.set_cons_zero, List.set_cons_succ]
  refine wpAnyH_take (i := 2) (oi := { dst := some 18, op := _, type := _, pos := _, after := _, guard := _ }) (v := ?_) rfl (by kernel_rfl) (by kernel_rfl) (by kernel_rfl) (fun _ _ _ h => h) (Or.inl ⟨by rfl, ?_⟩) (by assumption) ?_
  rotate_left
  · (intro w hSw; (try dsimp only at hSw); go_simp) <;> with_reducible rfl
  try simp only [Act.put, List.setIfInBounds_toArray, List.set_cons_zero, List.set_cons_succ]
  generalize w2.drew = wd at CD hHeld ⊢
  refine wpAnyH_take (i := 3) (oi := { dst := some 19, op := _, type := _, pos := _, after := _, guard := _ }) (v := undef) rfl (by kernel_rfl) (by kernel_rfl) (by kernel_rfl) (fun _ _ _ h => h) (Or.inr ⟨by rfl, rfl⟩) (by assumption) ?_
  try simp only [Act.put, List.setIfInBounds_toArray, List.set_cons_zero, List.set_cons_succ]
  refine wpAnyH_take (i := 4) (oi := { dst := some 20, op := _, type := _, pos := _, after := _, guard := _ }) (v := undef) rfl (by kernel_rfl) (by kernel_rfl) (by kernel_rfl) (fun _ _ _ h => h) (Or.inr ⟨by rfl, rfl⟩) (by assumption) ?_
  try simp only [Act.put, List.setIfInBounds_toArray, List.set_cons_zero, List.set_cons_succ]
  refine wpAnyH_ready (rs := [5]) (by kernel_rfl) (by simp) ?_
  refine AllReadyH.cons (o := _) rfl (fun K hK => ?_) AllReadyH.nil
  go_simp
  refine hK.out _ _ (carry.out _ CD) (fun hHeld => ?_)
  clear hK K
  try simp only [Act.put, List.setIfInBounds_toArray, List.set_cons_zero, List.set_cons_succ]
  refine wpAnyH_take (i := 6) (oi := { dst := some 22, op := _, type := _, pos := _, after := _, guard := _ }) (v := ?_) rfl (by kernel_rfl) (by kernel_rfl) (by kernel_rfl) (fun _ _ _ h => h) (Or.inl ⟨by rfl, ?_⟩) (by assumption) ?_
  rotate_left
  · (intro w hSw; (try dsimp only at hSw); go_simp) <;> with_reducible rfl
  try simp only [Act.put, List.setIfInBounds_toArray, List.set_cons_zero, List.set_cons_succ]
  refine wpAnyH_take (i := 7) (oi := { dst := some 23, op := _, type := _, pos := _, after := _, guard := _ }) (v := ?_) rfl (by kernel_rfl) (by kernel_rfl) (by kernel_rfl) (fun _ _ _ h => h) (Or.inl ⟨by rfl, ?_⟩) (by assumption) ?_
  rotate_left
  · (intro w hSw; (try dsimp only at hSw); go_simp) <;> with_reducible rfl
  try simp only [Act.put, List.setIfInBounds_toArray, List.set_cons_zero, List.set_cons_succ]
  refine wpAnyH_take (i := 8) (oi := { dst := some 24, op := _, type := _, pos := _, after := _, guard := _ }) (v := undef) rfl (by kernel_rfl) (by kernel_rfl) (by kernel_rfl) (fun _ _ _ h => h) (Or.inr ⟨by rfl, rfl⟩) (by assumption) ?_
  try simp only [Act.put, List.setIfInBounds_toArray, List.set_cons_zero, List.set_cons_succ]
  refine wpAnyH_take (i := 9) (oi := { dst := some 25, op := _, type := _, pos := _, after := _, guard := _ }) (v := undef) rfl (by kernel_rfl) (by kernel_rfl) (by kernel_rfl) (fun _ _ _ h => h) (Or.inr ⟨by rfl, rfl⟩) (by assumption) ?_
  try simp only [Act.put, List.setIfInBounds_toArray, List.set_cons_zero, List.set_cons_succ]
  refine wpAnyH_ready (rs := [10]) (by kernel_rfl) (by simp) ?_
  refine AllReadyH.cons (o := _) rfl (fun K hK => ?_) AllReadyH.nil
  go_simp
  refine hK.out _ _ (carry.out _ CD) (fun hHeld => ?_)
  clear hK K
  try simp only [Act.put, List.setIfInBounds_toArray, List.set_cons_zero, List.set_cons_succ]
  refine wpAnyH_take (i := 11) (oi := { dst := some 27, op := _, type := _, pos := _, after := _, guard := _ }) (v := ?_) rfl (by kernel_rfl) (by kernel_rfl) (by kernel_rfl) (fun _ _ _ h => h) (Or.inl ⟨by rfl, ?_⟩) (by assumption) ?_
  rotate_left
  · (intro w hSw; (try dsimp only at hSw); go_simp) <;> with_reducible rfl
  try simp only [Act.put, List.setIfInBounds_toArray, List.set_cons_zero, List.set_cons_succ]
  have KZ := HN.out.up CD
  have z0 := KZ.cell 0; have z1 := KZ.cell 1; have z2 := KZ.cell 2; have z3 := KZ.cell 3
  simp only [List.getElem?_cons_zero, List.getElem?_cons_succ] at z0 z1 z2 z3
  have f0 := KZ.frozen 0; have f1 := KZ.frozen 1; have f2 := KZ.frozen 2; have f3 := KZ.frozen 3
  refine wpAnyH_ready (rs := [12]) (by kernel_rfl) (by simp) ?_
  refine AllReadyH.cons (o := _) rfl (fun K hK => ?_) AllReadyH.nil
  go_simp
  refine hK.out _ _ (by simp only [oth.out]; exact carry.out _ CD) (fun hHeld => ?_)
  clear hK K
  try simp only [Act.put, List.setIfInBounds_toArray, List.set_cons_zero, List.set_cons_succ]
  refine wpAnyH_take (i := 13) (oi := { dst := some 7, op := _, type := _, pos := _, after := _, guard := _ }) (v := ?_) rfl (by kernel_rfl) (by kernel_rfl) (by kernel_rfl) (fun _ _ _ h => h) (Or.inl ⟨by rfl, ?_⟩) (by assumption) ?_
  rotate_left
  · (intro w hSw; (try dsimp only at hSw); go_simp) <;> with_reducible rfl
  try simp only [Act.put, List.setIfInBounds_toArray, List.set_cons_zero, List.set_cons_succ]
  refine wpAnyH_done (by kernel_rfl) ?_ _
  try simp only [Act.put, List.setIfInBounds_toArray, List.set_cons_zero, List.set_cons_succ]
  go_wp2
  have Z := (((KZ.set_ 0 (.string { data := #[] })).set_ 1 (.string { data := #[] })).set_ 2 (.slice none 0 0)).set_ 3 (.string { data := #[] })
  have y0 := Z.cell 0; have y1 := Z.cell 1; have y2 := Z.cell 2; have y3 := Z.cell 3
  simp only [List.set_cons_zero, List.set_cons_succ, List.getElem?_cons_zero, List.getElem?_cons_succ] at y0 y1 y2 y3
  refine bodyPost_ret (v := .tuple #[.agg #[.string { data := #[] }, .string { data := #[] }, .slice none 0 0, .string { data := #[] }], .bool (false)]) (by simp [results, Try.results103, go_sem, y0, y1, y2, y3]) rfl ?_
  have hBD := below_go hB2 CD
  exact ⟨rfl, by (repeat' (first | (with_reducible exact Below.refl _ _) | (with_reducible assumption) | (with_reducible refine below_drewN ?_ _) | (with_reducible refine Below.drew ?_) | (with_reducible refine below_alloc ?_ _) | (with_reducible refine Below.alloc ?_ ?_ _) | (with_reducible refine Below.setCell ?_ ?_ _) | (with_reducible refine below_go ?_ (by with_reducible assumption)) | (with_reducible refine below_then (by with_reducible assumption) ?_ ?_) | go_size))⟩
set_option maxHeartbeats 2000000 in
set_option maxRecDepth 100000 in
theorem impl_NextHead_no {A : Option Addr} {n c : Nat} {nm : ByteArray} {st : Int} {l : List ByteArray} {kb ks : ByteArray} {T : List ByteArray} {AT : Option Addr} {NT cT : Nat} {x : ByteArray} {w : World} (hn : l.length = n) (h : Strs w A l) (hz : n ≤ 1048576) (hs : ∀ s ∈ l, s.size ≤ 16777216) (hnm : nm.size ≤ 16777216) (hst : I64 st) (hkb : kb.size ≤ 16777216) (hks : ks.size ≤ 16777216) (hk : goodK nm st l kb ks = false) :
    Calls Try.prog 54 #[.agg #[.string nm, .int .i64 st, .slice A n c], .agg #[.string kb, .string ks], .slice AT NT cT, .string x] w fun e w' => e = .returned (.tuple #[.string (nhR nm st l kb ks T x), .bool (okNH nm st l kb ks T x)]) ∧ Below w.heap.size w w' := by
  have b0 : Below w.heap.size w ((w.alloc (.cells ⟨[.string nm, .int .i64 st, .slice A n c]⟩ 42)).alloc (.cells ⟨[.string kb, .string ks]⟩ 44)) := by (repeat' (first | (with_reducible exact Below.refl _ _) | (with_reducible assumption) | (with_reducible refine below_drewN ?_ _) | (with_reducible refine Below.drew ?_) | (with_reducible refine below_alloc ?_ _) | (with_reducible refine Below.alloc ?_ ?_ _) | (with_reducible refine Below.setCell ?_ ?_ _) | (with_reducible refine below_go ?_ (by with_reducible assumption)) | (with_reducible refine below_then (by with_reducible assumption) ?_ ?_) | go_size))
  have e0 : okNH nm st l kb ks T x = false := by rw [okNH, hk]; rfl
  have E0 := Lib.hid e0
  have E1 := Lib.hid (nhR_f e0)
  clear e0
  go_in
  go_wp2_with fail
  obtain ⟨w0, hw0⟩ : ∃ u, u = ((w.alloc (.cells #[.string nm, .int .i64 st, .slice A n c] 42)).alloc (.cells #[.string kb, .string ks] 44)) := ⟨_, rfl⟩
  rw [← hw0] at b0 ⊢
  clear hw0
  refine (impl_goodBlocks_no (T := T) hn (h.up b0) hz hs hnm hst hkb hks hk).mono ?_; rintro e w1 ⟨rfl, hb1⟩
  have hB1 := below_go b0 hb1
  go_wp2
  go_ret2
  rw [E0.out, E1.out]
  exact ⟨rfl, by (repeat' (first | (with_reducible exact Below.refl _ _) | (with_reducible assumption) | (with_reducible refine below_drewN ?_ _) | (with_reducible refine Below.drew ?_) | (with_reducible refine below_alloc ?_ _) | (with_reducible refine Below.alloc ?_ ?_ _) | (with_reducible refine Below.setCell ?_ ?_ _) | (with_reducible refine below_go ?_ (by with_reducible assumption)) | (with_reducible refine below_then (by with_reducible assumption) ?_ ?_) | go_size))⟩
set_option maxHeartbeats 2000000 in
set_option maxRecDepth 100000 in
theorem impl_NextHead_yes {A : Option Addr} {n c st : Nat} {nm : ByteArray} {l : List ByteArray} {kb ks : ByteArray} {T : List ByteArray} {AT : Option Addr} {NT cT : Nat} {x : ByteArray} {w : World} (hn : l.length = n) (h : Strs w A l) (hk : goodK nm (st : Int) l kb ks = true) (hNT : T.length = NT) (hT : Strs w AT T) (hzT : NT ≤ 16777216) :
    Calls Try.prog 54 #[.agg #[.string nm, .int .i64 st, .slice A n c], .agg #[.string kb, .string ks], .slice AT NT cT, .string x] w fun e w' => e = .returned (.tuple #[.string (nhR nm st l kb ks T x), .bool (okNH nm st l kb ks T x)]) ∧ Below w.heap.size w w' := by
  have HO := Lib.hid (show okNH nm (st : Int) l kb ks T x = (ok17 st l kb ks T && inL (gF st l kb ks) x) by rw [okNH, hk, Bool.true_and]; rfl)
  have HP := Lib.hid (cP_row hk)
  have HB := Lib.hid (cB_row hk)
  have HGR := Lib.hid (gF_row hk)
  have b0 : Below w.heap.size w ((w.alloc (.cells ⟨[.string nm, .int .i64 st, .slice A n c]⟩ 42)).alloc (.cells ⟨[.string kb, .string ks]⟩ 44)) := by (repeat' (first | (with_reducible exact Below.refl _ _) | (with_reducible assumption) | (with_reducible refine below_drewN ?_ _) | (with_reducible refine Below.drew ?_) | (with_reducible refine below_alloc ?_ _) | (with_reducible refine Below.alloc ?_ ?_ _) | (with_reducible refine Below.setCell ?_ ?_ _) | (with_reducible refine below_go ?_ (by with_reducible assumption)) | (with_reducible refine below_then (by with_reducible assumption) ?_ ?_) | go_size))
  go_in
  go_wp2_with fail
  obtain ⟨w0, hw0⟩ : ∃ u, u = ((w.alloc (.cells #[.string nm, .int .i64 st, .slice A n c] 42)).alloc (.cells #[.string kb, .string ks] 44)) := ⟨_, rfl⟩
  rw [← hw0] at b0 ⊢
  clear hw0
  refine (impl_goodBlocks hn (h.up b0) hk hNT (hT.up b0) hzT).mono ?_; rintro e w1 ⟨G, gn, gc, rfl, hyes, hb1⟩
  have HY := Lib.hid hyes
  have hB1 := below_go b0 hb1
  have HT := Lib.hid (hT.up hB1)
  clear hyes hT h
  rcases hok : ok17 st l kb ks T
  · have e0 := Lib.hid (show okNH nm (st : Int) l kb ks T x = false by rw [HO.out, hok, Bool.false_and])
    have E1 := Lib.hid (nhR_f e0.out)
    go_wp2
    go_ret2
    rw [e0.out, E1.out]
    exact ⟨rfl, by (repeat' (first | (with_reducible exact Below.refl _ _) | (with_reducible assumption) | (with_reducible refine below_drewN ?_ _) | (with_reducible refine Below.drew ?_) | (with_reducible refine below_alloc ?_ _) | (with_reducible refine Below.alloc ?_ ?_ _) | (with_reducible refine Below.setCell ?_ ?_ _) | (with_reducible refine below_go ?_ (by with_reducible assumption)) | (with_reducible refine below_then (by with_reducible assumption) ?_ ?_) | go_size))⟩
  · obtain ⟨h1, h2, h3⟩ := ok17_t hok
    obtain ⟨hgn, L, ho, hp, hs⟩ := HY.out h1
    obtain ⟨h4, h5⟩ := rowsIn_t h2
    have hgz : gn ≤ 16777216 := by omega
    have HIN := Lib.hid (inL_perm hp x)
    have HL := Lib.hid ho
    have HS := Lib.hid hs
    have HS5 := Lib.hid h5
    have hb2 : Below w1.heap.size w1 (w1.alloc (.cells ⟨[.string (cP st l kb ks), .string (cB st l kb ks), .slice G gn gc, .string (cQ st l kb ks)]⟩ 119)) := by (repeat' (first | (with_reducible exact Below.refl _ _) | (with_reducible assumption) | (with_reducible refine below_drewN ?_ _) | (with_reducible refine Below.drew ?_) | (with_reducible refine below_alloc ?_ _) | (with_reducible refine Below.alloc ?_ ?_ _) | (with_reducible refine Below.setCell ?_ ?_ _) | (with_reducible refine below_go ?_ (by with_reducible assumption)) | (with_reducible refine below_then (by with_reducible assumption) ?_ ?_) | go_size))
    have KX := Blk.at_ w1 119 [.string (cP st l kb ks), .string (cB st l kb ks), .slice G gn gc, .string (cQ st l kb ks)] (b := w1.heap.size) rfl
    clear ho hs hp hgn h1 h2 h3 h4 h5
    go_wp2_with fail
    obtain ⟨w2, hw2⟩ : ∃ u, u = (w1.alloc (.cells #[.string (cP st l kb ks), .string (cB st l kb ks), .slice G gn gc, .string (cQ st l kb ks)] 119)) := ⟨_, rfl⟩
    rw [← hw2] at hb2 KX ⊢
    clear hw2
    refine (impl_has (s := x) HL.out.len ((HL.out.up hb2).recs) hgz HS.out).mono ?_; rintro e w3 ⟨rfl, hb3⟩
    have hB3 := below_go (below_go hB1 hb2) hb3
    have C3 := below_go hb2 hb3
    have L0 := KX.up hb3
    have k0 : w3.cell? ⟨w1.heap.size, 0, none⟩ = some (.string (cP st l kb ks)) := by simpa using L0.cell 0
    have k1 : w3.cell? ⟨w1.heap.size, 1, none⟩ = some (.string (cB st l kb ks)) := by simpa using L0.cell 1
    have k2 : w3.cell? ⟨w1.heap.size, 2, none⟩ = some (.slice G gn gc) := by simpa using L0.cell 2
    have k3 : w3.cell? ⟨w1.heap.size, 3, none⟩ = some (.string (cQ st l kb ks)) := by simpa using L0.cell 3
    clear L0 KX
    rcases hin : inL L x
    · have e0 := Lib.hid (show okNH nm (st : Int) l kb ks T x = false by rw [HO.out, hok, ← HIN.out, hin]; rfl)
      have E1 := Lib.hid (nhR_f e0.out)
      go_wp2
      go_ret2
      rw [e0.out, E1.out]
      exact ⟨rfl, hB3⟩
    · have e0 := Lib.hid (show okNH nm (st : Int) l kb ks T x = true by rw [HO.out, hok, ← HIN.out, hin]; rfl)
      have E1 := Lib.hid (nhR_t e0.out)
      have hx := HGR.out x (inL_iff.1 (by rw [← HIN.out, hin]))
      have HX := Lib.hid hx
      clear hx
      go_wp2_with fail
      refine (impl_next HP.out HB.out HX.out hNT (HT.out.up C3) hzT HS5.out).mono ?_; rintro e w4 ⟨rfl, hb4⟩
      go_wp2
      go_ret2
      rw [e0.out, E1.out]
      exact ⟨rfl, below_go hB3 hb4⟩
end Go.Proofs.Ytmdmnjjlpefigaa
/- The laws' own conversions of []impl.Line and of impl.Proof: copying, comparing, counting. -/
namespace Go.Proofs.Ytmdmnjjlpefigaa
set_option linter.unusedVariables false
set_option linter.unusedSimpArgs false
open Go.ChangeShapes Go.WideShapes Go.ChangeAt Go.RowKit Go.Deep
abbrev Line3 := ByteArray × Int × Int
abbrev lineE : ByteArray × Int × Int → List Value := fun s => [.string s.1, .int .i64 s.2.1, .int .i64 s.2.2]
theorem lineE_len (s : Line3) : (lineE s).length = 3 := rfl
theorem Try.elLine : ElemOk Try.prog 69 143 (.agg #[.string ByteArray.empty, .int .i64 0, .int .i64 0]) 3 32 := ⟨Try.underlying69, by kernel_rfl, rfl, by decide⟩
theorem laws_toLine (a0 : ByteArray) (a1 a2 : Int) (w : World) :
    Calls Try.prog 143 #[.agg #[.string a0, .int .i64 a1, .int .i64 a2]] w fun e w' => e = .returned (.agg #[.string a0, .int .i64 a1, .int .i64 a2]) ∧ Below w.heap.size w w' := by
  go_in
  go_wp2
  go_returns
  exact ⟨rfl, by (repeat' (first | (with_reducible exact Below.refl _ _) | (with_reducible assumption) | (with_reducible refine below_drewN ?_ _) | (with_reducible refine Below.drew ?_) | (with_reducible refine below_alloc ?_ _) | (with_reducible refine Below.alloc ?_ ?_ _) | (with_reducible refine Below.setCell ?_ ?_ _) | (with_reducible refine below_go ?_ (by with_reducible assumption)) | (with_reducible refine below_then (by with_reducible assumption) ?_ ?_) | go_size))⟩
set_option maxRecDepth 100000 in
theorem laws_toLineS (A : Option Addr) (n c : Nat) (l : List Line3) (w : World) (hn : l.length = n) (h : Recs lineE 3 w A l) (hz : n ≤ 1048576) :
    Calls Try.prog 96 #[.slice A n c] w fun e w' => ∃ g, e = .returned (.slice (some ⟨g, 0, none⟩) n n) ∧ Owned lineE 3 143 w' w.heap.size (some ⟨g, 0, none⟩) n n l ∧ Below w.heap.size w w' := by
  subst hn
  have hmk := run_make_rec (e := lineE) Try.elLine (ByteArray.empty, 0, 0) rfl l.length (by omega) (by decide)
  go_in
  go_wp2
  clear hmk
  go_loopw [4] (fun i wr => ∃ (k : Nat) (m : List Line3), k ≤ l.length ∧ i = .int .i64 k ∧ Hid (∀ j, j < k → m[j]? = l[j]?) ∧ Owned lineE 3 143 wr w.heap.size (some ⟨w.heap.size, 0, none⟩) l.length l.length m ∧ Below w.heap.size w wr) (fun i _ => l.length - (intOf i).toNat)
  case atStart => exact ⟨0, _, Nat.zero_le _, rfl, Lib.hid (fun j hj => absurd hj (by omega)), Owned.made (e := lineE) (s := 3) (fun _ => rfl) w 143 (ByteArray.empty, 0, 0) l.length (by omega) (Nat.le_refl _), by (repeat' (first | (with_reducible exact Below.refl _ _) | (with_reducible assumption) | (with_reducible refine below_drewN ?_ _) | (with_reducible refine Below.drew ?_) | (with_reducible refine below_alloc ?_ _) | (with_reducible refine Below.alloc ?_ ?_ _) | (with_reducible refine Below.setCell ?_ ?_ _) | (with_reducible refine below_go ?_ (by with_reducible assumption)) | (with_reducible refine below_then (by with_reducible assumption) ?_ ?_) | go_size))⟩
  case round =>
    obtain ⟨k, m, hk, rfl, HM, ho, hb⟩ := hrel
    by_cases hlt : k < l.length
    · obtain ⟨x, hx⟩ := some_of_lt hlt
      obtain ⟨y, hy⟩ := some_of_lt (l := m) (k := k) (by rw [ho.len]; exact hlt)
      obtain ⟨b1, o1, rfl, hbb, hc0, hc1, hc2⟩ := (h.below hb (Nat.le_refl _)).at_3 hx
      have HX := Lib.hid hx
      have HY := Lib.hid hy
      have HO := Lib.hid ho
      clear hx hy ho h
      go_wp2_with fail
      refine (laws_toLine _ _ _ _).mono ?_; rintro e w1 ⟨rfl, hb1⟩
      have HO1 := Lib.hid (HO.out.up hb1)
      obtain ⟨g', eg, _, _, hcell, hfz⟩ := HO1.out.at_ (by omega)
      injection eg with eg
      injection eg with eg
      subst eg
      have old0 := hcell k y 0 _ HY.out rfl
      have fz0 := hfz (k * 3 + 0)
      have old1 := hcell k y 1 _ HY.out rfl
      have fz1 := hfz (k * 3 + 1)
      have old2 := hcell k y 2 _ HY.out rfl
      have fz2 := hfz (k * 3 + 2)
      simp only [Nat.add_zero] at old0 fz0
      clear hcell hfz
      go_wp2
      go_roundw
      case rel =>
        refine ⟨k + 1, m.set k x, by omega, by go_num, Lib.hid (upto_set HM.out HX.out (by rw [HO1.out.len]; exact hlt)), ?_, by (repeat' (first | (with_reducible exact Below.refl _ _) | (with_reducible assumption) | (with_reducible refine below_drewN ?_ _) | (with_reducible refine Below.drew ?_) | (with_reducible refine below_alloc ?_ _) | (with_reducible refine Below.alloc ?_ ?_ _) | (with_reducible refine Below.setCell ?_ ?_ _) | (with_reducible refine below_go ?_ (by with_reducible assumption)) | (with_reducible refine below_then (by with_reducible assumption) ?_ ?_) | go_size))⟩
        have p0 := (HO1.out.put (j := 0) (x := (x.1, y.2.1, y.2.2)) (u := .string x.1) HY.out (by decide) rfl).1
        have p1 := (p0.put (j := 1) (x := (x.1, x.2.1, y.2.2)) (u := .int .i64 x.2.1) (List.getElem?_set_self (by rw [HO1.out.len]; exact hlt)) (by decide) rfl).1
        have p2 := (p1.put (j := 2) (x := (x.1, x.2.1, x.2.2)) (u := .int .i64 x.2.2) (List.getElem?_set_self (by simp only [List.length_set]; rw [HO1.out.len]; exact hlt)) (by decide) rfl).1
        simp only [List.set_set] at p2
        exact p2
      case measure => simp [intOf]; omega
    · go_wp2
      go_ret
      have e1 : m = l := eq_of_upto (fun j hj => HM.out j hj) (by rw [ho.len]; omega) (by omega)
      subst e1
      exact ⟨_, rfl, ho, hb⟩
theorem laws_eqLine (a0 b0 : ByteArray) (a1 a2 b1 b2 : Int) (w : World) :
    Calls Try.prog 147 #[.agg #[.string a0, .int .i64 a1, .int .i64 a2], .agg #[.string b0, .int .i64 b1, .int .i64 b2]] w fun e w' => e = .returned (.bool (decide ((a0, a1, a2) = (b0, b1, b2)))) ∧ Below w.heap.size w w' := by
  have E : Hid (∀ p : Bool, p = decide (a0 = b0 ∧ a1 = b1 ∧ a2 = b2) → p = decide ((a0, a1, a2) = (b0, b1, b2))) := fun p h => by rw [h]; simp
  rcases hne : (a0.toList == b0.toList)
  · have hd := Lib.hid (show ¬ a0 = b0 from fun e => by rw [e] at hne; simp at hne)
    go_in
    go_wp2
    all_goals go_ret
    all_goals refine ⟨ret_bool (E.out _ ?_), by (repeat' (first | (with_reducible exact Below.refl _ _) | (with_reducible assumption) | (with_reducible refine below_drewN ?_ _) | (with_reducible refine Below.drew ?_) | (with_reducible refine below_alloc ?_ _) | (with_reducible refine Below.alloc ?_ ?_ _) | (with_reducible refine Below.setCell ?_ ?_ _) | (with_reducible refine below_go ?_ (by with_reducible assumption)) | (with_reducible refine below_then (by with_reducible assumption) ?_ ?_) | go_size))⟩
    all_goals simp [hd.out]
  · have hd := Lib.hid (bytes_same hne)
    go_in
    go_wp2
    all_goals go_ret
    all_goals refine ⟨ret_bool (E.out _ ?_), by (repeat' (first | (with_reducible exact Below.refl _ _) | (with_reducible assumption) | (with_reducible refine below_drewN ?_ _) | (with_reducible refine Below.drew ?_) | (with_reducible refine below_alloc ?_ _) | (with_reducible refine Below.alloc ?_ ?_ _) | (with_reducible refine Below.setCell ?_ ?_ _) | (with_reducible refine below_go ?_ (by with_reducible assumption)) | (with_reducible refine below_then (by with_reducible assumption) ?_ ?_) | go_size))⟩
    all_goals simp_all [hd.out]
set_option maxRecDepth 100000 in
theorem laws_eqLineS (A C : Option Addr) (n n' c d : Nat) (l m : List Line3) (w : World) (hn : l.length = n) (hn' : m.length = n') (h : Recs lineE 3 w A l) (g : Recs lineE 3 w C m) (hz : n ≤ 16777216) (hz' : n' ≤ 16777216) :
    Calls Try.prog 99 #[.slice A n c, .slice C n' d] w fun e w' => e = .returned (.bool (decide (l = m))) ∧ Below w.heap.size w w' := by
  subst hn hn'
  by_cases hl : l.length = m.length
  · have HL := Lib.hid hl
    rw [← hl]
    clear hl
    go_in
    go_wp2
    go_loopw [5] (fun i wr => ∃ k : Nat, k ≤ l.length ∧ i = .int .i64 k ∧ Hid (∀ j, j < k → l[j]? = m[j]?) ∧ Below w.heap.size w wr) (fun i _ => l.length - (intOf i).toNat)
    case atStart => exact ⟨0, Nat.zero_le _, rfl, Lib.hid (fun j hj => absurd hj (by omega)), Below.refl _ _⟩
    case round =>
      obtain ⟨k, hk, rfl, HT, hb⟩ := hrel
      by_cases hlt : k < l.length
      · obtain ⟨x, hx⟩ := some_of_lt hlt
        obtain ⟨y, hy⟩ := some_of_lt (l := m) (k := k) (by rw [← HL.out]; exact hlt)
        obtain ⟨b1, o1, rfl, _, hcx0, hcx1, hcx2⟩ := (h.below hb (Nat.le_refl _)).at_3 hx
        obtain ⟨b2, o2, rfl, _, hcy0, hcy1, hcy2⟩ := (g.below hb (Nat.le_refl _)).at_3 hy
        have HX := Lib.hid hx
        have HY := Lib.hid hy
        clear hx hy h g
        go_wp2
        go_still_tail 8, (by kernel_rfl)
        change wpList _ _ _ _ _ wr.drew
        go_wp2_with fail
        refine (laws_eqLine _ _ _ _ _ _ _).mono ?_; rintro e w1 ⟨rfl, hb1⟩
        by_cases hxy : x = y
        · have hd : decide ((x.1, x.2.1, x.2.2) = (y.1, y.2.1, y.2.2)) = true := by rw [hxy]; simp
          rw [hd]
          have HXY := Lib.hid hxy
          clear hxy hd
          go_wp2
          go_roundw
          case rel => exact ⟨k + 1, by omega, by go_num, Lib.hid (upto_succ HT.out (by rw [HX.out, HY.out, HXY.out])), by (repeat' (first | (with_reducible exact Below.refl _ _) | (with_reducible assumption) | (with_reducible refine below_drewN ?_ _) | (with_reducible refine Below.drew ?_) | (with_reducible refine below_alloc ?_ _) | (with_reducible refine Below.alloc ?_ ?_ _) | (with_reducible refine Below.setCell ?_ ?_ _) | (with_reducible refine below_go ?_ (by with_reducible assumption)) | (with_reducible refine below_then (by with_reducible assumption) ?_ ?_) | go_size))⟩
          case measure => simp [intOf]; omega
        · have hd : decide ((x.1, x.2.1, x.2.2) = (y.1, y.2.1, y.2.2)) = false := decide_eq_false hxy
          rw [hd]
          have HXY := Lib.hid hxy
          clear hxy hd
          go_wp2
          go_ret
          refine ⟨ret_bool ?_, by (repeat' (first | (with_reducible exact Below.refl _ _) | (with_reducible assumption) | (with_reducible refine below_drewN ?_ _) | (with_reducible refine Below.drew ?_) | (with_reducible refine below_alloc ?_ _) | (with_reducible refine Below.alloc ?_ ?_ _) | (with_reducible refine Below.setCell ?_ ?_ _) | (with_reducible refine below_go ?_ (by with_reducible assumption)) | (with_reducible refine below_then (by with_reducible assumption) ?_ ?_) | go_size))⟩
          have hd : l ≠ m := fun e => by
            have h1 := HX.out
            rw [e, HY.out] at h1
            injection h1 with h1
            exact HXY.out h1.symm
          simp [hd]
      · go_wp2
        go_ret
        refine ⟨ret_bool ?_, hb⟩
        have hd : l = m := eq_of_upto (fun j hj => HT.out j hj) (by omega) (by have := HL.out; omega)
        simp [hd]
  · have hne : ((l.length : Int) != (m.length : Int)) = true := by simp; omega
    have hd : l ≠ m := fun e => hl (by rw [e])
    have HD := Lib.hid hd
    clear hd hl
    go_in
    go_wp2
    go_ret
    refine ⟨ret_bool ?_, by (repeat' (first | (with_reducible exact Below.refl _ _) | (with_reducible assumption) | (with_reducible refine below_drewN ?_ _) | (with_reducible refine Below.drew ?_) | (with_reducible refine below_alloc ?_ _) | (with_reducible refine Below.alloc ?_ ?_ _) | (with_reducible refine Below.setCell ?_ ?_ _) | (with_reducible refine below_go ?_ (by with_reducible assumption)) | (with_reducible refine below_then (by with_reducible assumption) ?_ ?_) | go_size))⟩
    simp [HD.out]
/-- What is left of 'left' behind z. -/
def szV (z left : Int) : Int := if z ≤ left then left - z else -1
theorem szV_t {z left : Int} (h : z ≤ left) : szV z left = left - z := by rw [szV, if_pos h]
theorem szV_f {z left : Int} (h : ¬ z ≤ left) : szV z left = -1 := by rw [szV, if_neg h]
/-- The room that lines take. -/
def szL : List Line3 → Int
  | [] => 0
  | x :: l => (x.1.size : Int) + 1 + szL l
theorem szL_len : ∀ l : List Line3, (l.length : Int) ≤ szL l
  | [] => by simp [szL]
  | x :: l => by have := szL_len l; rw [szL, List.length_cons]; omega
theorem szL_nonneg (l : List Line3) : 0 ≤ szL l := Int.le_trans (by omega) (szL_len l)
/-- What is left of 'left' behind the lengths of the first k texts; lines counted ahead. -/
def szUp (l : List Line3) : Nat → Int
  | 0 => 0
  | k + 1 => szUp l k + ((l.getD k (ByteArray.empty, 0, 0)).1.size : Int)
theorem szUp_succ {l : List Line3} {k : Nat} {x : Line3} (h : l[k]? = some x) : szUp l (k + 1) = szUp l k + (x.1.size : Int) := by rw [szUp, List.getD, h]; rfl
theorem szUp_cons (x : Line3) (l : List Line3) : ∀ k, szUp (x :: l) (k + 1) = (x.1.size : Int) + szUp l k
  | 0 => by simp [szUp]
  | k + 1 => by
    rw [szUp, szUp_cons x l k, szUp]
    simp only [List.getD_cons_succ]
    omega
theorem szL_up : ∀ l : List Line3, szL l = (l.length : Int) + szUp l l.length
  | [] => by simp [szL, szUp]
  | x :: l => by rw [szL, szL_up l, List.length_cons, szUp_cons]; omega
theorem szUp_mono (l : List Line3) : ∀ {j k : Nat}, j ≤ k → szUp l j ≤ szUp l k := fun {j k} h => by
  induction k with
  | zero => obtain rfl : j = 0 := by omega
            exact Int.le_refl _
  | succ k ih =>
    by_cases e : j = k + 1
    · subst e; exact Int.le_refl _
    · have := ih (by omega)
      rw [szUp]; omega
theorem szUp_nonneg (l : List Line3) (k : Nat) : 0 ≤ szUp l k := szUp_mono l (j := 0) (Nat.zero_le k)
theorem laws_szLine (a0 : ByteArray) (a1 a2 left : Int) (w : World) (h : 0 ≤ left ∧ left ≤ 1048576) (hs : a0.size ≤ maxLen) :
    Calls Try.prog 136 #[.agg #[.string a0, .int .i64 a1, .int .i64 a2], .int .i64 left] w fun e w' => e = .returned (.int .i64 (szV a0.size left)) ∧ Below w.heap.size w w' := by
  unfold maxLen at hs
  by_cases hle : (a0.size : Int) ≤ left
  · have e := szV_t hle
    rw [e]
    clear e
    go_in
    go_wp2
    go_ret
    exact ⟨rfl, by (repeat' (first | (with_reducible exact Below.refl _ _) | (with_reducible assumption) | (with_reducible refine below_drewN ?_ _) | (with_reducible refine Below.drew ?_) | (with_reducible refine below_alloc ?_ _) | (with_reducible refine Below.alloc ?_ ?_ _) | (with_reducible refine Below.setCell ?_ ?_ _) | (with_reducible refine below_go ?_ (by with_reducible assumption)) | (with_reducible refine below_then (by with_reducible assumption) ?_ ?_) | go_size))⟩
  · have e := szV_f hle
    rw [e]
    clear e
    go_in
    go_wp2
    go_ret
    exact ⟨rfl, by (repeat' (first | (with_reducible exact Below.refl _ _) | (with_reducible assumption) | (with_reducible refine below_drewN ?_ _) | (with_reducible refine Below.drew ?_) | (with_reducible refine below_alloc ?_ _) | (with_reducible refine Below.alloc ?_ ?_ _) | (with_reducible refine Below.setCell ?_ ?_ _) | (with_reducible refine below_go ?_ (by with_reducible assumption)) | (with_reducible refine below_then (by with_reducible assumption) ?_ ?_) | go_size))⟩
set_option maxRecDepth 100000 in
theorem laws_szLineS (A : Option Addr) (n c : Nat) (l : List Line3) (left : Int) (w : World) (hn : l.length = n) (h : Recs lineE 3 w A l) (h1 : left ≤ 1048576) (h0 : 0 ≤ left) (hm : l.length ≤ 9223372036854775807) (hs : ∀ x ∈ l, x.1.size ≤ maxLen) :
    Calls Try.prog 91 #[.slice A n c, .int .i64 left] w fun e w' => e = .returned (.int .i64 (szV (szL l) left)) ∧ Below w.heap.size w w' := by
  subst hn
  have HS := Lib.hid hs
  have HU := Lib.hid (szL_up l)
  clear hs
  by_cases hl : (l.length : Int) ≤ left
  · go_in
    go_wp2
    go_loopw [5, 1] (fun i v wr => ∃ k : Nat, k ≤ l.length ∧ i = .int .i64 k ∧ v = .int .i64 (left - (l.length : Int) - szUp l k) ∧ szUp l k ≤ left - (l.length : Int) ∧ Below w.heap.size w wr) (fun i _ _ => l.length - (intOf i).toNat)
    case atStart => exact ⟨0, Nat.zero_le _, rfl, by simp [szUp], by simp [szUp]; omega, Below.refl _ _⟩
    case round =>
      obtain ⟨k, hk, rfl, rfl, hle, hb⟩ := hrel
      have h00 := szUp_nonneg l k
      by_cases hlt : k < l.length
      · obtain ⟨x, hx⟩ := some_of_lt hlt
        obtain ⟨b1, o1, rfl, _, hc0, hc1, hc2⟩ := (h.below hb (Nat.le_refl _)).at_3 hx
        have hxs := HS.out x (List.mem_of_getElem? hx)
        have ES := Lib.hid (szUp_succ hx)
        have EM := Lib.hid (szUp_mono l (j := k + 1) (k := l.length) (by omega))
        clear hx h
        obtain ⟨u, hu⟩ : ∃ u, u = szUp l k := ⟨_, rfl⟩
        rw [← hu] at ES h00 hle ⊢
        clear hu
        by_cases hf : (x.1.size : Int) ≤ left - (l.length : Int) - u
        · go_wp2_with (first | (go_at_call 136; refine (laws_szLine _ _ _ _ _ (by omega) hxs).mono ?_; rw [szV_t hf]; rintro e w1 ⟨rfl, hb1⟩))
          go_roundw
          case rel => exact ⟨k + 1, by omega, by go_num, by rw [ES.out]; go_num, by rw [ES.out]; omega, below_go hb hb1⟩
          case measure => simp [intOf]; omega
        · go_wp2_with (first | (go_at_call 136; refine (laws_szLine _ _ _ _ _ (by omega) hxs).mono ?_; rw [szV_f hf]; rintro e w1 ⟨rfl, hb1⟩))
          go_ret
          refine ⟨ret_int ?_, below_go hb hb1⟩
          rw [szV_f]
          have := HU.out; have := ES.out; have := EM.out
          omega
      · obtain rfl : k = l.length := by omega
        have e1 := HU.out
        obtain ⟨u, hu⟩ : ∃ u, u = szUp l l.length := ⟨_, rfl⟩
        rw [← hu] at e1 h00 hle ⊢
        have E1 := Lib.hid e1
        clear e1 hu
        go_wp2
        go_ret
        refine ⟨ret_int ?_, hb⟩
        rw [szV_t (by rw [E1.out]; omega), E1.out]; omega
  · have hlL := szL_len l
    have E0 := Lib.hid (show ¬ szL l ≤ left by omega)
    go_in
    go_wp2
    go_ret
    exact ⟨ret_int (szV_f (by have := E0.out; omega)).symm, by (repeat' (first | (with_reducible exact Below.refl _ _) | (with_reducible assumption) | (with_reducible refine below_drewN ?_ _) | (with_reducible refine Below.drew ?_) | (with_reducible refine below_alloc ?_ _) | (with_reducible refine Below.alloc ?_ ?_ _) | (with_reducible refine Below.setCell ?_ ?_ _) | (with_reducible refine below_go ?_ (by with_reducible assumption)) | (with_reducible refine below_then (by with_reducible assumption) ?_ ?_) | go_size))⟩
end Go.Proofs.Ytmdmnjjlpefigaa
/- The walks through the comparison of proofs, both sides, and the law's own conversions of proofs. -/
namespace Go.Proofs.Ytmdmnjjlpefigaa
set_option linter.unusedVariables false
set_option linter.unusedSimpArgs false
open Go.ChangeShapes Go.WideShapes Go.ChangeAt Go.RowKit Go.Deep
theorem laws_szProof (A C : Option Addr) (n m c d : Nat) (l : List ByteArray) (k : List Line3) (left : Int) (w : World) (hn : l.length = n) (hm : k.length = m) (h : Recs strE 1 w A l) (g : Recs lineE 3 w C k) (h1 : left ≤ 1048576) (h0 : 0 ≤ left)
    (hl : l.length ≤ 9223372036854775807) (hk : k.length ≤ 9223372036854775807) (hs : ∀ s ∈ l, s.size ≤ maxLen) (hks : ∀ x ∈ k, x.1.size ≤ maxLen) :
    Calls Try.prog 46 #[.agg #[.slice A n c, .slice C m d], .int .i64 left] w fun e w' => e = .returned (.int .i64 (szV (szS l + szL k) left)) ∧ Below w.heap.size w w' := by
  have b0 : Below w.heap.size w (w.alloc (.cells #[.slice A n c, .slice C m d] 66)) := by (repeat' (first | (with_reducible exact Below.refl _ _) | (with_reducible assumption) | (with_reducible refine below_drewN ?_ _) | (with_reducible refine Below.drew ?_) | (with_reducible refine below_alloc ?_ _) | (with_reducible refine Below.alloc ?_ ?_ _) | (with_reducible refine Below.setCell ?_ ?_ _) | (with_reducible refine below_go ?_ (by with_reducible assumption)) | (with_reducible refine below_then (by with_reducible assumption) ?_ ?_) | go_size))
  have z0 := szS_len l
  have z1 := szL_len k
  by_cases hA : szS l ≤ left
  · by_cases hB : szL k ≤ left - szS l
    · have e := szV_t (z := szS l + szL k) (left := left) (by omega)
      rw [e]
      clear e
      go_in
      go_wp2_with (first | (go_at_call 14; refine (laws_szStringS_ok _ _ _ _ _ _ hn (h.up b0) h1 h0 hl hs hA).mono ?_; rintro e w' ⟨rfl, rfl⟩) | (go_at_call 91; refine (laws_szLineS _ _ _ _ _ _ hm (g.up b0) (by omega) (by omega) hk hks).mono ?_; rw [szV_t hB]; rintro e w1 ⟨rfl, hb1⟩))
      go_ret
      exact ⟨ret_int (by omega), below_go b0 hb1⟩
    · have e := szV_f (z := szS l + szL k) (left := left) (by omega)
      rw [e]
      clear e
      go_in
      go_wp2_with (first | (go_at_call 14; refine (laws_szStringS_ok _ _ _ _ _ _ hn (h.up b0) h1 h0 hl hs hA).mono ?_; rintro e w' ⟨rfl, rfl⟩) | (go_at_call 91; refine (laws_szLineS _ _ _ _ _ _ hm (g.up b0) (by omega) (by omega) hk hks).mono ?_; rw [szV_f (show ¬ szL k ≤ left - szS l by omega)]; rintro e w1 ⟨rfl, hb1⟩))
      go_ret
      exact ⟨rfl, below_go b0 hb1⟩
  · have e := szV_f (z := szS l + szL k) (left := left) (by omega)
    rw [e]
    clear e
    go_in
    go_wp2_with (first | (go_at_call 14; refine (laws_szStringS_no _ _ _ _ _ _ hn (h.up b0) h1 h0 hl hs (by omega)).mono ?_; rintro e w' ⟨rfl, rfl⟩))
    go_ret
    exact ⟨rfl, b0⟩
theorem laws_toProof (A C : Option Addr) (n m c d : Nat) (l : List ByteArray) (k : List Line3) (w : World) (hn : l.length = n) (hm : k.length = m) (h : Recs strE 1 w A l) (g : Recs lineE 3 w C k) (hz : n ≤ 1048576) (hz' : m ≤ 1048576) :
    Calls Try.prog 48 #[.agg #[.slice A n c, .slice C m d]] w fun e w' => ∃ g1 g2, e = .returned (.agg #[.slice (some ⟨g1, 0, none⟩) n n, .slice (some ⟨g2, 0, none⟩) m m]) ∧ Recs strE 1 w' (some ⟨g1, 0, none⟩) l ∧ Recs lineE 3 w' (some ⟨g2, 0, none⟩) k ∧ Below w.heap.size w w' := by
  have b0 : Below w.heap.size w (((w.alloc (.cells #[.slice A n c, .slice C m d] 66)).alloc (.cells #[.slice none 0 0, .slice none 0 0] 71)).alloc (.cells #[.slice none 0 0, .slice none 0 0] 71)) := by (repeat' (first | (with_reducible exact Below.refl _ _) | (with_reducible assumption) | (with_reducible refine below_drewN ?_ _) | (with_reducible refine Below.drew ?_) | (with_reducible refine below_alloc ?_ _) | (with_reducible refine Below.alloc ?_ ?_ _) | (with_reducible refine Below.setCell ?_ ?_ _) | (with_reducible refine below_go ?_ (by with_reducible assumption)) | (with_reducible refine below_then (by with_reducible assumption) ?_ ?_) | go_size))
  have K0 := ((Blk.at_ w 66 [.slice A n c, .slice C m d] (b := w.heap.size) rfl).alloc (.cells #[.slice none 0 0, .slice none 0 0] 71)).alloc (.cells #[.slice none 0 0, .slice none 0 0] 71)
  have K1 := (Blk.at_ (w.alloc (.cells #[.slice A n c, .slice C m d] 66)) 71 [.slice none 0 0, .slice none 0 0] (b := w.heap.size + 1) (by simp)).alloc (.cells #[.slice none 0 0, .slice none 0 0] 71)
  have K2 := Blk.at_ ((w.alloc (.cells #[.slice A n c, .slice C m d] 66)).alloc (.cells #[.slice none 0 0, .slice none 0 0] 71)) 71 [.slice none 0 0, .slice none 0 0] (b := w.heap.size + 1 + 1) (by simp)
  have sz0 : (((w.alloc (.cells #[.slice A n c, .slice C m d] 66)).alloc (.cells #[.slice none 0 0, .slice none 0 0] 71)).alloc (.cells #[.slice none 0 0, .slice none 0 0] 71)).heap.size = w.heap.size + 3 := by simp
  go_in
  go_wp2_with fail
  refine (laws_toStringS _ _ _ _ _ hn (h.up b0) hz).mono ?_; rintro e w1 ⟨g1, rfl, o1, hb1⟩
  have L0 := K0.up hb1; have L1 := K1.up hb1; have L2 := K2.up hb1
  have c0 := L0.cell 0; have c1 := L0.cell 1
  have f0 := L2.frozen 0; have d0 := L2.cell 0
  simp only [List.getElem?_cons_zero, List.getElem?_cons_succ] at c0 c1 d0
  have sz1 := hb1.size
  rw [sz0] at sz1
  have r1 := o1.at_own
  rw [sz0] at r1
  clear K0 K1 K2
  go_wp2_with fail
  obtain ⟨W, hW⟩ : ∃ W, W = w1.setCell ⟨w.heap.size + 1 + 1, 0, none⟩ (.slice (some ⟨g1, 0, none⟩) n n) := ⟨_, rfl⟩
  have M0 := L0.far (p := ⟨w.heap.size + 1 + 1, 0, none⟩) (by first | (simp; done) | (simp; omega)) (.slice (some ⟨g1, 0, none⟩) n n)
  have M1 := L1.far (p := ⟨w.heap.size + 1 + 1, 0, none⟩) (by first | (simp; done) | (simp; omega)) (.slice (some ⟨g1, 0, none⟩) n n)
  have M2 := L2.set_ 0 (.slice (some ⟨g1, 0, none⟩) n n)
  have o1' := o1.kept (only_set w1 (p := ⟨w.heap.size + 1 + 1, 0, none⟩) (.slice (some ⟨g1, 0, none⟩) n n)) (fun k hk e => by simp only [Value.ownBlock, Option.some.injEq] at hk; simp at e; omega)
  have bW : Below w.heap.size w (w1.setCell ⟨w.heap.size + 1 + 1, 0, none⟩ (.slice (some ⟨g1, 0, none⟩) n n)) := (below_go b0 hb1).setCell (by simp; omega) _
  rw [← hW] at M0 M1 M2 o1' bW ⊢
  have szW : W.heap.size = w1.heap.size := by rw [hW]; simp
  clear hW L0 L1 L2 c0 c1 f0 d0
  refine (laws_toLineS _ _ _ _ _ hm (g.below bW (Nat.le_refl _)) hz').mono ?_; rintro e w2 ⟨g2, rfl, o2, hb2⟩
  have N0 := M0.up hb2; have N1 := M1.up hb2; have N2 := M2.up hb2
  have c0 := N0.cell 0; have c1 := N0.cell 1; have d0 := N1.cell 0; have d1 := N1.cell 1; have e0 := N2.cell 0; have e1 := N2.cell 1
  have f0 := N1.frozen 0; have f1 := N1.frozen 1; have f2 := N2.frozen 0; have f3 := N2.frozen 1
  simp only [List.set_cons_zero, List.set_cons_succ, List.getElem?_cons_zero, List.getElem?_cons_succ] at c0 c1 d0 d1 e0 e1
  have r2 := o2.at_own
  rw [szW] at r2
  have HO1 := Lib.hid (o1'.up hb2)
  have HO2 := Lib.hid o2
  have HB := Lib.hid (below_go bW hb2)
  have HN1 := Lib.hid N1
  clear N0 N1 N2 M0 M1 M2 o1 o1' o2 h g
  go_wp2
  have Z := ((HN1.out.far (p := ⟨w.heap.size + 1 + 1, 1, none⟩) (by simp) (.slice (some ⟨g2, 0, none⟩) m m)).set_ 0 (.slice (some ⟨g1, 0, none⟩) n n)).set_ 1 (.slice (some ⟨g2, 0, none⟩) m m)
  have z0 := Z.cell 0; have z1 := Z.cell 1
  simp only [List.set_cons_zero, List.set_cons_succ, List.getElem?_cons_zero, List.getElem?_cons_succ] at z0 z1
  refine bodyPost_ret (v := .agg #[.slice (some ⟨g1, 0, none⟩) n n, .slice (some ⟨g2, 0, none⟩) m m]) (by simp [results, Try.results48, go_sem, z0, z1]) rfl ?_
  refine ⟨g1, g2, rfl, ?_, ?_, ?_⟩
  · have k2 := HO1.out.kept (only_set _ (p := ⟨w.heap.size + 1 + 1, 1, none⟩) (.slice (some ⟨g2, 0, none⟩) m m)) (fun k hk e => by simp only [Value.ownBlock, Option.some.injEq] at hk; simp at e; omega)
    have k3 := k2.kept (only_set _ (p := ⟨w.heap.size + 1, 0, none⟩) (.slice (some ⟨g1, 0, none⟩) n n)) (fun k hk e => by simp only [Value.ownBlock, Option.some.injEq] at hk; simp at e; omega)
    have k4 := k3.kept (only_set _ (p := ⟨w.heap.size + 1, 1, none⟩) (.slice (some ⟨g2, 0, none⟩) m m)) (fun k hk e => by simp only [Value.ownBlock, Option.some.injEq] at hk; simp at e; omega)
    exact k4.recs
  · have k2 := HO2.out.kept (only_set _ (p := ⟨w.heap.size + 1 + 1, 1, none⟩) (.slice (some ⟨g2, 0, none⟩) m m)) (fun k hk e => by simp only [Value.ownBlock, Option.some.injEq] at hk; simp at e; omega)
    have k3 := k2.kept (only_set _ (p := ⟨w.heap.size + 1, 0, none⟩) (.slice (some ⟨g1, 0, none⟩) n n)) (fun k hk e => by simp only [Value.ownBlock, Option.some.injEq] at hk; simp at e; omega)
    have k4 := k3.kept (only_set _ (p := ⟨w.heap.size + 1, 1, none⟩) (.slice (some ⟨g2, 0, none⟩) m m)) (fun k hk e => by simp only [Value.ownBlock, Option.some.injEq] at hk; simp at e; omega)
    exact k4.recs
  · exact ((HB.out.setCell (by simp; omega) _).setCell (by simp) _).setCell (by simp) _
theorem laws_eqProof (A B C D : Option Addr) (n m n' m' c d c' d' : Nat) (l l' : List ByteArray) (k k' : List Line3) (w : World) (hn : l.length = n) (hn' : l'.length = n') (hm : k.length = m) (hm' : k'.length = m') (h : Recs strE 1 w A l) (h' : Recs strE 1 w B l') (g : Recs lineE 3 w C k) (g' : Recs lineE 3 w D k') (hz : n ≤ 16777216) (hz' : n' ≤ 16777216) (hy : m ≤ 16777216) (hy' : m' ≤ 16777216) :
    Calls Try.prog 50 #[.agg #[.slice A n c, .slice C m d], .agg #[.slice B n' c', .slice D m' d']] w fun e w' => e = .returned (.bool (decide (l = l') && decide (k = k'))) ∧ Below w.heap.size w w' := by
  have b0 : Below w.heap.size w ((w.alloc (.cells #[.slice A n c, .slice C m d] 71)).alloc (.cells #[.slice B n' c', .slice D m' d'] 71)) := by (repeat' (first | (with_reducible exact Below.refl _ _) | (with_reducible assumption) | (with_reducible refine below_drewN ?_ _) | (with_reducible refine Below.drew ?_) | (with_reducible refine below_alloc ?_ _) | (with_reducible refine Below.alloc ?_ ?_ _) | (with_reducible refine Below.setCell ?_ ?_ _) | (with_reducible refine below_go ?_ (by with_reducible assumption)) | (with_reducible refine below_then (by with_reducible assumption) ?_ ?_) | go_size))
  have K0 := (Blk.at_ w 71 [.slice A n c, .slice C m d] (b := w.heap.size) rfl).alloc (.cells #[.slice B n' c', .slice D m' d'] 71)
  have K1 := Blk.at_ (w.alloc (.cells #[.slice A n c, .slice C m d] 71)) 71 [.slice B n' c', .slice D m' d'] (b := w.heap.size + 1) (by simp)
  rcases h1 : decide (l = l')
  · go_in
    go_wp2_with (first | (go_at_call 18; refine (laws_eqStringS _ _ _ _ _ _ _ _ _ hn hn' (h.up b0) (h'.up b0) hz hz').mono ?_; rw [h1]; rintro e w1 ⟨rfl, hb1⟩))
    go_ret
    exact ⟨rfl, below_go b0 hb1⟩
  · rcases h2 : decide (k = k')
    · go_in
      go_wp2_with (first | (go_at_call 18; refine (laws_eqStringS _ _ _ _ _ _ _ _ _ hn hn' (h.up b0) (h'.up b0) hz hz').mono ?_; rw [h1]; rintro e w1 ⟨rfl, hb1⟩; have L0 := K0.up hb1; have L1 := K1.up hb1; have c1 := L0.cell 1; have d1 := L1.cell 1; simp only [List.getElem?_cons_zero, List.getElem?_cons_succ] at c1 d1; clear L0 L1) | (go_at_call 99; refine (laws_eqLineS _ _ _ _ _ _ _ _ _ hm hm' ((g.up b0).up hb1) ((g'.up b0).up hb1) hy hy').mono ?_; rw [h2]; rintro e w2 ⟨rfl, hb2⟩))
      go_ret
      exact ⟨rfl, below_go (below_go b0 hb1) hb2⟩
    · go_in
      go_wp2_with (first | (go_at_call 18; refine (laws_eqStringS _ _ _ _ _ _ _ _ _ hn hn' (h.up b0) (h'.up b0) hz hz').mono ?_; rw [h1]; rintro e w1 ⟨rfl, hb1⟩; have L0 := K0.up hb1; have L1 := K1.up hb1; have c1 := L0.cell 1; have d1 := L1.cell 1; simp only [List.getElem?_cons_zero, List.getElem?_cons_succ] at c1 d1; clear L0 L1) | (go_at_call 99; refine (laws_eqLineS _ _ _ _ _ _ _ _ _ hm hm' ((g.up b0).up hb1) ((g'.up b0).up hb1) hy hy').mono ?_; rw [h2]; rintro e w2 ⟨rfl, hb2⟩))
      go_ret
      exact ⟨rfl, below_go (below_go b0 hb1) hb2⟩
set_option maxRecDepth 100000 in
theorem spec_l1SameS (A C : Option Addr) (n n' c d : Nat) (l m : List ByteArray) (w : World) (hn : l.length = n) (hn' : m.length = n') (h : Recs strE 1 w A l) (g : Recs strE 1 w C m) (hz : n ≤ 16777216) (hz' : n' ≤ 16777216) :
    Calls Try.prog 141 #[.slice A n c, .slice C n' d] w fun e w' => e = .returned (.bool (decide (l = m))) ∧ Below w.heap.size w w' := by
  subst hn hn'
  by_cases hl : l.length = m.length
  · have HL := Lib.hid hl
    rw [← hl]
    clear hl
    go_in
    go_wp2
    go_loopw [13] (fun i wr => ∃ k : Nat, k ≤ l.length ∧ i = .int .i64 k ∧ Hid (∀ j, j < k → l[j]? = m[j]?) ∧ Below w.heap.size w wr) (fun i _ => l.length - (intOf i).toNat)
    case atStart => exact ⟨0, Nat.zero_le _, rfl, Lib.hid (fun j hj => absurd hj (by omega)), Below.refl _ _⟩
    case round =>
      obtain ⟨k, hk, rfl, HT, hb⟩ := hrel
      by_cases hlt : k < l.length
      · obtain ⟨b1, o1, x, rfl, _, hx, hcx⟩ := (h.below hb (Nat.le_refl _)).at_str hlt
        obtain ⟨b2, o2, y, rfl, _, hy, hcy⟩ := (g.below hb (Nat.le_refl _)).at_str (by rw [← HL.out]; exact hlt)
        have HX := Lib.hid hx
        have HY := Lib.hid hy
        clear hx hy h g
        rcases hne : (x.toList == y.toList)
        · have he := Lib.hid hne
          go_wp2
          go_quiet (fail)
          go_wp2
          go_ret
          refine ⟨ret_bool ?_, by (repeat' (first | (with_reducible exact Below.refl _ _) | (with_reducible assumption) | (with_reducible refine below_drewN ?_ _) | (with_reducible refine Below.drew ?_) | (with_reducible refine below_alloc ?_ _) | (with_reducible refine Below.alloc ?_ ?_ _) | (with_reducible refine Below.setCell ?_ ?_ _) | (with_reducible refine below_go ?_ (by with_reducible assumption)) | (with_reducible refine below_then (by with_reducible assumption) ?_ ?_) | go_size))⟩
          have hd : l ≠ m := fun e => by
            have h1 := HX.out
            rw [e, HY.out] at h1
            injection h1 with h1
            have h2 := he.out
            rw [h1] at h2
            simp at h2
          simp [hd]
        · have he := Lib.hid hne
          go_wp2
          go_quiet (fail)
          go_wp2
          go_roundw
          case rel => exact ⟨k + 1, by omega, by go_num, Lib.hid (upto_succ HT.out (by rw [HX.out, HY.out, bytes_same he.out])), by (repeat' (first | (with_reducible exact Below.refl _ _) | (with_reducible assumption) | (with_reducible refine below_drewN ?_ _) | (with_reducible refine Below.drew ?_) | (with_reducible refine below_alloc ?_ _) | (with_reducible refine Below.alloc ?_ ?_ _) | (with_reducible refine Below.setCell ?_ ?_ _) | (with_reducible refine below_go ?_ (by with_reducible assumption)) | (with_reducible refine below_then (by with_reducible assumption) ?_ ?_) | go_size))⟩
          case measure => simp [intOf]; omega
      · go_wp2
        go_ret
        refine ⟨ret_bool ?_, hb⟩
        have hd : l = m := eq_of_upto (fun j hj => HT.out j hj) (by omega) (by have := HL.out; omega)
        simp [hd]
  · have hne : ((l.length : Int) != (m.length : Int)) = true := by simp; omega
    have hd : l ≠ m := fun e => hl (by rw [e])
    have HD := Lib.hid hd
    clear hd hl
    go_in
    go_wp2
    go_ret
    refine ⟨ret_bool ?_, by (repeat' (first | (with_reducible exact Below.refl _ _) | (with_reducible assumption) | (with_reducible refine below_drewN ?_ _) | (with_reducible refine Below.drew ?_) | (with_reducible refine below_alloc ?_ _) | (with_reducible refine Below.alloc ?_ ?_ _) | (with_reducible refine Below.setCell ?_ ?_ _) | (with_reducible refine below_go ?_ (by with_reducible assumption)) | (with_reducible refine below_then (by with_reducible assumption) ?_ ?_) | go_size))⟩
    simp [HD.out]
set_option maxRecDepth 100000 in
theorem equal_strs (A C : Option Addr) (n n' c d : Nat) (l m : List ByteArray) (w : World) (hn : l.length = n) (hn' : m.length = n') (h : Recs strE 1 w A l) (g : Recs strE 1 w C m) (hz : n ≤ 16777216) (hz' : n' ≤ 16777216) :
    Calls Try.prog 179 #[.slice A n c, .slice C n' d] w fun e w' => e = .returned (.bool (decide (l = m))) ∧ Below w.heap.size w w' := by
  subst hn hn'
  by_cases hl : l.length = m.length
  · have HL := Lib.hid hl
    rw [← hl]
    clear hl
    go_in
    go_wp2
    go_loopw [13] (fun i wr => ∃ k : Nat, k ≤ l.length ∧ i = .int .i64 k ∧ Hid (∀ j, j < k → l[j]? = m[j]?) ∧ Below w.heap.size w wr) (fun i _ => l.length - (intOf i).toNat)
    case atStart => exact ⟨0, Nat.zero_le _, rfl, Lib.hid (fun j hj => absurd hj (by omega)), Below.refl _ _⟩
    case round =>
      obtain ⟨k, hk, rfl, HT, hb⟩ := hrel
      by_cases hlt : k < l.length
      · obtain ⟨b1, o1, x, rfl, _, hx, hcx⟩ := (h.below hb (Nat.le_refl _)).at_str hlt
        obtain ⟨b2, o2, y, rfl, _, hy, hcy⟩ := (g.below hb (Nat.le_refl _)).at_str (by rw [← HL.out]; exact hlt)
        have HX := Lib.hid hx
        have HY := Lib.hid hy
        clear hx hy h g
        rcases hne : (x.toList == y.toList)
        · have he := Lib.hid hne
          go_wp2
          go_quiet (fail)
          go_wp2
          go_ret
          refine ⟨ret_bool ?_, by (repeat' (first | (with_reducible exact Below.refl _ _) | (with_reducible assumption) | (with_reducible refine below_drewN ?_ _) | (with_reducible refine Below.drew ?_) | (with_reducible refine below_alloc ?_ _) | (with_reducible refine Below.alloc ?_ ?_ _) | (with_reducible refine Below.setCell ?_ ?_ _) | (with_reducible refine below_go ?_ (by with_reducible assumption)) | (with_reducible refine below_then (by with_reducible assumption) ?_ ?_) | go_size))⟩
          have hd : l ≠ m := fun e => by
            have h1 := HX.out
            rw [e, HY.out] at h1
            injection h1 with h1
            have h2 := he.out
            rw [h1] at h2
            simp at h2
          simp [hd]
        · have he := Lib.hid hne
          go_wp2
          go_quiet (fail)
          go_wp2
          go_roundw
          case rel => exact ⟨k + 1, by omega, by go_num, Lib.hid (upto_succ HT.out (by rw [HX.out, HY.out, bytes_same he.out])), by (repeat' (first | (with_reducible exact Below.refl _ _) | (with_reducible assumption) | (with_reducible refine below_drewN ?_ _) | (with_reducible refine Below.drew ?_) | (with_reducible refine below_alloc ?_ _) | (with_reducible refine Below.alloc ?_ ?_ _) | (with_reducible refine Below.setCell ?_ ?_ _) | (with_reducible refine below_go ?_ (by with_reducible assumption)) | (with_reducible refine below_then (by with_reducible assumption) ?_ ?_) | go_size))⟩
          case measure => simp [intOf]; omega
      · go_wp2
        go_ret
        refine ⟨ret_bool ?_, hb⟩
        have hd : l = m := eq_of_upto (fun j hj => HT.out j hj) (by omega) (by have := HL.out; omega)
        simp [hd]
  · have hne : ((l.length : Int) != (m.length : Int)) = true := by simp; omega
    have hd : l ≠ m := fun e => hl (by rw [e])
    have HD := Lib.hid hd
    clear hd hl
    go_in
    go_wp2
    go_ret
    refine ⟨ret_bool ?_, by (repeat' (first | (with_reducible exact Below.refl _ _) | (with_reducible assumption) | (with_reducible refine below_drewN ?_ _) | (with_reducible refine Below.drew ?_) | (with_reducible refine below_alloc ?_ _) | (with_reducible refine Below.alloc ?_ ?_ _) | (with_reducible refine Below.setCell ?_ ?_ _) | (with_reducible refine below_go ?_ (by with_reducible assumption)) | (with_reducible refine below_then (by with_reducible assumption) ?_ ?_) | go_size))⟩
    simp [HD.out]
end Go.Proofs.Ytmdmnjjlpefigaa
/- The walks through lead heads of calls and their signs, the reference's side. -/
namespace Go.Proofs.Ytmdmnjjlpefigaa
set_option linter.unusedVariables false
set_option linter.unusedSimpArgs false
open Go.ChangeShapes Go.WideShapes Go.ChangeAt Go.RowKit Go.Deep
set_option maxHeartbeats 1000000 in
theorem spec_l8Change {A : Option Addr} {n c : Nat} {st : Int} {nm : ByteArray} {l : List ByteArray} {kb ks s : ByteArray} {w : World} (hn : l.length = n) (h : Strs w A l) (h0 : 0 < n) (hz : n ≤ 1048576) :
    Calls Try.prog 200 #[.agg #[.string nm, .int .i64 st, .slice A n c], .agg #[.string kb, .string ks], .string s] w fun e w' => e = .returned (.string (chOf l kb ks s)) ∧ Below w.heap.size w w' := by
  obtain ⟨m, rfl⟩ : ∃ m, n = m + 1 := ⟨n - 1, by omega⟩
  have HN := Lib.hid hn
  clear hn
  have b0 : Below w.heap.size w ((w.alloc (.cells ⟨[.string nm, .int .i64 st, .slice A (m + 1) c]⟩ 42)).alloc (.cells ⟨[.string kb, .string ks]⟩ 44)) := by (repeat' (first | (with_reducible exact Below.refl _ _) | (with_reducible assumption) | (with_reducible refine below_drewN ?_ _) | (with_reducible refine Below.drew ?_) | (with_reducible refine below_alloc ?_ _) | (with_reducible refine Below.alloc ?_ ?_ _) | (with_reducible refine Below.setCell ?_ ?_ _) | (with_reducible refine below_go ?_ (by with_reducible assumption)) | (with_reducible refine below_then (by with_reducible assumption) ?_ ?_) | go_size))
  obtain ⟨b, o, y, rfl, hbb, hy, hc⟩ := h.at_str (k := m) (by rw [HN.out]; omega)
  have hc1 := (b0.cell (p := ⟨b, o + m, none⟩) hbb).trans hc
  have hne : ¬ b = w.heap.size := by omega
  have hne2 : ¬ b = w.heap.size + 1 := by omega
  have EY := Lib.hid (show lastC l = y by rw [lastC, HN.out, Nat.add_sub_cancel, List.getD, hy]; rfl)
  clear hy
  rcases hB : isB s
  · rcases hS : isS s
    · have g2 : (s.toList == [98]) = false := hB
      have g3 : (s.toList == [115]) = false := hS
      have e1 := Lib.hid (show chOf l kb ks s = y by rw [chOf, hB, hS, if_neg (by simp), if_neg (by simp), EY.out])
      clear hB hS hc1
      go_in
      go_wp2
      go_ret
      rw [e1.out]
      exact ⟨rfl, b0⟩
    · have g2 : (s.toList == [98]) = false := hB
      have g3 : (s.toList == [115]) = true := hS
      have e1 := Lib.hid (show chOf l kb ks s = ks by rw [chOf, hB, hS, if_neg (by simp), if_pos rfl])
      clear hB hS hc1
      go_in
      go_wp2
      go_ret
      rw [e1.out]
      exact ⟨rfl, b0⟩
  · have g2 : (s.toList == [98]) = true := hB
    have e1 := Lib.hid (show chOf l kb ks s = kb by rw [chOf, hB, if_pos rfl])
    clear hB hc1
    go_in
    go_wp2
    go_ret
    rw [e1.out]
    exact ⟨rfl, b0⟩
set_option maxRecDepth 100000 in
set_option maxHeartbeats 1000000 in
theorem spec_l8Head {A : Option Addr} {n c st : Nat} {nm : ByteArray} {l : List ByteArray} {kb ks : ByteArray} {s : ByteArray} {w : World} (hn : l.length = n) (h : Strs w A l) (hk : goodK nm (st : Int) l kb ks = true) (hcap : n ≤ c) :
    Calls Try.prog 167 #[.agg #[.string nm, .int .i64 st, .slice A n c], .agg #[.string kb, .string ks], .string s] w fun e w' => e = .returned (.string (callHd st l kb ks s)) ∧ Below w.heap.size w w' := by
  obtain ⟨h8, h40, hgl, hgb, hgs⟩ := goodK_all hk
  obtain ⟨m, rfl⟩ : ∃ m, n = m + 1 := ⟨n - 1, by omega⟩
  have HN := Lib.hid hn
  have b0 : Below w.heap.size w ((w.alloc (.cells ⟨[.string nm, .int .i64 st, .slice A (m + 1) c]⟩ 42)).alloc (.cells ⟨[.string kb, .string ks]⟩ 44)) := by (repeat' (first | (with_reducible exact Below.refl _ _) | (with_reducible assumption) | (with_reducible refine below_drewN ?_ _) | (with_reducible refine Below.drew ?_) | (with_reducible refine below_alloc ?_ _) | (with_reducible refine Below.alloc ?_ ?_ _) | (with_reducible refine Below.setCell ?_ ?_ _) | (with_reducible refine below_go ?_ (by with_reducible assumption)) | (with_reducible refine below_then (by with_reducible assumption) ?_ ?_) | go_size))
  have K0 := (Blk.at_ w 42 [.string nm, .int .i64 st, .slice A (m + 1) c] (b := w.heap.size) rfl).alloc (.cells ⟨[.string kb, .string ks]⟩ 44)
  have K1 := Blk.at_ (w.alloc (.cells ⟨[.string nm, .int .i64 st, .slice A (m + 1) c]⟩ 42)) 44 [.string kb, .string ks] (b := w.heap.size + 1) (by simp)
  have HS := Lib.hid (fun (s' : ByteArray) (hs' : s' ∈ l.take m) => show s'.size ≤ 16777216 from by have := goodChange_small (hgl s' (List.mem_of_mem_take hs')); omega)
  have e1 := Lib.hid (show applyR (rAt (roundsS st) (l.take m) m) (chOf l kb ks s) = callHd st l kb ks s by
    have := headX_take (st := st) (l := l) (x := chOf l kb ks s)
    rw [HN.out, Nat.add_sub_cancel] at this
    exact this)
  have hm40 : m ≤ 40 := by have := HN.out; omega
  have hr8 : (roundsS st).size ≤ 8 := by rw [rounds_size st (by omega)]; exact h8.2
  have hx8 : (rAt (roundsS st) (l.take m) m).size ≤ 8 := by rw [rAt_size]; exact hr8
  have hch := goodChange_small (chOf_good hk s)
  have HT := Lib.hid (show (l.take m).length = m by rw [List.length_take, HN.out]; omega)
  obtain ⟨b, o, y, rfl, hbb, _, _⟩ := h.at_str (k := m) (by rw [HN.out]; omega)
  have hst8 := h8.2
  clear hgl hgb hgs h40 hn h8
  go_in
  go_upto_region 2 with fail
  obtain ⟨w0, hw0⟩ : ∃ u, u = ((w.alloc (.cells #[.string nm, .int .i64 st, .slice (some ⟨b, o, none⟩) (m + 1) c] 42)).alloc (.cells #[.string kb, .string ks] 44)) := ⟨_, rfl⟩
  rw [← hw0] at b0 K0 K1 ⊢
  clear hw0
  have H0 := h.up b0
  have R0 : Hid (Strs w0 (some ⟨b, o, none⟩) (l.take m)) := Lib.hid (by
    have := H0.part 0 m (Nat.zero_le _) (by rw [HN.out]; omega)
    simpa using this)
  have k0 := K0.cell 0; have k1 := K0.cell 1; have k2 := K0.cell 2; have q0 := K1.cell 0; have q1 := K1.cell 1
  simp only [List.getElem?_cons_zero, List.getElem?_cons_succ] at k0 k1 k2 q0 q1
  have hle : (m : Int) ≤ (c : Int) := by omega
  have hle2 : (0 : Int) ≤ (m : Int) := by omega
  have hnc : ¬ c = 0 := by omega
  have hB0 := Lib.hid b0
  go_region_held3 (fun u => u.cell? ⟨w.heap.size, 1, none⟩ = some (.int .i64 st) ∧ u.cell? ⟨w.heap.size, 2, none⟩ = some (.slice (some ⟨b, o, none⟩) (m + 1) c)) (first | exact ⟨k1d, k2d⟩ | exact ⟨k1, k2⟩) (first | (go_at_call 66; refine (spec_l1Rounds hst8).mono ?_; rintro e w' ⟨rfl, rfl⟩) | (go_at_call 142; refine (spec_l4Lead hr8 HT.out R0.out.drew (by omega) HS.out).mono ?_; rintro e w1 ⟨A1, c1, rfl, ho, hbd⟩; have hb1 := below_of_drew hbd; have L0 := K0.up hb1; have L1 := K1.up hb1; have k1d := L0.cell 1; have k2d := L0.cell 2; simp only [List.getElem?_cons_zero, List.getElem?_cons_succ] at k1d k2d))
  have k0d := L0.cell 0; have q0d := L1.cell 0; have q1d := L1.cell 1
  simp only [List.getElem?_cons_zero, List.getElem?_cons_succ] at k0d q0d q1d
  have hB1 := below_go b0 hb1
  clear k0 k1 k2 q0 q1
  go_wp2_with fail
  refine (spec_l8Change HN.out (h.up hB1) (by omega) (by omega)).mono ?_; rintro e w2 ⟨rfl, hb2⟩
  go_wp2_with fail
  refine (spec_l2Apply hx8 (by omega)).mono ?_; rw [e1.out]; rintro e w3 ⟨rfl, hb3⟩
  go_wp2
  go_ret
  exact ⟨rfl, below_go (below_go hB1 hb2) hb3⟩
set_option maxHeartbeats 2000000 in
set_option maxRecDepth 100000 in
theorem spec_CallHeads {A : Option Addr} {n c : Nat} {nm : ByteArray} {st : Int} {l : List ByteArray} {kb ks : ByteArray} {w : World} (hn : l.length = n) (h : Strs w A l) (hz : n ≤ 1048576) (hs : ∀ s ∈ l, s.size ≤ 16777216) (hnm : nm.size ≤ 16777216) (hst : I64 st) (hkb : kb.size ≤ 16777216) (hks : ks.size ≤ 16777216) (hcap : n ≤ c) :
    Calls Try.prog 124 #[.agg #[.string nm, .int .i64 st, .slice A n c], .agg #[.string kb, .string ks]] w fun e w' => ∃ A' m' c', e = .returned (.tuple #[.slice A' m' c', .bool (goodK nm st l kb ks)]) ∧ (goodK nm st l kb ks = true → m' = 3 ∧ Owned strE 1 9 w' w.heap.size A' m' c' (hds3 st.toNat l kb ks)) ∧ Below w.heap.size w w' := by
  have b0 : Below w.heap.size w ((w.alloc (.cells ⟨[.string nm, .int .i64 st, .slice A n c]⟩ 42)).alloc (.cells ⟨[.string kb, .string ks]⟩ 44)) := by (repeat' (first | (with_reducible exact Below.refl _ _) | (with_reducible assumption) | (with_reducible refine below_drewN ?_ _) | (with_reducible refine Below.drew ?_) | (with_reducible refine below_alloc ?_ _) | (with_reducible refine Below.alloc ?_ ?_ _) | (with_reducible refine Below.setCell ?_ ?_ _) | (with_reducible refine below_go ?_ (by with_reducible assumption)) | (with_reducible refine below_then (by with_reducible assumption) ?_ ?_) | go_size))
  have K0 := (Blk.at_ w 42 [.string nm, .int .i64 st, .slice A n c] (b := w.heap.size) rfl).alloc (.cells ⟨[.string kb, .string ks]⟩ 44)
  have K1 := Blk.at_ (w.alloc (.cells ⟨[.string nm, .int .i64 st, .slice A n c]⟩ 42)) 44 [.string kb, .string ks] (b := w.heap.size + 1) (by simp)
  go_in
  go_wp2_with fail
  obtain ⟨w0, hw0⟩ : ∃ u, u = ((w.alloc (.cells #[.string nm, .int .i64 st, .slice A n c] 42)).alloc (.cells #[.string kb, .string ks] 44)) := ⟨_, rfl⟩
  rw [← hw0] at b0 K0 K1 ⊢
  clear hw0
  refine (spec_l8Good hn (h.up b0) hz hs hnm hst hkb hks).mono ?_; rintro e w1 ⟨rfl, hb1⟩
  have hB1 := below_go b0 hb1
  rcases hk : goodK nm st l kb ks
  · have HK := Lib.hid hk
    go_wp2
    go_ret2
    rw [HK.out]
    exact ⟨none, 0, 0, rfl, fun h => (by cases h), hB1⟩
  · obtain ⟨m, rfl⟩ : ∃ m : Nat, st = (m : Int) := ⟨st.toNat, by
      have := (goodM_t (goodK_t hk).1).2.1
      omega⟩
    have HK := Lib.hid hk
    have H0 := Lib.hid (h.up hB1)
    have L0 := K0.up hb1; have L1 := K1.up hb1
    have carry : Hid (∀ u : World, Below w1.heap.size w1 u → (u.cell? ⟨w.heap.size, 0, none⟩ = some (.string nm) ∧ u.cell? ⟨w.heap.size, 1, none⟩ = some (.int .i64 m) ∧ u.cell? ⟨w.heap.size, 2, none⟩ = some (.slice A n c)) ∧ u.cell? ⟨w.heap.size + 1, 0, none⟩ = some (.string kb) ∧ u.cell? ⟨w.heap.size + 1, 1, none⟩ = some (.string ks)) := Lib.hid (fun u hu => by
      have L0 := L0.up hu; have L1 := L1.up hu
      exact ⟨⟨by simpa using L0.cell 0, by simpa using L0.cell 1, by simpa using L0.cell 2⟩, by simpa using L1.cell 0, by simpa using L1.cell 1⟩)
    clear h K0 K1 L0 L1
    have cf := Lib.hid (fun (u : World) (s : ByteArray) (hb : Below w1.heap.size w1 u) => spec_l8Head (c := c) (s := s) hn (H0.out.up hb) hk hcap)
    go_wp2
    go_region_held3 (fun u => (u.cell? ⟨w.heap.size, 0, none⟩ = some (.string nm) ∧ u.cell? ⟨w.heap.size, 1, none⟩ = some (.int .i64 m) ∧ u.cell? ⟨w.heap.size, 2, none⟩ = some (.slice A n c)) ∧ u.cell? ⟨w.heap.size + 1, 0, none⟩ = some (.string kb) ∧ u.cell? ⟨w.heap.size + 1, 1, none⟩ = some (.string ks)) (first | exact carry.out _ C3 | exact carry.out _ (C3.alloc C3.size _) | exact carry.out _ C2 | exact carry.out _ C1 | exact carry.out _ (Below.refl _ _).drew) (first | (go_at_call 167; ((with_reducible refine (cf.out _ ⟨#[115]⟩ C2).mono ?_); rintro e w4 ⟨rfl, hb4⟩; have C3 := C2.trans (hb4.mono C2.size))) | (go_at_call 167; ((with_reducible refine (cf.out _ ⟨#[98]⟩ C1).mono ?_); rintro e w3 ⟨rfl, hb3⟩; have C2 := C1.trans (hb3.mono C1.size))) | (go_at_call 167; ((with_reducible refine (cf.out _ ⟨#[112]⟩ (Below.refl _ _).drew).mono ?_); rintro e w2 ⟨rfl, hbd2⟩; have hb2 := below_of_drew hbd2; have C1 := hb2)))
    go_wp2
    go_ret2
    rw [HK.out]
    have C4 := C3.alloc C3.size (.cells #[.string (callHd m l kb ks ⟨#[112]⟩), .string (callHd m l kb ks ⟨#[98]⟩), .string (callHd m l kb ks ⟨#[115]⟩)] 9)
    have hB := below_go hB1 C4
    exact ⟨_, _, _, rfl, fun _ => ⟨rfl, own_lit3 w4 9 _ _ _ (by have := hB1.size; have := C3.size; omega)⟩, hB⟩
set_option maxHeartbeats 1000000 in
theorem spec_l18Leads {A : Option Addr} {n c : Nat} {nm : ByteArray} {st : Int} {l : List ByteArray} {kb ks : ByteArray} {w : World} (hn : l.length = n) (h : Strs w A l) (hz : n ≤ 1048576) (hs : ∀ s ∈ l, s.size ≤ 16777216) (hnm : nm.size ≤ 16777216) (hst : I64 st) (hkb : kb.size ≤ 16777216) (hks : ks.size ≤ 16777216) (hcap : n ≤ c) :
    Calls Try.prog 79 #[.agg #[.string nm, .int .i64 st, .slice A n c], .agg #[.string kb, .string ks]] w fun e w' => ∃ A' c', e = .returned (.tuple #[.slice A' (lsR nm st l kb ks).length c', .bool (goodK nm st l kb ks)]) ∧
      Owned boolE 1 4 w' w.heap.size A' (lsR nm st l kb ks).length c' (lsR nm st l kb ks) ∧ (lsR nm st l kb ks).length ≤ 16777216 ∧ Below w.heap.size w w' := by
  have b0 : Below w.heap.size w ((w.alloc (.cells ⟨[.string nm, .int .i64 st, .slice A n c]⟩ 42)).alloc (.cells ⟨[.string kb, .string ks]⟩ 44)) := by (repeat' (first | (with_reducible exact Below.refl _ _) | (with_reducible assumption) | (with_reducible refine below_drewN ?_ _) | (with_reducible refine Below.drew ?_) | (with_reducible refine below_alloc ?_ _) | (with_reducible refine Below.alloc ?_ ?_ _) | (with_reducible refine Below.setCell ?_ ?_ _) | (with_reducible refine below_go ?_ (by with_reducible assumption)) | (with_reducible refine below_then (by with_reducible assumption) ?_ ?_) | go_size))
  have K0 := (Blk.at_ w 42 [.string nm, .int .i64 st, .slice A n c] (b := w.heap.size) rfl).alloc (.cells ⟨[.string kb, .string ks]⟩ 44)
  have K1 := Blk.at_ (w.alloc (.cells ⟨[.string nm, .int .i64 st, .slice A n c]⟩ 42)) 44 [.string kb, .string ks] (b := w.heap.size + 1) (by simp)
  go_in
  go_wp2_with fail
  obtain ⟨w0, hw0⟩ : ∃ u, u = ((w.alloc (.cells #[.string nm, .int .i64 st, .slice A n c] 42)).alloc (.cells #[.string kb, .string ks] 44)) := ⟨_, rfl⟩
  rw [← hw0] at b0 K0 K1 ⊢
  clear hw0
  refine (spec_CallHeads hn (h.up b0) hz hs hnm hst hkb hks hcap).mono ?_; rintro e w1 ⟨A1, m1, c1, rfl, ho, hb1⟩
  have hB1 := below_go b0 hb1
  rcases hk : goodK nm st l kb ks
  · have HK := Lib.hid hk
    have e1 := Lib.hid (lsR_f hk)
    go_wp2
    go_ret2
    rw [HK.out, e1.out]
    exact ⟨none, 0, rfl, Owned.nil boolE_len _ _ _, by decide, hB1⟩
  · obtain ⟨m, rfl⟩ : ∃ m : Nat, st = (m : Int) := ⟨st.toNat, by
      have := (goodM_t (goodK_t hk).1).2.1
      omega⟩
    have HK := Lib.hid hk
    obtain ⟨em1, hoh⟩ := ho hk
    subst em1
    rw [Int.toNat_natCast] at hoh
    clear ho
    have hgr := hds3_good hk
    have e1 := Lib.hid (lsR_t hk)
    have hlen : (hds3 m l kb ks).length = 3 := rfl
    have hsz : ∀ s ∈ hds3 m l kb ks, s.size ≤ 16777216 := fun s hs' => by
      have := goodRow_n (goodRows_mem hgr s hs'); omega
    have hsz2 := Lib.hid hsz
    have e3 := Lib.hid (show signsR (hds3 m l kb ks) = (hds3 m l kb ks).map evenRow from signsR_t hgr)
    have hgr2 := Lib.hid hgr
    clear hsz hgr
    go_wp2_with fail
    refine (spec_SignsOf hlen hoh.recs (by omega) hsz2.out).mono ?_; rw [hgr2.out, e3.out]; rintro e w3 ⟨A3, c3, rfl, ho3, hz3, hb3⟩
    go_wp2
    go_ret2
    rw [e1.out, HK.out]
    exact ⟨_, _, rfl, ho3.base_le hB1.size, hz3, below_go hB1 hb3⟩
theorem spec_LeadSigns {A : Option Addr} {n c : Nat} {nm : ByteArray} {st : Int} {l : List ByteArray} {kb ks : ByteArray} {w : World} (hn : l.length = n) (h : Strs w A l) (hz : n ≤ 1048576) (hs : ∀ s ∈ l, s.size ≤ 16777216) (hnm : nm.size ≤ 16777216) (hst : I64 st) (hkb : kb.size ≤ 16777216) (hks : ks.size ≤ 16777216) (hcap : n ≤ c) :
    Calls Try.prog 34 #[.agg #[.string nm, .int .i64 st, .slice A n c], .agg #[.string kb, .string ks]] w fun e w' => ∃ A' c', e = .returned (.tuple #[.slice A' (lsR nm st l kb ks).length c', .bool (goodK nm st l kb ks)]) ∧
      Owned boolE 1 4 w' w.heap.size A' (lsR nm st l kb ks).length c' (lsR nm st l kb ks) ∧ (lsR nm st l kb ks).length ≤ 16777216 ∧ Below w.heap.size w w' := by
  have b0 : Below w.heap.size w ((w.alloc (.cells ⟨[.string nm, .int .i64 st, .slice A n c]⟩ 42)).alloc (.cells ⟨[.string kb, .string ks]⟩ 44)) := by (repeat' (first | (with_reducible exact Below.refl _ _) | (with_reducible assumption) | (with_reducible refine below_drewN ?_ _) | (with_reducible refine Below.drew ?_) | (with_reducible refine below_alloc ?_ _) | (with_reducible refine Below.alloc ?_ ?_ _) | (with_reducible refine Below.setCell ?_ ?_ _) | (with_reducible refine below_go ?_ (by with_reducible assumption)) | (with_reducible refine below_then (by with_reducible assumption) ?_ ?_) | go_size))
  have K0 := (Blk.at_ w 42 [.string nm, .int .i64 st, .slice A n c] (b := w.heap.size) rfl).alloc (.cells ⟨[.string kb, .string ks]⟩ 44)
  have K1 := Blk.at_ (w.alloc (.cells ⟨[.string nm, .int .i64 st, .slice A n c]⟩ 42)) 44 [.string kb, .string ks] (b := w.heap.size + 1) (by simp)
  clear K0 K1
  go_in
  go_wp2_with fail
  refine (spec_l18Leads hn (h.up b0) hz hs hnm hst hkb hks hcap).mono ?_; rintro e w1 ⟨A1, c1, rfl, ho, hz1, hb1⟩
  go_wp2
  go_ret2
  exact ⟨_, _, rfl, ho.base_le b0.size, hz1, below_go b0 hb1⟩
end Go.Proofs.Ytmdmnjjlpefigaa
/- A map to strings or to ints that the call has made, as a plain function of the key. -/
namespace Go.Proofs.Ytmdmnjjlpefigaa
set_option linter.unusedVariables false
set_option linter.unusedSimpArgs false
open Go.ChangeShapes Go.WideShapes Go.ChangeAt Go.RowKit Go.Deep
open Go.Maps (Keyed)

/-- Block b is a map of at most n entries that reads as f. -/
def MapTo {α : Type} (en : α → Value) (li : α → Lit) (z : α) (P : Program) (w : World) (k e : TypeId) (b n : Nat) (f : Value → α) : Prop :=
  ∃ D : DataW Unit, w.ownsMap P k (plainElem P e) b n D ∧ ∀ key kl, keyOf P k key = some kl → D.atKey kl (.lit (li z)) = .lit (li (f key))
section
variable {α : Type} {en : α → Value} {li : α → Lit} {z : α} {P : Program} {w w' : World} {k e : TypeId} {b n : Nat} {f : Value → α}
theorem MapTo.made (en : α → Value) (li : α → Lit) (z : α) (P : Program) (w : World) (k e : TypeId) : MapTo en li z P (w.alloc (.map #[] 0)) k e w.heap.size 0 (fun _ => z) :=
  ⟨.map [], World.ownsMap_made w P k _, fun key kl _ => rfl⟩
theorem MapTo.lt (h : MapTo en li z P w k e b n f) : b < w.heap.size := by
  obtain ⟨D, h1, _⟩ := h
  exact h1.lt
theorem MapTo.kept {row : Option Nat} (h : MapTo en li z P w k e b n f) (hg : w.grownBy w' row) (hne : some b ≠ row) : MapTo en li z P w' k e b n f := by
  obtain ⟨D, h1, h2⟩ := h
  exact ⟨D, h1.kept hg hne, h2⟩
theorem MapTo.up (h : MapTo en li z P w k e b n f) (hb : Below w.heap.size w w') : MapTo en li z P w' k e b n f := h.kept (grown_of_below hb) (by simp)
theorem MapTo.alloc (h : MapTo en li z P w k e b n f) (o : Obj) : MapTo en li z P (w.alloc o) k e b n f := h.up ((Below.refl _ _).alloc (Nat.le_refl _) o)
theorem MapTo.drew (h : MapTo en li z P w k e b n f) : MapTo en li z P w.drew k e b n f := h.up (Below.refl _ _).drew
theorem MapTo.look {t : TypeId} (h : MapTo en li z P w k e b n f) (K : Keyed P k) (ht : P.underlying t = some (.map k e)) (hz : (zeroValue e).run P w = .ok (en z) w) (hzd : plainElem (H := Unit) P e (en z) = some (.lit (li z), [])) (hin : ∀ v x ps, plainElem (H := Unit) P e v = some (.lit (li x), ps) → v = en x)
    {key : Value} {kl : Lit} (hkey : keyOf P k key = some kl) : (Instr.lookup t (.map (some b)) key false).run P w = .ok (en (f key)) w := by
  obtain ⟨D, h1, h2⟩ := h
  obtain ⟨v, ps, hrun, hv⟩ := h1.lookup K ht hz hzd hkey
  rw [h2 key kl hkey] at hv
  rw [hrun, hin _ _ _ hv]
end
theorem MapTo.put {α : Type} {en : α → Value} {li : α → Lit} {z : α} {P : Program} {W : World} {t k e : TypeId} (K : Keyed P k) (ht : P.underlying t = some (.map k e)) {b n : Nat} {f : Value → α} (h : MapTo en li z P W k e b n f) (hn : n ≤ 16777216) {key : Value} {x : α}
    {kl : Lit} (hkey : keyOf P k key = some kl) (hpe : plainElem (H := Unit) P e (en x) = some (.lit (li x), [])) : ∃ w', (Instr.mapUpdate t (.map (some b)) key (en x)).run P W = .ok () w' ∧ (∀ g : Value → α, g key = x → (∀ q, q ≠ key → g q = f q) → MapTo en li z P w' k e b (n + 1) g) ∧ W.grownBy w' (some b) := by
  obtain ⟨D, h1, h2⟩ := h
  obtain ⟨w', hrun, hown, hg⟩ := h1.update K ht (by unfold maxLen; omega) hkey hpe
  refine ⟨w', hrun, fun g g1 g2 => ⟨_, hown, fun key' kl' hk' => ?_⟩, hg⟩
  by_cases ek : kl' = kl
  · subst ek
    have e1 : key' = key := K.inj hk' hkey
    subst e1
    rw [Maps.atKey_put_same h1.isMap (K.key hkey), g1]
  · have e1 : key' ≠ key := fun e2 => ek (by rw [e2, hkey] at hk'; injection hk' with hk'; exact hk'.symm)
    rw [Maps.atKey_put_other ek, g2 _ e1]
    exact h2 key' kl' hk'
theorem wp_map_put {α : Type} {en : α → Value} {li : α → Lit} {z : α} {P : Program} {o : Oper} {a : Act} {K' : Act → World → Prop} {Q : Exit → Act → World → Prop} {W : World} (M X V : Operand) (t : TypeId) (hop : o.op = Op.mapUpdate t M X V)
    {k e : TypeId} (K : Keyed P k) (ht : P.underlying t = some (.map k e)) {b n : Nat} {f : Value → α} (hm : a.eval M = .map (some b)) (h : MapTo en li z P W k e b n f) (hn : n ≤ 16777216) {key : Value} (hx : a.eval X = key) {x : α} (hv : a.eval V = en x)
    {kl : Lit} (hkey : keyOf P k key = some kl) (hpe : plainElem (H := Unit) P e (en x) = some (.lit (li x), [])) (hK : ∀ w', (∀ g : Value → α, g key = x → (∀ q, q ≠ key → g q = f q) → MapTo en li z P w' k e b (n + 1) g) → W.grownBy w' (some b) → K' (a.put o.dst undef) w') : o.wp P a W K' Q := by
  obtain ⟨w', hrun, r1, r2⟩ := h.put K ht hn hkey hpe
  unfold Oper.wp
  simp [execOp, hop, hm, hx, hv, hrun, Result.andThen]
  exact hK w' r1 r2
theorem wpList_map_put {α : Type} {en : α → Value} {li : α → Lit} {z : α} {P : Program} {ops : Array Oper} {rest : List Oper} {o : Oper} {a : Act} {Q : Exit → Act → World → Prop} {W : World} (hgd : o.guard = none) (M X V : Operand) (t : TypeId) (hop : o.op = Op.mapUpdate t M X V)
    {k e : TypeId} (K : Keyed P k) (ht : P.underlying t = some (.map k e)) {b n : Nat} {f : Value → α} (hm : a.eval M = .map (some b)) (h : MapTo en li z P W k e b n f) (hn : n ≤ 16777216) {key : Value} (hx : a.eval X = key) {x : α} (hv : a.eval V = en x)
    {kl : Lit} (hkey : keyOf P k key = some kl) (hpe : plainElem (H := Unit) P e (en x) = some (.lit (li x), [])) (hK : ∀ w', (∀ g : Value → α, g key = x → (∀ q, q ≠ key → g q = f q) → MapTo en li z P w' k e b (n + 1) g) → W.grownBy w' (some b) → wpList P ops Q rest (a.put o.dst undef) w') : wpList P ops Q (o :: rest) a W := by
  refine wpList_plain hgd fun K' hK' => wp_map_put M X V t hop K ht hm h hn hx hv hkey hpe fun w' r1 r2 => hK' _ _ (hK w' r1 r2)
theorem step_map_put {α : Type} {en : α → Value} {li : α → Lit} {z : α} {P : Program} {ops : Array Oper} {o : Oper} {a : Act} {K' : Act → World → Prop} {Q : Exit → Act → World → Prop} {E' : Prop} {W : World} (hgd : o.guard = none) (M X V : Operand) (t : TypeId) (hop : o.op = Op.mapUpdate t M X V)
    {k e : TypeId} (K : Keyed P k) (ht : P.underlying t = some (.map k e)) {b n : Nat} {f : Value → α} (hm : a.eval M = .map (some b)) (h : MapTo en li z P W k e b n f) (hn : n ≤ 16777216) {key : Value} (hx : a.eval X = key) {x : α} (hv : a.eval V = en x)
    {kl : Lit} (hkey : keyOf P k key = some kl) (hpe : plainElem (H := Unit) P e (en x) = some (.lit (li x), [])) (hK : ∀ w', (∀ g : Value → α, g key = x → (∀ q, q ≠ key → g q = f q) → MapTo en li z P w' k e b (n + 1) g) → W.grownBy w' (some b) → K' (a.put o.dst undef) w') :
    if Region.wanted o (yielded ops a.tmps) = true then Oper.wp P o a W K' Q else E' := by
  have hw : Region.wanted o (yielded ops a.tmps) = true := by simp [Region.wanted, hgd]
  rw [if_pos hw]
  exact wp_map_put M X V t hop K ht hm h hn hx hv hkey hpe hK
theorem wp_map_ins {α : Type} {en : α → Value} {li : α → Lit} {z : α} {P : Program} {o : Oper} {a : Act} {K' : Act → World → Prop} {Q : Exit → Act → World → Prop} {W : World} (M X V : Operand) (t : TypeId) (hop : o.op = Op.insert t M X V)
    {k e : TypeId} (K : Keyed P k) (ht : P.underlying t = some (.map k e)) {b n : Nat} {f : Value → α} (hm : a.eval M = .map (some b)) (h : MapTo en li z P W k e b n f) (hn : n ≤ 16777216) {key : Value} (hx : a.eval X = key) {x : α} (hv : a.eval V = en x)
    {kl : Lit} (hkey : keyOf P k key = some kl) (hpe : plainElem (H := Unit) P e (en x) = some (.lit (li x), [])) (hK : ∀ w', (∀ g : Value → α, g key = x → (∀ q, q ≠ key → g q = f q) → MapTo en li z P w' k e b (n + 1) g) → W.grownBy w' (some b) → K' (a.put o.dst undef) w') : o.wp P a W K' Q := by
  obtain ⟨w', hrun, r1, r2⟩ := h.put K ht hn hkey hpe
  unfold Oper.wp
  simp [execOp, hop, hm, hx, hv, hrun, Result.andThen]
  exact hK w' r1 r2
theorem step_map_ins {α : Type} {en : α → Value} {li : α → Lit} {z : α} {P : Program} {ops : Array Oper} {o : Oper} {a : Act} {K' : Act → World → Prop} {Q : Exit → Act → World → Prop} {E' : Prop} {W : World} (hgd : o.guard = none) (M X V : Operand) (t : TypeId) (hop : o.op = Op.insert t M X V)
    {k e : TypeId} (K : Keyed P k) (ht : P.underlying t = some (.map k e)) {b n : Nat} {f : Value → α} (hm : a.eval M = .map (some b)) (h : MapTo en li z P W k e b n f) (hn : n ≤ 16777216) {key : Value} (hx : a.eval X = key) {x : α} (hv : a.eval V = en x)
    {kl : Lit} (hkey : keyOf P k key = some kl) (hpe : plainElem (H := Unit) P e (en x) = some (.lit (li x), [])) (hK : ∀ w', (∀ g : Value → α, g key = x → (∀ q, q ≠ key → g q = f q) → MapTo en li z P w' k e b (n + 1) g) → W.grownBy w' (some b) → K' (a.put o.dst undef) w') :
    if Region.wanted o (yielded ops a.tmps) = true then Oper.wp P o a W K' Q else E' := by
  have hw : Region.wanted o (yielded ops a.tmps) = true := by simp [Region.wanted, hgd]
  rw [if_pos hw]
  exact wp_map_ins M X V t hop K ht hm h hn hx hv hkey hpe hK
/-- The bound on a map's size is the length of what it reads as. -/
theorem ownsMap_tight {H : Type} {P : Program} {w : World} {k : TypeId} {R : Value → Option (DataW H × List MemPlace)} {b n m : Nat} {l : List (Lit × DataW H)} (h : w.ownsMap P k R b n (.map l)) (hm : l.length ≤ m) : w.ownsMap P k R b m (.map l) := by
  obtain ⟨es, clock, hb, F, hs, hD⟩ := h
  refine ⟨es, clock, hb, F, ?_, hD⟩
  injection hD with hD
  have e1 := congrArg List.length hD
  rw [length_sorted] at e1
  simp at e1
  omega
/-- The world behind 'm[key] = v'. -/
def putW (P : Program) (t : TypeId) (b : Nat) (key v : Value) (u : World) : World :=
  match (Instr.mapUpdate t (.map (some b)) key v).run P u with
  | .ok _ w' => w'
  | _ => u
theorem putW_eq {P : Program} {t : TypeId} {b : Nat} {key v : Value} {u w' : World} (h : (Instr.mapUpdate t (.map (some b)) key v).run P u = .ok () w') : putW P t b key v u = w' := by
  rw [putW, h]
/-! strings -/
def sLi (s : ByteArray) : Lit := .string s.data.toList
theorem ba_ext {s t : ByteArray} (h : s.data.toList = t.data.toList) : s = t := by
  cases s; cases t
  simp only [ByteArray.mk.injEq]
  exact Array.ext' h
theorem sLi_pe {P : Program} {e : TypeId} (he : P.underlying e = some .string) {s : ByteArray} (hs : s.size ≤ 16777216) : plainElem (H := Unit) P e (.string s) = some (.lit (sLi s), []) := plainElem_string he (by unfold maxLen; omega)
theorem sLi_in {P : Program} {e : TypeId} (he : P.underlying e = some .string) (v : Value) (x : ByteArray) (ps : List MemPlace) (h : plainElem (H := Unit) P e v = some (.lit (sLi x), ps)) : v = .string x := by
  obtain ⟨s, rfl, hz, _⟩ := plainElem_string_inv he h
  simp only [Prod.mk.injEq, DataW.lit.injEq, sLi, Lit.string.injEq] at hz
  rw [ba_ext hz.1]
/-! ints -/
theorem lit_i64 {x : Int} (h : I64 x) : (Lit.int .i64 x).wf = true := by
  simp only [Lit.wf, Bool.and_eq_true, decide_eq_true_eq]
  exact h
def iLi (i : Int) : Lit := .int .i64 i
theorem iLi_pe {P : Program} {e : TypeId} (he : P.underlying e = some (.int .i64)) {i : Int} (hi : I64 i) : plainElem (H := Unit) P e (.int .i64 i) = some (.lit (iLi i), []) := plainElem_int he (lit_i64 hi)
theorem iLi_in {P : Program} {e : TypeId} (he : P.underlying e = some (.int .i64)) (v : Value) (x : Int) (ps : List MemPlace) (h : plainElem (H := Unit) P e v = some (.lit (iLi x), ps)) : v = .int .i64 x := by
  obtain ⟨s, rfl, hz, _⟩ := plainElem_int_inv he h
  simp only [Prod.mk.injEq, DataW.lit.injEq, iLi, Lit.int.injEq] at hz
  rw [hz.1.2]
end Go.Proofs.Ytmdmnjjlpefigaa
/- The walks through touches: good ones and their heads, both sides. -/
namespace Go.Proofs.Ytmdmnjjlpefigaa
set_option linter.unusedVariables false
set_option linter.unusedSimpArgs false
open Go.ChangeShapes Go.WideShapes Go.ChangeAt Go.RowKit Go.Deep
theorem letter_one {t : ByteArray} {k : Nat} (h : k < t.size) : letter t k = strOfNums [PlainAid.bt t k] := one_byte h
theorem letter_p {t : ByteArray} {k : Nat} (h : k < t.size) (e : PlainAid.bt t k = 112) : letter t k = ⟨#[112]⟩ := by rw [letter_one h, e]; rfl
theorem letter_b {t : ByteArray} {k : Nat} (h : k < t.size) (e : PlainAid.bt t k = 98) : letter t k = ⟨#[98]⟩ := by rw [letter_one h, e]; rfl
theorem letter_s {t : ByteArray} {k : Nat} (h : k < t.size) (e : PlainAid.bt t k = 115) : letter t k = ⟨#[115]⟩ := by rw [letter_one h, e]; rfl
theorem is_one {c : ByteArray} {x : UInt8} (h : (c.toList == [x]) = true) : c = ⟨#[x]⟩ := by
  have h1 : c.toList = [x] := by simpa using h
  have h2 : c.data.toList = [x] := by rw [← ByteArray.toList_eq]; exact h1
  exact ba_ext (t := ⟨#[x]⟩) h2
theorem isCl_letter {t : ByteArray} {k : Nat} (h : k < t.size) : isCl (letter t k) = callB t k := by
  have nn := PlainAid.bt_nonneg t k; have nl := PlainAid.bt_le t k
  by_cases e1 : PlainAid.bt t k = 112
  · rw [letter_p h e1, show callB t k = true from by simp [callB, e1]]; decide +kernel
  by_cases e2 : PlainAid.bt t k = 98
  · rw [letter_b h e2, show callB t k = true from by simp [callB, e2]]; decide +kernel
  by_cases e3 : PlainAid.bt t k = 115
  · rw [letter_s h e3, show callB t k = true from by simp [callB, e3]]; decide +kernel
  have hb : callB t k = false := by simp [callB, e1, e2, e3]
  rw [hb]
  have key : ∀ x : UInt8, (PlainAid.bt t k ≠ x.toNat) → ((letter t k).toList == [x]) = false := by
    intro x hx
    rcases hq : ((letter t k).toList == [x])
    · rfl
    · exfalso
      have e4 := is_one hq
      rw [letter_one h] at e4
      have e5 := congrArg nums e4
      rw [nums_strOf (by intro y hy; simp at hy; subst hy; omega)] at e5
      apply hx
      have e6 : nums ⟨#[x]⟩ = [(x.toNat : Int)] := by rfl
      rw [e6] at e5
      injection e5
  rw [isCl, isP, isB, isS, key 112 e1, key 98 e2, key 115 e3]
  rfl
set_option maxRecDepth 100000 in
theorem impl_areCalls {t : ByteArray} {w : World} (hz : t.size ≤ 16777216) :
    Calls Try.prog 170 #[.string t] w fun e w' => e = .returned (.bool ((List.range t.size).all (callB t))) ∧ w = w' := by
  have gb := PlainAid.get_bt t
  go_in
  go_wp2
  go_loopw [6] (fun i wr => ∃ k : Nat, k ≤ t.size ∧ i = .int .i64 k ∧ Hid (∀ j, j < k → callB t j = true) ∧ w = wr) (fun i _ => t.size - (intOf i).toNat)
  case atStart => exact ⟨0, Nat.zero_le _, rfl, Lib.hid (fun j hj => absurd hj (by omega)), rfl⟩
  case round =>
    obtain ⟨k, hk, rfl, HK, rfl⟩ := hrel
    by_cases hlt : k < t.size
    · go_wp2_with fail
      refine (impl_isCall (s := letter t k)).mono ?_; rintro e w' ⟨rfl, rfl⟩
      have E := Lib.hid (isCl_letter hlt)
      rcases hg : isCl (letter t k)
      · have e1 := Lib.hid (show (List.range t.size).all (callB t) = false by rw [List.all_eq_false]; exact ⟨k, List.mem_range.2 hlt, by rw [← E.out, hg]; simp⟩)
        go_wp2
        go_ret
        rw [e1.out]
        exact ⟨rfl, rfl⟩
      · have e1 := Lib.hid (show callB t k = true by rw [← E.out, hg])
        go_wp2
        go_roundw
        case rel => exact ⟨k + 1, by omega, by go_num, Lib.hid (upto_succ HK.out e1.out), trivial⟩
        case measure => simp [intOf]; omega
    · obtain rfl : k = t.size := by omega
      have e1 := Lib.hid (show (List.range t.size).all (callB t) = true by rw [List.all_eq_true]; exact fun j hj => HK.out j (List.mem_range.1 hj))
      go_wp2
      go_ret
      rw [e1.out]
      exact ⟨rfl, rfl⟩
theorem impl_GoodTouch {t : ByteArray} {w : World} (hz : t.size ≤ 16777216) :
    Calls Try.prog 127 #[.string t] w fun e w' => e = .returned (.bool (goodT t)) ∧ w = w' := by
  have HQ : Hid (goodT t = ((List.range t.size).all (callB t) && inB t.size 1 60)) := Lib.hid rfl
  by_cases h1 : t.size < 1
  · have hI : ¬ (1 : Int) ≤ (t.size : Int) := by omega
    have e1 := Lib.hid (show goodT t = false by rw [HQ.out, inB, decide_eq_false (by omega), Bool.and_false])
    go_in
    go_wp2
    go_ret
    rw [e1.out]
    exact ⟨rfl, rfl⟩
  · by_cases h2 : 60 < t.size
    · have hI : (1 : Int) ≤ (t.size : Int) := by omega
      have hJ : ¬ (t.size : Int) ≤ 60 := by omega
      have e1 := Lib.hid (show goodT t = false by rw [HQ.out, inB, decide_eq_false (by omega), Bool.and_false])
      go_in
      go_wp2
      go_ret
      rw [e1.out]
      exact ⟨rfl, rfl⟩
    · have hI : (1 : Int) ≤ (t.size : Int) := by omega
      have hJ : (t.size : Int) ≤ 60 := by omega
      have e1 := Lib.hid (show goodT t = (List.range t.size).all (callB t) by rw [HQ.out, inB, decide_eq_true (by omega), Bool.and_true])
      go_in
      go_wp2_with fail
      refine (impl_areCalls hz).mono ?_; rintro e w' ⟨rfl, rfl⟩
      go_wp2
      go_ret
      rw [e1.out]
      exact ⟨rfl, rfl⟩
set_option maxHeartbeats 1000000 in
theorem impl_goodFor {A : Option Addr} {n c : Nat} {nm : ByteArray} {st : Int} {l : List ByteArray} {kb ks : ByteArray} {t : ByteArray} {w : World} (hn : l.length = n) (h : Strs w A l) (hz : n ≤ 1048576) (hs : ∀ s ∈ l, s.size ≤ 16777216) (hnm : nm.size ≤ 16777216) (hst : I64 st) (hkb : kb.size ≤ 16777216) (hks : ks.size ≤ 16777216) (ht : t.size ≤ 16777216) :
    Calls Try.prog 81 #[.agg #[.string nm, .int .i64 st, .slice A n c], .agg #[.string kb, .string ks], .string t] w fun e w' => e = .returned (.bool (goodF nm st l kb ks t)) ∧ Below w.heap.size w w' := by
  have HQ : Hid (goodF nm st l kb ks t = (goodK nm st l kb ks && goodT t)) := Lib.hid rfl
  have b0 : Below w.heap.size w ((w.alloc (.cells ⟨[.string nm, .int .i64 st, .slice A n c]⟩ 42)).alloc (.cells ⟨[.string kb, .string ks]⟩ 44)) := by (repeat' (first | (with_reducible exact Below.refl _ _) | (with_reducible assumption) | (with_reducible refine below_drewN ?_ _) | (with_reducible refine Below.drew ?_) | (with_reducible refine below_alloc ?_ _) | (with_reducible refine Below.alloc ?_ ?_ _) | (with_reducible refine Below.setCell ?_ ?_ _) | (with_reducible refine below_go ?_ (by with_reducible assumption)) | (with_reducible refine below_then (by with_reducible assumption) ?_ ?_) | go_size))
  go_in
  go_wp2_with fail
  refine (impl_GoodCalls hn (h.up b0) hz hs hnm hst hkb hks).mono ?_; rintro e w1 ⟨rfl, hb1⟩
  rcases h1 : goodK nm st l kb ks
  · have e1 := Lib.hid (show goodF nm st l kb ks t = false by rw [HQ.out, h1]; rfl)
    go_wp2
    go_ret
    rw [e1.out]
    exact ⟨rfl, below_go b0 hb1⟩
  · have e1 := Lib.hid (show goodF nm st l kb ks t = goodT t by rw [HQ.out, h1]; rfl)
    go_wp2_with fail
    refine (impl_GoodTouch ht).mono ?_; rintro e w' ⟨rfl, rfl⟩
    go_wp2
    go_ret
    rw [e1.out]
    exact ⟨rfl, below_go b0 hb1⟩
set_option maxRecDepth 100000 in
theorem spec_l9Good {t : ByteArray} {w : World} (hz : t.size ≤ 16777216) :
    Calls Try.prog 126 #[.string t] w fun e w' => e = .returned (.bool (goodT t)) ∧ w = w' := by
  have gb := PlainAid.get_bt t
  have HQ : Hid (goodT t = ((List.range t.size).all (callB t) && inB t.size 1 60)) := Lib.hid rfl
  go_in
  go_wp2
  go_loopw [3] (fun i wr => ∃ k : Nat, k ≤ t.size ∧ i = .int .i64 k ∧ Hid (∀ j, j < k → callB t j = true) ∧ w = wr) (fun i _ => t.size - (intOf i).toNat)
  case atStart => exact ⟨0, Nat.zero_le _, rfl, Lib.hid (fun j hj => absurd hj (by omega)), rfl⟩
  case round =>
    obtain ⟨k, hk, rfl, HK, rfl⟩ := hrel
    by_cases hlt : k < t.size
    · go_wp2_with fail
      refine (spec_l8Call (s := letter t k)).mono ?_; rintro e w' ⟨rfl, rfl⟩
      have E := Lib.hid (isCl_letter hlt)
      rcases hg : isCl (letter t k)
      · have e1 := Lib.hid (show goodT t = false by
          rw [HQ.out, show (List.range t.size).all (callB t) = false from by rw [List.all_eq_false]; exact ⟨k, List.mem_range.2 hlt, by rw [← E.out, hg]; simp⟩, Bool.false_and])
        go_wp2
        go_ret
        rw [e1.out]
        exact ⟨rfl, rfl⟩
      · have e1 := Lib.hid (show callB t k = true by rw [← E.out, hg])
        go_wp2
        go_roundw
        case rel => exact ⟨k + 1, by omega, by go_num, Lib.hid (upto_succ HK.out e1.out), trivial⟩
        case measure => simp [intOf]; omega
    · obtain rfl : k = t.size := by omega
      have e1 := Lib.hid (show goodT t = inB t.size 1 60 by rw [HQ.out, show (List.range t.size).all (callB t) = true from by rw [List.all_eq_true]; exact fun j hj => HK.out j (List.mem_range.1 hj), Bool.true_and])
      go_wp2_with fail
      refine (spec_l1In _ _ _ _).mono ?_; rintro e w' ⟨rfl, rfl⟩
      go_wp2
      go_ret
      rw [e1.out]
      exact ⟨rfl, rfl⟩
theorem spec_GoodTouch {t : ByteArray} {w : World} (hz : t.size ≤ 16777216) :
    Calls Try.prog 80 #[.string t] w fun e w' => e = .returned (.bool (goodT t)) ∧ w = w' := by
  go_in
  go_wp2_with fail
  refine (spec_l9Good hz).mono ?_; rintro e w' ⟨rfl, rfl⟩
  go_wp2
  go_ret
  exact ⟨rfl, rfl⟩
end Go.Proofs.Ytmdmnjjlpefigaa
/- The form of a proof, both sides. -/
namespace Go.Proofs.Ytmdmnjjlpefigaa
set_option linter.unusedVariables false
set_option linter.unusedSimpArgs false
open Go.ChangeShapes Go.WideShapes Go.ChangeAt Go.RowKit Go.Deep
def digB (s : ByteArray) (k : Nat) : Bool := inB (PlainAid.bt s k) 48 57
def digOk (s : ByteArray) : Bool := (List.range s.size).all (digB s) && inB s.size 1 8
def goodLn (x : Line3) : Bool := digOk x.1 && (inB x.2.1 0 60 && inB x.2.2 0 40)
def goodPf (lH : List ByteArray) (lL : List Line3) : Bool := (decide (lH.length ≤ 61) && decide (lL.length ≤ 800)) && (lH.all digOk && lL.all goodLn)
theorem digB_eq (s : ByteArray) (k : Nat) : digB s k = (!decide (PlainAid.bt s k < 48) && !decide (57 < PlainAid.bt s k)) := by
  rw [digB, inB, Bool.eq_iff_iff]
  simp
theorem allIdx {α : Type} {l : List α} {f : α → Bool} (h : ∀ j, j < l.length → ∀ x, l[j]? = some x → f x = true) : l.all f = true := by
  rw [List.all_eq_true]
  intro x hx
  obtain ⟨j, hj⟩ := List.getElem?_of_mem hx
  exact h j (List.getElem?_eq_some_iff.1 hj).1 x hj
theorem allNot {α : Type} {l : List α} {f : α → Bool} {j : Nat} {x : α} (hx : l[j]? = some x) (h : f x = false) : l.all f = false := by
  rw [List.all_eq_false]
  exact ⟨x, List.mem_of_getElem? hx, by rw [h]; simp⟩
theorem uptoIdx {α : Type} {l : List α} {f : α → Bool} {k : Nat} (h : ∀ j, j < k → ∀ x, l[j]? = some x → f x = true) {y : α} (hy : l[k]? = some y) (hf : f y = true) : ∀ j, j < k + 1 → ∀ x, l[j]? = some x → f x = true := by
  intro j hj x hx
  by_cases e : j = k
  · subst e
    rw [hy] at hx
    injection hx with hx
    subst hx
    exact hf
  · exact h j (by omega) x hx
set_option maxRecDepth 100000 in
theorem impl_areDigits {s : ByteArray} {w : World} (hz : s.size ≤ 16777216) :
    Calls Try.prog 144 #[.string s] w fun e w' => e = .returned (.bool (digOk s)) ∧ w = w' := by
  have gb := PlainAid.get_bt s
  have HN : Hid (digOk s = ((List.range s.size).all (digB s) && inB s.size 1 8)) := Lib.hid rfl
  go_in
  go_wp2
  go_loopw [6] (fun i wr => ∃ k : Nat, k ≤ s.size ∧ i = .int .i64 k ∧ Hid (∀ j, j < k → digB s j = true) ∧ w = wr) (fun i _ => s.size - (intOf i).toNat)
  case atStart => exact ⟨0, Nat.zero_le _, rfl, Lib.hid (fun j hj => absurd hj (by omega)), rfl⟩
  case round =>
    obtain ⟨k, hk, rfl, HK, rfl⟩ := hrel
    by_cases hlt : k < s.size
    · by_cases h1 : PlainAid.bt s k < 48
      · have e1 := Lib.hid (show digOk s = false by rw [HN.out]; exact all_bad hlt (by rw [digB_eq, decide_eq_true h1]; rfl) _)
        go_wp2
        go_ret
        rw [e1.out]
        exact ⟨rfl, rfl⟩
      · by_cases h2 : 57 < PlainAid.bt s k
        · have e1 := Lib.hid (show digOk s = false by rw [HN.out]; exact all_bad hlt (by rw [digB_eq, decide_eq_true h2, decide_eq_false h1]; rfl) _)
          go_wp2
          go_ret
          rw [e1.out]
          exact ⟨rfl, rfl⟩
        · have e1 := Lib.hid (show digB s k = true by rw [digB_eq, decide_eq_false h2, decide_eq_false h1]; rfl)
          go_wp2
          go_roundw
          case rel => exact ⟨k + 1, by omega, by go_num, Lib.hid (upto_succ HK.out e1.out), trivial⟩
          case measure => simp [intOf]; omega
    · obtain rfl : k = s.size := by omega
      have e1 := Lib.hid (show digOk s = inB s.size 1 8 by rw [HN.out]; exact all_good (fun j hj => HK.out j hj) _)
      go_wp2_with fail
      refine (impl_within _ _ _ _).mono ?_; rintro e w' ⟨rfl, rfl⟩
      go_wp2
      go_ret
      exact ⟨ret_bool e1.out.symm, rfl⟩
set_option maxRecDepth 100000 in
theorem spec_l20Digits {s : ByteArray} {w : World} (hz : s.size ≤ 16777216) :
    Calls Try.prog 139 #[.string s] w fun e w' => e = .returned (.bool (digOk s)) ∧ w = w' := by
  have gb := PlainAid.get_bt s
  have HN : Hid (digOk s = ((List.range s.size).all (digB s) && inB s.size 1 8)) := Lib.hid rfl
  go_in
  go_wp2
  go_loopw [3] (fun i wr => ∃ k : Nat, k ≤ s.size ∧ i = .int .i64 k ∧ Hid (∀ j, j < k → digB s j = true) ∧ w = wr) (fun i _ => s.size - (intOf i).toNat)
  case atStart => exact ⟨0, Nat.zero_le _, rfl, Lib.hid (fun j hj => absurd hj (by omega)), rfl⟩
  case round =>
    obtain ⟨k, hk, rfl, HK, rfl⟩ := hrel
    by_cases hlt : k < s.size
    · by_cases h1 : PlainAid.bt s k < 48
      · have e1 := Lib.hid (show digOk s = false by rw [HN.out]; exact all_bad hlt (by rw [digB_eq, decide_eq_true h1]; rfl) _)
        go_wp2
        go_ret
        rw [e1.out]
        exact ⟨rfl, rfl⟩
      · by_cases h2 : 57 < PlainAid.bt s k
        · have e1 := Lib.hid (show digOk s = false by rw [HN.out]; exact all_bad hlt (by rw [digB_eq, decide_eq_true h2, decide_eq_false h1]; rfl) _)
          go_wp2
          go_ret
          rw [e1.out]
          exact ⟨rfl, rfl⟩
        · have e1 := Lib.hid (show digB s k = true by rw [digB_eq, decide_eq_false h2, decide_eq_false h1]; rfl)
          go_wp2
          go_roundw
          case rel => exact ⟨k + 1, by omega, by go_num, Lib.hid (upto_succ HK.out e1.out), trivial⟩
          case measure => simp [intOf]; omega
    · obtain rfl : k = s.size := by omega
      have e1 := Lib.hid (show digOk s = inB s.size 1 8 by rw [HN.out]; exact all_good (fun j hj => HK.out j hj) _)
      go_wp2_with fail
      refine (spec_l1In _ _ _ _).mono ?_; rintro e w' ⟨rfl, rfl⟩
      go_wp2
      go_ret
      exact ⟨ret_bool e1.out.symm, rfl⟩
set_option maxHeartbeats 2000000 in
set_option maxRecDepth 100000 in
theorem impl_goodProof {AH : Option Addr} {nH cH : Nat} {lH : List ByteArray} {AL : Option Addr} {nL cL : Nat} {lL : List Line3} {w : World} (hnH : lH.length = nH) (hH : Strs w AH lH) (hnL : lL.length = nL) (hL : Recs lineE 3 w AL lL) (hzH : nH ≤ 1048576) (hzL : nL ≤ 1048576) (hsH : ∀ s ∈ lH, s.size ≤ 16777216) (hsL : ∀ x ∈ lL, x.1.size ≤ 16777216) :
    Calls Try.prog 97 #[.agg #[.slice AH nH cH, .slice AL nL cL]] w fun e w' => e = .returned (.bool (goodPf lH lL)) ∧ Below w.heap.size w w' := by
  have HQ : Hid (goodPf lH lL = ((decide (lH.length ≤ 61) && decide (lL.length ≤ 800)) && (lH.all digOk && lL.all goodLn))) := Lib.hid rfl
  have b0 : Below w.heap.size w (w.alloc (.cells ⟨[.slice AH nH cH, .slice AL nL cL]⟩ 71)) := by (repeat' (first | (with_reducible exact Below.refl _ _) | (with_reducible assumption) | (with_reducible refine below_drewN ?_ _) | (with_reducible refine Below.drew ?_) | (with_reducible refine below_alloc ?_ _) | (with_reducible refine Below.alloc ?_ ?_ _) | (with_reducible refine Below.setCell ?_ ?_ _) | (with_reducible refine below_go ?_ (by with_reducible assumption)) | (with_reducible refine below_then (by with_reducible assumption) ?_ ?_) | go_size))
  have K0 := Blk.at_ w 71 [.slice AH nH cH, .slice AL nL cL] (b := w.heap.size) rfl
  have HS := Lib.hid hsH
  have HT := Lib.hid hsL
  have HN := Lib.hid hnH
  have HM := Lib.hid hnL
  clear hsH hsL hnH hnL
  by_cases h1 : nH ≤ 61
  rotate_left
  · have e1 := Lib.hid (show goodPf lH lL = false by rw [HQ.out, HN.out, decide_eq_false h1]; rfl)
    have hI : (61 : Int) < (nH : Int) := by omega
    go_in
    go_wp2
    go_ret
    rw [e1.out]
    exact ⟨rfl, b0⟩
  by_cases h2 : nL ≤ 800
  rotate_left
  · have e1 := Lib.hid (show goodPf lH lL = false by rw [HQ.out, HM.out, decide_eq_false h2, Bool.and_false]; rfl)
    have hI : ¬ (61 : Int) < (nH : Int) := by omega
    have hJ : (800 : Int) < (nL : Int) := by omega
    go_in
    go_wp2
    go_ret
    rw [e1.out]
    exact ⟨rfl, b0⟩
  have hI : ¬ (61 : Int) < (nH : Int) := by omega
  have hJ : ¬ (800 : Int) < (nL : Int) := by omega
  have HW := Lib.hid (show (decide (lH.length ≤ 61) && decide (lL.length ≤ 800)) = true by rw [HN.out, HM.out, decide_eq_true h1, decide_eq_true h2]; rfl)
  go_in
  go_wp2
  obtain ⟨w0, hw0⟩ : ∃ u, u = (w.alloc (.cells #[.slice AH nH cH, .slice AL nL cL] 71)) := ⟨_, rfl⟩
  rw [← hw0] at b0 K0 ⊢
  clear hw0
  have H0 := Lib.hid (hH.up b0)
  have L0 := Lib.hid (hL.up b0)
  have k0 := K0.cell 0; have k1 := K0.cell 1
  simp only [List.getElem?_cons_zero, List.getElem?_cons_succ] at k0 k1
  clear hH hL K0
  go_loopw [20] (fun i wr => ∃ k : Nat, k ≤ nH ∧ i = .int .i64 k ∧ Hid (∀ j, j < k → ∀ x, lH[j]? = some x → digOk x = true) ∧ w0 = wr) (fun i _ => nH - (intOf i).toNat)
  case atStart => exact ⟨0, Nat.zero_le _, rfl, Lib.hid (fun j hj => absurd hj (by omega)), rfl⟩
  case round =>
    obtain ⟨k, hk, rfl, HK, rfl⟩ := hrel
    by_cases hlt : k < nH
    · obtain ⟨b1, o1, y, rfl, _, hy, hcy⟩ := H0.out.at_str (k := k) (by rw [HN.out]; exact hlt)
      have hys := HS.out y (List.mem_of_getElem? hy)
      have HY := Lib.hid hy
      clear hy
      go_wp2_with fail
      refine (impl_areDigits hys).mono ?_; rintro e w' ⟨rfl, rfl⟩
      rcases hg : digOk y
      · have e1 := Lib.hid (show goodPf lH lL = false by rw [HQ.out, allNot HY.out hg, Bool.false_and, Bool.and_false])
        go_wp2
        go_ret
        rw [e1.out]
        exact ⟨rfl, b0⟩
      · have e1 := Lib.hid hg
        clear hg
        go_wp2
        go_roundw
        case rel => exact ⟨k + 1, by omega, by go_num, Lib.hid (uptoIdx HK.out HY.out e1.out), trivial⟩
        case measure => simp [intOf]; omega
    · obtain rfl : nH = k := by omega
      have eH := Lib.hid (show lH.all digOk = true from allIdx (fun j hj => HK.out j (by rw [← HN.out]; exact hj)))
      clear HK
      go_wp2
      go_loopw [31] (fun i wr => ∃ k : Nat, k ≤ nL ∧ i = .int .i64 k ∧ Hid (∀ j, j < k → ∀ x, lL[j]? = some x → goodLn x = true) ∧ Below w0.heap.size w0 wr) (fun i _ => nL - (intOf i).toNat)
      case atStart => exact ⟨0, Nat.zero_le _, rfl, Lib.hid (fun j hj => absurd hj (by omega)), Below.refl _ _⟩
      case round =>
        obtain ⟨k, hk, rfl, HK, hb⟩ := hrel
        by_cases hlt : k < nL
        · obtain ⟨x, hx⟩ := some_of_lt (l := lL) (k := k) (by rw [HM.out]; exact hlt)
          obtain ⟨b1, o1, rfl, hbb, hc1, hc2, hc3⟩ := (L0.out.below hb (Nat.le_refl _)).at_3 hx
          have hxs := HT.out x (List.mem_of_getElem? hx)
          have HX := Lib.hid hx
          have HB := Lib.hid hb
          have HE : Hid (goodLn x = (digOk x.1 && (inB x.2.1 0 60 && inB x.2.2 0 40))) := Lib.hid rfl
          clear hx
          rcases i1 : digOk x.1
          · have e1 := Lib.hid (show goodPf lH lL = false by rw [HQ.out, allNot HX.out (show goodLn x = false by rw [HE.out, i1, Bool.false_and]), Bool.and_false, Bool.and_false])
            go_wp2_with (first | (go_at_call 144; refine (impl_areDigits hxs).mono ?_; rw [i1]; rintro e w' ⟨rfl, rfl⟩))
            go_ret
            rw [e1.out]
            exact ⟨rfl, by (repeat' (first | (with_reducible exact Below.refl _ _) | (with_reducible assumption) | (with_reducible refine below_drewN ?_ _) | (with_reducible refine Below.drew ?_) | (with_reducible refine below_alloc ?_ _) | (with_reducible refine Below.alloc ?_ ?_ _) | (with_reducible refine Below.setCell ?_ ?_ _) | (with_reducible refine below_go ?_ (by with_reducible assumption)) | (with_reducible refine below_then (by with_reducible assumption) ?_ ?_) | go_size))⟩
          rcases i2 : inB x.2.1 0 60
          · have e1 := Lib.hid (show goodPf lH lL = false by rw [HQ.out, allNot HX.out (show goodLn x = false by rw [HE.out, i1, i2]; rfl), Bool.and_false, Bool.and_false])
            go_wp2_with (first | (go_at_call 144; refine (impl_areDigits hxs).mono ?_; rw [i1]; rintro e w' ⟨rfl, rfl⟩) | (go_at_call 73; refine (impl_within _ _ _ _).mono ?_; rw [i2]; rintro e w' ⟨rfl, rfl⟩))
            go_ret
            rw [e1.out]
            exact ⟨rfl, by (repeat' (first | (with_reducible exact Below.refl _ _) | (with_reducible assumption) | (with_reducible refine below_drewN ?_ _) | (with_reducible refine Below.drew ?_) | (with_reducible refine below_alloc ?_ _) | (with_reducible refine Below.alloc ?_ ?_ _) | (with_reducible refine Below.setCell ?_ ?_ _) | (with_reducible refine below_go ?_ (by with_reducible assumption)) | (with_reducible refine below_then (by with_reducible assumption) ?_ ?_) | go_size))⟩
          rcases i3 : inB x.2.2 0 40
          · have e1 := Lib.hid (show goodPf lH lL = false by rw [HQ.out, allNot HX.out (show goodLn x = false by rw [HE.out, i1, i2, i3]; rfl), Bool.and_false, Bool.and_false])
            go_wp2_with (first | (go_at_call 144; refine (impl_areDigits hxs).mono ?_; rw [i1]; rintro e w' ⟨rfl, rfl⟩) | (go_at_call 73; refine (impl_within _ _ _ _).mono ?_; (first | rw [i3] | rw [i2]); rintro e w' ⟨rfl, rfl⟩))
            go_ret
            rw [e1.out]
            exact ⟨rfl, by (repeat' (first | (with_reducible exact Below.refl _ _) | (with_reducible assumption) | (with_reducible refine below_drewN ?_ _) | (with_reducible refine Below.drew ?_) | (with_reducible refine below_alloc ?_ _) | (with_reducible refine Below.alloc ?_ ?_ _) | (with_reducible refine Below.setCell ?_ ?_ _) | (with_reducible refine below_go ?_ (by with_reducible assumption)) | (with_reducible refine below_then (by with_reducible assumption) ?_ ?_) | go_size))⟩
          have e1 := Lib.hid (show goodLn x = true by rw [HE.out, i1, i2, i3]; rfl)
          go_wp2_with (first | (go_at_call 144; refine (impl_areDigits hxs).mono ?_; rw [i1]; rintro e w' ⟨rfl, rfl⟩) | (go_at_call 73; refine (impl_within _ _ _ _).mono ?_; (first | rw [i3] | rw [i2]); rintro e w' ⟨rfl, rfl⟩))
          go_roundw
          case rel => exact ⟨k + 1, by omega, by go_num, Lib.hid (uptoIdx HK.out HX.out e1.out), by (repeat' (first | (with_reducible exact Below.refl _ _) | (with_reducible assumption) | (with_reducible refine below_drewN ?_ _) | (with_reducible refine Below.drew ?_) | (with_reducible refine below_alloc ?_ _) | (with_reducible refine Below.alloc ?_ ?_ _) | (with_reducible refine Below.setCell ?_ ?_ _) | (with_reducible refine below_go ?_ (by with_reducible assumption)) | (with_reducible refine below_then (by with_reducible assumption) ?_ ?_) | go_size))⟩
          case measure => simp [intOf]; omega
        · obtain rfl : nL = k := by omega
          have eL := Lib.hid (show lL.all goodLn = true from allIdx (fun j hj => HK.out j (by rw [← HM.out]; exact hj)))
          have e1 := Lib.hid (show goodPf lH lL = true by rw [HQ.out, HW.out, eH.out, eL.out]; rfl)
          go_wp2
          go_ret
          rw [e1.out]
          exact ⟨rfl, below_go b0 hb⟩
set_option maxHeartbeats 2000000 in
set_option maxRecDepth 100000 in
theorem spec_l20Shape {AH : Option Addr} {nH cH : Nat} {lH : List ByteArray} {AL : Option Addr} {nL cL : Nat} {lL : List Line3} {w : World} (hnH : lH.length = nH) (hH : Strs w AH lH) (hnL : lL.length = nL) (hL : Recs lineE 3 w AL lL) (hzH : nH ≤ 1048576) (hzL : nL ≤ 1048576) (hsH : ∀ s ∈ lH, s.size ≤ 16777216) (hsL : ∀ x ∈ lL, x.1.size ≤ 16777216) :
    Calls Try.prog 93 #[.agg #[.slice AH nH cH, .slice AL nL cL]] w fun e w' => e = .returned (.bool (goodPf lH lL)) ∧ Below w.heap.size w w' := by
  have HQ : Hid (goodPf lH lL = ((decide (lH.length ≤ 61) && decide (lL.length ≤ 800)) && (lH.all digOk && lL.all goodLn))) := Lib.hid rfl
  have b0 : Below w.heap.size w (w.alloc (.cells ⟨[.slice AH nH cH, .slice AL nL cL]⟩ 71)) := by (repeat' (first | (with_reducible exact Below.refl _ _) | (with_reducible assumption) | (with_reducible refine below_drewN ?_ _) | (with_reducible refine Below.drew ?_) | (with_reducible refine below_alloc ?_ _) | (with_reducible refine Below.alloc ?_ ?_ _) | (with_reducible refine Below.setCell ?_ ?_ _) | (with_reducible refine below_go ?_ (by with_reducible assumption)) | (with_reducible refine below_then (by with_reducible assumption) ?_ ?_) | go_size))
  have K0 := Blk.at_ w 71 [.slice AH nH cH, .slice AL nL cL] (b := w.heap.size) rfl
  have HS := Lib.hid hsH
  have HT := Lib.hid hsL
  have HN := Lib.hid hnH
  have HM := Lib.hid hnL
  clear hsH hsL hnH hnL
  go_in
  go_wp2
  obtain ⟨w0, hw0⟩ : ∃ u, u = (w.alloc (.cells #[.slice AH nH cH, .slice AL nL cL] 71)) := ⟨_, rfl⟩
  rw [← hw0] at b0 K0 ⊢
  clear hw0
  have H0 := Lib.hid (hH.up b0)
  have L0 := Lib.hid (hL.up b0)
  have k0 := K0.cell 0; have k1 := K0.cell 1
  simp only [List.getElem?_cons_zero, List.getElem?_cons_succ] at k0 k1
  have KK := Lib.hid K0
  clear hH hL K0
  go_loopw [10] (fun i wr => ∃ k : Nat, k ≤ nH ∧ i = .int .i64 k ∧ Hid (∀ j, j < k → ∀ x, lH[j]? = some x → digOk x = true) ∧ w0 = wr) (fun i _ => nH - (intOf i).toNat)
  case atStart => exact ⟨0, Nat.zero_le _, rfl, Lib.hid (fun j hj => absurd hj (by omega)), rfl⟩
  case round =>
    obtain ⟨k, hk, rfl, HK, rfl⟩ := hrel
    by_cases hlt : k < nH
    · obtain ⟨b1, o1, y, rfl, _, hy, hcy⟩ := H0.out.at_str (k := k) (by rw [HN.out]; exact hlt)
      have hys := HS.out y (List.mem_of_getElem? hy)
      have HY := Lib.hid hy
      clear hy
      go_wp2_with fail
      refine (spec_l20Digits hys).mono ?_; rintro e w' ⟨rfl, rfl⟩
      rcases hg : digOk y
      · have e1 := Lib.hid (show goodPf lH lL = false by rw [HQ.out, allNot HY.out hg, Bool.false_and, Bool.and_false])
        go_wp2
        go_ret
        rw [e1.out]
        exact ⟨rfl, b0⟩
      · have e1 := Lib.hid hg
        clear hg
        go_wp2
        go_roundw
        case rel => exact ⟨k + 1, by omega, by go_num, Lib.hid (uptoIdx HK.out HY.out e1.out), trivial⟩
        case measure => simp [intOf]; omega
    · obtain rfl : nH = k := by omega
      have eH := Lib.hid (show lH.all digOk = true from allIdx (fun j hj => HK.out j (by rw [← HN.out]; exact hj)))
      clear HK
      go_wp2
      go_loopw [21] (fun i wr => ∃ k : Nat, k ≤ nL ∧ i = .int .i64 k ∧ Hid (∀ j, j < k → ∀ x, lL[j]? = some x → goodLn x = true) ∧ Below w0.heap.size w0 wr) (fun i _ => nL - (intOf i).toNat)
      case atStart => exact ⟨0, Nat.zero_le _, rfl, Lib.hid (fun j hj => absurd hj (by omega)), Below.refl _ _⟩
      case round =>
        obtain ⟨k, hk, rfl, HK, hb⟩ := hrel
        by_cases hlt : k < nL
        · obtain ⟨x, hx⟩ := some_of_lt (l := lL) (k := k) (by rw [HM.out]; exact hlt)
          obtain ⟨b1, o1, rfl, hbb, hc1, hc2, hc3⟩ := (L0.out.below hb (Nat.le_refl _)).at_3 hx
          have hxs := HT.out x (List.mem_of_getElem? hx)
          have HX := Lib.hid hx
          have HB := Lib.hid hb
          have HE : Hid (goodLn x = (digOk x.1 && (inB x.2.1 0 60 && inB x.2.2 0 40))) := Lib.hid rfl
          clear hx
          rcases i1 : digOk x.1
          · have e1 := Lib.hid (show goodPf lH lL = false by rw [HQ.out, allNot HX.out (show goodLn x = false by rw [HE.out, i1, Bool.false_and]), Bool.and_false, Bool.and_false])
            go_wp2_with (first | (go_at_call 139; refine (spec_l20Digits hxs).mono ?_; rw [i1]; rintro e w' ⟨rfl, rfl⟩))
            go_ret
            rw [e1.out]
            exact ⟨rfl, by (repeat' (first | (with_reducible exact Below.refl _ _) | (with_reducible assumption) | (with_reducible refine below_drewN ?_ _) | (with_reducible refine Below.drew ?_) | (with_reducible refine below_alloc ?_ _) | (with_reducible refine Below.alloc ?_ ?_ _) | (with_reducible refine Below.setCell ?_ ?_ _) | (with_reducible refine below_go ?_ (by with_reducible assumption)) | (with_reducible refine below_then (by with_reducible assumption) ?_ ?_) | go_size))⟩
          rcases i2 : inB x.2.1 0 60
          · have e1 := Lib.hid (show goodPf lH lL = false by rw [HQ.out, allNot HX.out (show goodLn x = false by rw [HE.out, i1, i2]; rfl), Bool.and_false, Bool.and_false])
            go_wp2_with (first | (go_at_call 139; refine (spec_l20Digits hxs).mono ?_; rw [i1]; rintro e w' ⟨rfl, rfl⟩) | (go_at_call 70; refine (spec_l1In _ _ _ _).mono ?_; rw [i2]; rintro e w' ⟨rfl, rfl⟩))
            go_ret
            rw [e1.out]
            exact ⟨rfl, by (repeat' (first | (with_reducible exact Below.refl _ _) | (with_reducible assumption) | (with_reducible refine below_drewN ?_ _) | (with_reducible refine Below.drew ?_) | (with_reducible refine below_alloc ?_ _) | (with_reducible refine Below.alloc ?_ ?_ _) | (with_reducible refine Below.setCell ?_ ?_ _) | (with_reducible refine below_go ?_ (by with_reducible assumption)) | (with_reducible refine below_then (by with_reducible assumption) ?_ ?_) | go_size))⟩
          rcases i3 : inB x.2.2 0 40
          · have e1 := Lib.hid (show goodPf lH lL = false by rw [HQ.out, allNot HX.out (show goodLn x = false by rw [HE.out, i1, i2, i3]; rfl), Bool.and_false, Bool.and_false])
            go_wp2_with (first | (go_at_call 139; refine (spec_l20Digits hxs).mono ?_; rw [i1]; rintro e w' ⟨rfl, rfl⟩) | (go_at_call 70; refine (spec_l1In _ _ _ _).mono ?_; (first | rw [i3] | rw [i2]); rintro e w' ⟨rfl, rfl⟩))
            go_ret
            rw [e1.out]
            exact ⟨rfl, by (repeat' (first | (with_reducible exact Below.refl _ _) | (with_reducible assumption) | (with_reducible refine below_drewN ?_ _) | (with_reducible refine Below.drew ?_) | (with_reducible refine below_alloc ?_ _) | (with_reducible refine Below.alloc ?_ ?_ _) | (with_reducible refine Below.setCell ?_ ?_ _) | (with_reducible refine below_go ?_ (by with_reducible assumption)) | (with_reducible refine below_then (by with_reducible assumption) ?_ ?_) | go_size))⟩
          have e1 := Lib.hid (show goodLn x = true by rw [HE.out, i1, i2, i3]; rfl)
          go_wp2_with (first | (go_at_call 139; refine (spec_l20Digits hxs).mono ?_; rw [i1]; rintro e w' ⟨rfl, rfl⟩) | (go_at_call 70; refine (spec_l1In _ _ _ _).mono ?_; (first | rw [i3] | rw [i2]); rintro e w' ⟨rfl, rfl⟩))
          go_roundw
          case rel => exact ⟨k + 1, by omega, by go_num, Lib.hid (uptoIdx HK.out HX.out e1.out), by (repeat' (first | (with_reducible exact Below.refl _ _) | (with_reducible assumption) | (with_reducible refine below_drewN ?_ _) | (with_reducible refine Below.drew ?_) | (with_reducible refine below_alloc ?_ _) | (with_reducible refine Below.alloc ?_ ?_ _) | (with_reducible refine Below.setCell ?_ ?_ _) | (with_reducible refine below_go ?_ (by with_reducible assumption)) | (with_reducible refine below_then (by with_reducible assumption) ?_ ?_) | go_size))⟩
          case measure => simp [intOf]; omega
        · obtain rfl : nL = k := by omega
          have eL := Lib.hid (show lL.all goodLn = true from allIdx (fun j hj => HK.out j (by rw [← HM.out]; exact hj)))
          have eC := Lib.hid (show goodPf lH lL = (decide (nH ≤ 61) && decide (nL ≤ 800)) by rw [HQ.out, eH.out, eL.out, HN.out, HM.out]; simp)
          have K0 := KK.out.up hb
          have c0 := K0.cell 0; have c1 := K0.cell 1
          simp only [List.getElem?_cons_zero, List.getElem?_cons_succ] at c0 c1
          by_cases h1 : nH ≤ 61
          · by_cases h2 : nL ≤ 800
            · have e1 := Lib.hid (show goodPf lH lL = true by rw [eC.out, decide_eq_true h1, decide_eq_true h2]; rfl)
              have hI : (nH : Int) ≤ 61 := by omega
              have hJ : (nL : Int) ≤ 800 := by omega
              go_wp2
              go_ret
              rw [e1.out]
              exact ⟨rfl, below_go b0 hb⟩
            · have e1 := Lib.hid (show goodPf lH lL = false by rw [eC.out, decide_eq_false h2, Bool.and_false])
              have hI : (nH : Int) ≤ 61 := by omega
              have hJ : ¬ (nL : Int) ≤ 800 := by omega
              go_wp2
              go_ret
              rw [e1.out]
              exact ⟨rfl, below_go b0 hb⟩
          · have e1 := Lib.hid (show goodPf lH lL = false by rw [eC.out, decide_eq_false h1, Bool.false_and])
            have hI : ¬ (nH : Int) ≤ 61 := by omega
            go_wp2
            go_ret
            rw [e1.out]
            exact ⟨rfl, below_go b0 hb⟩
end Go.Proofs.Ytmdmnjjlpefigaa
/- The walks through the heads of a touch, the program's side. -/
namespace Go.Proofs.Ytmdmnjjlpefigaa
set_option linter.unusedVariables false
set_option linter.unusedSimpArgs false
open Go.ChangeShapes Go.WideShapes Go.ChangeAt Go.RowKit Go.Deep
open Go.Maps (Keyed string_keyed int_keyed)
open Go.Maps (keyOf_int_mk)
theorem Below.step {w0 w w' : World} (C : Below w0.heap.size w0 w) (hb : Below w.heap.size w w') : Below w0.heap.size w0 w' := C.trans (hb.mono C.size)
/-- What a map from the three bytes reads as when some are laid. -/
def triL (p q r : Bool) (X Y Z : ByteArray) : List (Lit × DataW Unit) :=
  (if q = true then [(.int .u8 98, .lit (sLi Y))] else []) ++ ((if p = true then [(.int .u8 112, .lit (sLi X))] else []) ++ (if r = true then [(.int .u8 115, .lit (sLi Z))] else []))
theorem triL_len (p q r : Bool) (X Y Z : ByteArray) : (triL p q r X Y Z).length ≤ 3 := by cases p <;> cases q <;> cases r <;> simp [triL]
theorem triL_p (p q r : Bool) (X Y Z : ByteArray) : (DataW.map (triL p q r X Y Z)).put (.int .u8 112) (.lit (sLi X)) = .map (triL true q r X Y Z) := by cases p <;> cases q <;> cases r <;> rfl
theorem triL_q (p q r : Bool) (X Y Z : ByteArray) : (DataW.map (triL p q r X Y Z)).put (.int .u8 98) (.lit (sLi Y)) = .map (triL p true r X Y Z) := by cases p <;> cases q <;> cases r <;> rfl
theorem triL_r (p q r : Bool) (X Y Z : ByteArray) : (DataW.map (triL p q r X Y Z)).put (.int .u8 115) (.lit (sLi Z)) = .map (triL p q true X Y Z) := by cases p <;> cases q <;> cases r <;> rfl
/-- Block b, made behind w0, is such a map; nothing below w0's end has changed. -/
def Tri (P : Program) (X Y Z : ByteArray) (w0 w : World) (b : Nat) (p q r : Bool) : Prop := w0.heap.size ≤ b ∧ Below w0.heap.size w0 w ∧ w.ownsMap P 5 (plainElem P 9) b 3 (.map (triL p q r X Y Z))
def IsTri (P : Program) (X Y Z : ByteArray) (w0 w : World) (b : Nat) : Prop := ∃ p q r, Tri P X Y Z w0 w b p q r
section
variable {P : Program} {w0 w w' : World} {b : Nat} {p q r : Bool} {X Y Z : ByteArray}
theorem Tri.made (C : Below w0.heap.size w0 w) : Tri P X Y Z w0 (w.alloc (.map #[] 0)) w.heap.size false false false :=
  ⟨C.size, C.alloc C.size _, ownsMap_tight (l := triL false false false X Y Z) (World.ownsMap_made w P _ _) (triL_len _ _ _ _ _ _)⟩
theorem Tri.up (h : Tri P X Y Z w0 w b p q r) (hb : Below w.heap.size w w') : Tri P X Y Z w0 w' b p q r := ⟨h.1, Below.step h.2.1 hb, h.2.2.kept (grown_of_below hb) (by simp)⟩
theorem Tri.c (h : Tri P X Y Z w0 w b p q r) : Below w0.heap.size w0 w := h.2.1
theorem IsTri.c (h : IsTri P X Y Z w0 w b) : Below w0.heap.size w0 w := by obtain ⟨p, q, r, h⟩ := h; exact h.2.1
theorem IsTri.up (h : IsTri P X Y Z w0 w b) (hb : Below w.heap.size w w') : IsTri P X Y Z w0 w' b := by obtain ⟨p, q, r, h⟩ := h; exact ⟨p, q, r, h.up hb⟩
theorem IsTri.made (C : Below w0.heap.size w0 w) : IsTri P X Y Z w0 (w.alloc (.map #[] 0)) w.heap.size := ⟨_, _, _, Tri.made C⟩
theorem Tri.put (h : Tri P X Y Z w0 w b p q r) (K : Keyed P 5) {t : TypeId} (ht : P.underlying t = some (.map 5 9)) (he : P.underlying 9 = some .string) {key : Value} {kl : Lit} (hkey : keyOf P 5 key = some kl) {x : ByteArray} (hx : x.size ≤ 16777216) {p' q' r' : Bool}
    (hL : (DataW.map (triL p q r X Y Z)).put kl (.lit (sLi x)) = .map (triL p' q' r' X Y Z)) :
    (Instr.mapUpdate t (.map (some b)) key (.string x)).run P w = .ok () (putW P t b key (.string x) w) ∧ Tri P X Y Z w0 (putW P t b key (.string x) w) b p' q' r' := by
  obtain ⟨h1, h2, h3⟩ := h
  obtain ⟨w', hrun, hown, hg⟩ := h3.update K ht (by decide) hkey (sLi_pe he hx)
  rw [putW_eq hrun]
  rw [hL] at hown
  exact ⟨hrun, h1, h2.trans ((Below.refl _ _).grown hg h2.size fun k hk => by injection hk with hk; rw [← hk]; exact h1), ownsMap_tight hown (triL_len _ _ _ _ _ _)⟩
end
theorem Tri.get {P : Program} {w0 w : World} {b : Nat} {X Y Z : ByteArray} (h : Tri P X Y Z w0 w b true true true) (K : Keyed P 5) {t : TypeId} (ht : P.underlying t = some (.map 5 9)) (he : P.underlying 9 = some .string)
    (hz : (zeroValue 9).run P w = .ok (.string ByteArray.empty) w) (k1 : keyOf P 5 (.int .u8 112) = some (.int .u8 112)) (k2 : keyOf P 5 (.int .u8 98) = some (.int .u8 98)) (k3 : keyOf P 5 (.int .u8 115) = some (.int .u8 115)) :
    (Instr.lookup t (.map (some b)) (.int .u8 112) false).run P w = .ok (.string X) w ∧ (Instr.lookup t (.map (some b)) (.int .u8 98) false).run P w = .ok (.string Y) w ∧ (Instr.lookup t (.map (some b)) (.int .u8 115) false).run P w = .ok (.string Z) w := by
  have go : ∀ (a : Int) (x : ByteArray), keyOf P 5 (.int .u8 a) = some (.int .u8 a) → (DataW.map (triL true true true X Y Z)).atKey (.int .u8 a) (.lit (sLi ByteArray.empty)) = .lit (sLi x) → (Instr.lookup t (.map (some b)) (.int .u8 a) false).run P w = .ok (.string x) w := by
    intro a x hkey hat
    obtain ⟨v, ps, hrun, hv⟩ := h.2.2.lookup K ht hz (sLi_pe he (by decide)) hkey
    rw [hat] at hv
    rw [hrun, sLi_in he _ _ _ hv]
  exact ⟨go 112 X k1 rfl, go 98 Y k2 rfl, go 115 Z k3 rfl⟩
def Holds (I : World → Nat → Prop) (u : World) (b : Nat) : Prop := I u b
theorem heads_kit {P : Program} (w0 : World) {X Y Z : ByteArray} (K : Keyed P 5) {t : TypeId} (ht : P.underlying t = some (.map 5 9)) (he : P.underlying 9 = some .string) (hu : P.underlying 5 = some (.int .u8)) (hX : X.size ≤ 16777216) (hY : Y.size ≤ 16777216) (hZ : Z.size ≤ 16777216) :
    ∃ (T : World → Nat → Bool → Bool → Bool → Prop) (I : World → Nat → Prop) (PP PQ PR : World → Nat → World),
      (∀ u b, Holds I u b → Below w0.heap.size w0 u) ∧ (∀ u b p q r, T u b p q r → Holds I u b) ∧ (∀ u b, Holds I u b → Holds I (PP u b) b) ∧ (∀ u b, Holds I u b → Holds I (PQ u b) b) ∧ (∀ u b, Holds I u b → Holds I (PR u b) b) ∧
      (∀ u b, Holds I u b → Sem.run P (Instr.mapUpdate t (.map (some b)) (.int .u8 112) (.string X)) u = .ok () (PP u b)) ∧ (∀ u b, Holds I u b → Sem.run P (Instr.mapUpdate t (.map (some b)) (.int .u8 98) (.string Y)) u = .ok () (PQ u b)) ∧ (∀ u b, Holds I u b → Sem.run P (Instr.mapUpdate t (.map (some b)) (.int .u8 115) (.string Z)) u = .ok () (PR u b)) ∧
      (∀ u, Below w0.heap.size w0 u → T (u.alloc (.map #[] 0)) u.heap.size false false false) ∧ (∀ u u' b p q r, T u b p q r → Below u.heap.size u u' → T u' b p q r) ∧
      (∀ u b p q r, T u b p q r → T (PP u b) b true q r) ∧ (∀ u b p q r, T u b p q r → T (PQ u b) b p true r) ∧ (∀ u b p q r, T u b p q r → T (PR u b) b p q true) ∧ (∀ u b p q r, T u b p q r → Tri P X Y Z w0 u b p q r) := by
  have hp : ∀ u b p q r, Tri P X Y Z w0 u b p q r → _ := fun u b p q r h => h.put K ht he (keyOf_int_mk hu (a := 112) (by decide)) hX (triL_p p q r X Y Z)
  have hq : ∀ u b p q r, Tri P X Y Z w0 u b p q r → _ := fun u b p q r h => h.put K ht he (keyOf_int_mk hu (a := 98) (by decide)) hY (triL_q p q r X Y Z)
  have hr : ∀ u b p q r, Tri P X Y Z w0 u b p q r → _ := fun u b p q r h => h.put K ht he (keyOf_int_mk hu (a := 115) (by decide)) hZ (triL_r p q r X Y Z)
  refine ⟨Tri P X Y Z w0, IsTri P X Y Z w0, fun u b => putW P t b (.int .u8 112) (.string X) u, fun u b => putW P t b (.int .u8 98) (.string Y) u, fun u b => putW P t b (.int .u8 115) (.string Z) u, fun u b h => h.c, fun u b p q r h => ⟨p, q, r, h⟩, ?_, ?_, ?_, ?_, ?_, ?_, fun u h => Tri.made h, fun u u' b p q r h hb => h.up hb, fun u b p q r h => (hp u b p q r h).2, fun u b p q r h => (hq u b p q r h).2, fun u b p q r h => (hr u b p q r h).2, fun _ _ _ _ _ h => h⟩
  · rintro u b ⟨p, q, r, h⟩; exact ⟨_, _, _, (hp u b p q r h).2⟩
  · rintro u b ⟨p, q, r, h⟩; exact ⟨_, _, _, (hq u b p q r h).2⟩
  · rintro u b ⟨p, q, r, h⟩; exact ⟨_, _, _, (hr u b p q r h).2⟩
  · rintro u b ⟨p, q, r, h⟩; exact (hp u b p q r h).1
  · rintro u b ⟨p, q, r, h⟩; exact (hq u b p q r h).1
  · rintro u b ⟨p, q, r, h⟩; exact (hr u b p q r h).1
set_option maxHeartbeats 40000000 in
set_option maxRecDepth 100000 in
theorem impl_heads {A : Option Addr} {n c st : Nat} {nm : ByteArray} {l : List ByteArray} {kb ks : ByteArray} {t : ByteArray} {w : World} (hn : l.length = n) (h : Strs w A l) (hk : goodK nm (st : Int) l kb ks = true) (hg : goodT t = true) :
    Calls Try.prog 135 #[.agg #[.string nm, .int .i64 st, .slice A n c], .agg #[.string kb, .string ks], .string t] w fun e w' => ∃ A' c', e = .returned (.slice A' (t.size + 1) c') ∧ Owned strE 1 9 w' w.heap.size A' (t.size + 1) c' (hdsL st l kb ks t (t.size + 1)) ∧ Below w.heap.size w w' := by
  have b0 : Below w.heap.size w ((w.alloc (.cells ⟨[.string nm, .int .i64 st, .slice A n c]⟩ 42)).alloc (.cells ⟨[.string kb, .string ks]⟩ 44)) := by (repeat' (first | (with_reducible exact Below.refl _ _) | (with_reducible assumption) | (with_reducible refine below_drewN ?_ _) | (with_reducible refine Below.drew ?_) | (with_reducible refine below_alloc ?_ _) | (with_reducible refine Below.alloc ?_ ?_ _) | (with_reducible refine Below.setCell ?_ ?_ _) | (with_reducible refine below_go ?_ (by with_reducible assumption)) | (with_reducible refine below_then (by with_reducible assumption) ?_ ?_) | go_size))
  have K0 := (Blk.at_ w 42 [.string nm, .int .i64 st, .slice A n c] (b := w.heap.size) rfl).alloc (.cells ⟨[.string kb, .string ks]⟩ 44)
  have K1 := Blk.at_ (w.alloc (.cells ⟨[.string nm, .int .i64 st, .slice A n c]⟩ 42)) 44 [.string kb, .string ks] (b := w.heap.size + 1) (by simp)
  have hmm := @run_makeMap Try.prog
  have KU := int_keyed (P := Try.prog) (k := 5) Try.underlying5
  go_in
  go_upto_region 1 with fail
  obtain ⟨w0, hw0⟩ : ∃ u, u = ((w.alloc (.cells #[.string nm, .int .i64 st, .slice A n c] 42)).alloc (.cells #[.string kb, .string ks] 44)) := ⟨_, rfl⟩
  rw [← hw0] at b0 K0 K1 ⊢
  clear hw0
  have H0 := Lib.hid (h.up b0)
  have carry : Hid (∀ u : World, Below w0.heap.size w0 u → (u.cell? ⟨w.heap.size, 0, none⟩ = some (.string nm) ∧ u.cell? ⟨w.heap.size, 1, none⟩ = some (.int .i64 st) ∧ u.cell? ⟨w.heap.size, 2, none⟩ = some (.slice A n c)) ∧ u.cell? ⟨w.heap.size + 1, 0, none⟩ = some (.string kb) ∧ u.cell? ⟨w.heap.size + 1, 1, none⟩ = some (.string ks)) := Lib.hid (fun u hu => by
    have L0 := K0.up hu; have L1 := K1.up hu
    exact ⟨⟨by simpa using L0.cell 0, by simpa using L0.cell 1, by simpa using L0.cell 2⟩, by simpa using L1.cell 0, by simpa using L1.cell 1⟩)
  clear h K0 K1
  have cf := Lib.hid (fun (u : World) (s : ByteArray) (hb : Below w0.heap.size w0 u) => impl_callHead (c := c) (s := s) hn (H0.out.up hb) hk)
  have C0 : Below w0.heap.size w0 w0.drew := (Below.refl _ _).drew
  have PG := Lib.hid (callHd_good hk)
  have PS := Lib.hid (fun s => show (callHd st l kb ks s).size ≤ 16777216 from by rw [(PG.out s).2]; have := (goodK_all hk).1; omega)
  obtain ⟨T, I, PP, PQ, PR, hC, hTI, HIP, HIQ, HIR, HUP, HUQ, HUR, hM, hU, hP, hQ, hR, hT⟩ := heads_kit (P := Try.prog) w0 KU Try.underlying167 Try.underlying9 Try.underlying5 (PS.out ⟨#[112]⟩) (PS.out ⟨#[98]⟩) (PS.out ⟨#[115]⟩)
  have HC := Lib.hid hC; have TI := Lib.hid hTI; have TM := Lib.hid hM; have TU := Lib.hid hU; have TP := Lib.hid hP; have TQ := Lib.hid hQ; have TR := Lib.hid hR; have TT := Lib.hid hT
  clear hC hTI hM hU hP hQ hR hT
  have N0 := TU.out _ _ _ _ _ _ (TM.out w0 (Below.refl _ _)) (Below.refl _ _).drew
  have M0 := TI.out _ _ _ _ _ N0
  go_cut [7] (fun s7 wx => ∃ b, s7 = .map (some b) ∧ T wx b true true true)
  case first =>
    go_region_held3 (fun u => (u.cell? ⟨w.heap.size, 0, none⟩ = some (.string nm) ∧ u.cell? ⟨w.heap.size, 1, none⟩ = some (.int .i64 st) ∧ u.cell? ⟨w.heap.size, 2, none⟩ = some (.slice A n c)) ∧ u.cell? ⟨w.heap.size + 1, 0, none⟩ = some (.string kb) ∧ u.cell? ⟨w.heap.size + 1, 1, none⟩ = some (.string ks)) (first | exact carry.out _ (by first | assumption | (apply HC.out; repeat (with_reducible first | assumption | apply HIP | apply HIQ | apply HIR)))) (first
      | (go_at_call 131; ((with_reducible refine (cf.out _ _ (by first | assumption | (apply HC.out; repeat (with_reducible first | assumption | apply HIP | apply HIQ | apply HIR)))).mono ?_); rintro e w1 ⟨rfl, hb1⟩; (first | (have N := TU.out _ _ _ _ _ _ (by assumption) hb1) | (have N := TU.out _ _ _ _ _ _ (TP.out _ _ _ _ _ (by assumption)) hb1) | (have N := TU.out _ _ _ _ _ _ (TQ.out _ _ _ _ _ (by assumption)) hb1) | (have N := TU.out _ _ _ _ _ _ (TQ.out _ _ _ _ _ (TP.out _ _ _ _ _ (by assumption))) hb1) | (have N := TU.out _ _ _ _ _ _ (TP.out _ _ _ _ _ (TQ.out _ _ _ _ _ (by assumption))) hb1) | (have C := Below.step (w0 := w0) (by assumption) hb1; have N := TM.out _ C)); have M := TI.out _ _ _ _ _ N; have MP := HIP _ _ M; have MQ := HIQ _ _ M; have MR := HIR _ _ M)))
    all_goals
      go_wp2_with fail
      go_meet
      refine ⟨_, rfl, ?_⟩
      repeat (with_reducible first | assumption | apply TP.out | apply TQ.out | apply TR.out)
  case rest =>
    obtain ⟨b, rfl, hT0⟩ := hcut
    have hT := TT.out _ _ _ _ _ hT0
    clear hT0 HIP HIQ HIR HUP HUQ HUR N0 M0
    rename World => w1
    obtain ⟨⟨k0, k1, k2⟩, q0, q1⟩ := carry.out _ hT.c
    have hB1 := b0.trans (hT.c.mono b0.size)
    obtain ⟨h8, h40, _⟩ := goodK_all hk
    have gb := PlainAid.get_bt t
    obtain ⟨ht1, ht60, htl⟩ := goodT_t hg
    have HL := Lib.hid htl
    have HD := Lib.hid (fun k => hdAt_good h8.1 h8.2 l kb ks t k)
    have H1 : Hid (Owned strE 1 9 (w1.alloc (.cells #[.string (roundsS st)] 9)) w1.heap.size (some ⟨w1.heap.size, 0, none⟩) 1 1 (hdsL st l kb ks t 1)) := Lib.hid ⟨strE_len, by simp [hdsL], by simpa [hdsL, hdAt, strE] using World.ownsRow_lit (e := 9) (base := w1.heap.size) (size := 1) w1 #[.string (roundsS st)] 1 (Nat.le_refl _) (by decide) (by simp)⟩
    clear htl hmm
    go_wp2_with fail
    refine (impl_rounds h8.2).mono ?_; rintro e w' ⟨rfl, rfl⟩
    go_wp2
    go_loopw [8, 9, 29] (fun r v i wr => ∃ (k : Nat) (A' : Option Addr) (m c' : Nat), k ≤ t.size ∧ i = .int .i64 k ∧ r = .string (hdAt st l kb ks t k) ∧ v = .slice A' m c' ∧ m = k + 1 ∧ Owned strE 1 9 wr w1.heap.size A' m c' (hdsL st l kb ks t (k + 1)) ∧ Below w1.heap.size w1 wr) (fun _ _ i _ => t.size - (intOf i).toNat)
    case atStart => exact ⟨0, _, _, _, Nat.zero_le _, rfl, rfl, rfl, rfl, H1.out, by (repeat' (first | (with_reducible exact Below.refl _ _) | (with_reducible assumption) | (with_reducible refine below_drewN ?_ _) | (with_reducible refine Below.drew ?_) | (with_reducible refine below_alloc ?_ _) | (with_reducible refine Below.alloc ?_ ?_ _) | (with_reducible refine Below.setCell ?_ ?_ _) | (with_reducible refine below_go ?_ (by with_reducible assumption)) | (with_reducible refine below_then (by with_reducible assumption) ?_ ?_) | go_size))⟩
    case round =>
      obtain ⟨k, A', m, c', hk1, rfl, rfl, rfl, rfl, ho, hb⟩ := hrel
      have HO := Lib.hid ho
      have hsz := hb.size
      clear ho
      by_cases hlt : k < t.size
      · have hLK := (hT.up hb).get KU Try.underlying167 Try.underlying9 (by kernel_rfl) (keyOf_int_mk Try.underlying5 (by decide)) (keyOf_int_mk Try.underlying5 (by decide)) (keyOf_int_mk Try.underlying5 (by decide))
        have LK : Sem.run Try.prog (Instr.lookup 167 (.map (some b)) (.int .u8 (PlainAid.bt t k)) false) wr = .ok (.string (callHd st l kb ks (letter t k))) wr := by
          have hcb := HL.out k hlt
          by_cases f1 : PlainAid.bt t k = 112
          · rw [f1, letter_p hlt f1]; exact hLK.1
          · by_cases f2 : PlainAid.bt t k = 98
            · rw [f2, letter_b hlt f2]; exact hLK.2.1
            · have f3 : PlainAid.bt t k = 115 := by
                rw [callB] at hcb
                simpa [f1, f2] using hcb
              rw [f3, letter_s hlt f3]; exact hLK.2.2
        clear hLK
        have p1 := PG.out (letter t k)
        have p2 := HD.out k
        have z1 : (hdAt st l kb ks t k).size ≤ 16777216 := by rw [p2.2]; omega
        have z2 : (callHd st l kb ks (letter t k)).size ≤ 16777216 := by rw [p1.2]; omega
        have hf : fits (hdAt st l kb ks t k) (callHd st l kb ks (letter t k)) := fits_good p1.1 (by rw [p1.2, p2.2])
        have E := Lib.hid (show timesS (hdAt st l kb ks t k) (callHd st l kb ks (letter t k)) = hdAt st l kb ks t (k + 1) from rfl)
        have HT := Lib.hid (hdsL_succ st l kb ks t (k + 1))
        clear p1 p2
        go_wp2_with (first | (go_at_call 122; refine (impl_times z1 z2 hf).mono ?_; rw [E.out]; rintro e w2 ⟨rfl, hb2⟩; have HO1 := Lib.hid (HO.out.up hb2); have hsz1 := hb2.size) | (at_builtin; go_must ((refine wpList_append_rec Try.elStr rfl (.tmp 39) (.tmp 41) rfl rfl (HO1.out.alloc _) (hdAt st l kb ks t (k + 1)) rfl (Box.at_ _ [.string (hdAt st l kb ks t (k + 1))] _ ?_) (strE_one _) ?_ (by decide) ?_ ?_; (focus (first | omega | (simp only [World.size_alloc]; done) | (simp only [World.size_alloc]; omega) | (simp; done) | (simp; omega))); (focus (first | omega | (simp only [World.size_alloc]; done) | (simp only [World.size_alloc]; omega) | (simp; done) | (simp; omega))); (focus (first | omega | (simp only [World.size_alloc]; done) | (simp only [World.size_alloc]; omega) | (simp; done) | (simp; omega))); intro A2 c2 w3 ho3 hg3 hb3))))
        go_roundw
        case rel => exact ⟨k + 1, A2, k + 1 + 1, c2, by omega, by go_num, rfl, by go_num, rfl, by rw [HT.out]; exact ho3, ((hb.trans (hb2.mono hsz)).alloc (by omega) _).trans hb3⟩
        case measure => simp [intOf]; omega
      · obtain rfl : k = t.size := by omega
        go_wp2
        go_ret
        exact ⟨_, _, rfl, HO.out.base_le hB1.size, below_go hB1 hb⟩
end Go.Proofs.Ytmdmnjjlpefigaa
/- The heads and rows of a touch, the reference's side. -/
namespace Go.Proofs.Ytmdmnjjlpefigaa
set_option linter.unusedVariables false
set_option linter.unusedSimpArgs false
open Go.ChangeShapes Go.WideShapes Go.ChangeAt Go.RowKit Go.Deep
theorem goodF_t' {nm : ByteArray} {st : Int} {l : List ByteArray} {kb ks t : ByteArray} (h : goodF nm st l kb ks t = true) : goodK nm st l kb ks = true ∧ goodT t = true := by
  rw [goodF, Bool.and_eq_true] at h; exact h
theorem Below.step' {w0 w w' : World} {b : Nat} (C : Below b w0 w) (hbs : b ≤ w0.heap.size) (hb : Below w.heap.size w w') : Below b w0 w' := C.trans (hb.mono (Nat.le_trans hbs C.size))
theorem spec_l9Asked {A : Option Addr} {n c : Nat} {nm : ByteArray} {st : Int} {l : List ByteArray} {kb ks : ByteArray} {t : ByteArray} {w : World} (hn : l.length = n) (h : Strs w A l) (hz : n ≤ 1048576) (hs : ∀ s ∈ l, s.size ≤ 16777216) (hnm : nm.size ≤ 16777216) (hst : I64 st) (hkb : kb.size ≤ 16777216) (hks : ks.size ≤ 16777216) (ht : t.size ≤ 16777216) :
    Calls Try.prog 132 #[.agg #[.string nm, .int .i64 st, .slice A n c], .agg #[.string kb, .string ks], .string t] w fun e w' => e = .returned (.bool (goodF nm st l kb ks t)) ∧ Below w.heap.size w w' := by
  have HQ : Hid (goodF nm st l kb ks t = (goodK nm st l kb ks && goodT t)) := Lib.hid rfl
  have b0 : Below w.heap.size w ((w.alloc (.cells ⟨[.string nm, .int .i64 st, .slice A n c]⟩ 42)).alloc (.cells ⟨[.string kb, .string ks]⟩ 44)) := by (repeat' (first | (with_reducible exact Below.refl _ _) | (with_reducible assumption) | (with_reducible refine below_drewN ?_ _) | (with_reducible refine Below.drew ?_) | (with_reducible refine below_alloc ?_ _) | (with_reducible refine Below.alloc ?_ ?_ _) | (with_reducible refine Below.setCell ?_ ?_ _) | (with_reducible refine below_go ?_ (by with_reducible assumption)) | (with_reducible refine below_then (by with_reducible assumption) ?_ ?_) | go_size))
  go_in
  go_wp2_with fail
  refine (spec_l8Good hn (h.up b0) hz hs hnm hst hkb hks).mono ?_; rintro e w1 ⟨rfl, hb1⟩
  rcases h1 : goodK nm st l kb ks
  · have e1 := Lib.hid (show goodF nm st l kb ks t = false by rw [HQ.out, h1]; rfl)
    go_wp2
    go_ret
    rw [e1.out]
    exact ⟨rfl, below_go b0 hb1⟩
  · have e1 := Lib.hid (show goodF nm st l kb ks t = goodT t by rw [HQ.out, h1]; rfl)
    go_wp2_with fail
    refine (spec_l9Good ht).mono ?_; rintro e w' ⟨rfl, rfl⟩
    go_wp2
    go_ret
    rw [e1.out]
    exact ⟨rfl, below_go b0 hb1⟩
set_option maxHeartbeats 2000000 in
set_option maxRecDepth 100000 in
theorem spec_l9Heads {A : Option Addr} {n c st : Nat} {nm : ByteArray} {l : List ByteArray} {kb ks : ByteArray} {t : ByteArray} {w : World} (hn : l.length = n) (h : Strs w A l) (hk : goodK nm (st : Int) l kb ks = true) (hg : goodT t = true) (hcap : n ≤ c) :
    Calls Try.prog 175 #[.agg #[.string nm, .int .i64 st, .slice A n c], .agg #[.string kb, .string ks], .string t] w fun e w' => ∃ A' c', e = .returned (.slice A' (t.size + 1) c') ∧ Owned strE 1 9 w' w.heap.size A' (t.size + 1) c' (hdsL st l kb ks t (t.size + 1)) ∧ Below w.heap.size w w' := by
  have b0 : Below w.heap.size w ((w.alloc (.cells ⟨[.string nm, .int .i64 st, .slice A n c]⟩ 42)).alloc (.cells ⟨[.string kb, .string ks]⟩ 44)) := by (repeat' (first | (with_reducible exact Below.refl _ _) | (with_reducible assumption) | (with_reducible refine below_drewN ?_ _) | (with_reducible refine Below.drew ?_) | (with_reducible refine below_alloc ?_ _) | (with_reducible refine Below.alloc ?_ ?_ _) | (with_reducible refine Below.setCell ?_ ?_ _) | (with_reducible refine below_go ?_ (by with_reducible assumption)) | (with_reducible refine below_then (by with_reducible assumption) ?_ ?_) | go_size))
  have K0 := (Blk.at_ w 42 [.string nm, .int .i64 st, .slice A n c] (b := w.heap.size) rfl).alloc (.cells ⟨[.string kb, .string ks]⟩ 44)
  have K1 := Blk.at_ (w.alloc (.cells ⟨[.string nm, .int .i64 st, .slice A n c]⟩ 42)) 44 [.string kb, .string ks] (b := w.heap.size + 1) (by simp)
  obtain ⟨h8, h40, _⟩ := goodK_all hk
  obtain ⟨ht1, ht60, _⟩ := goodT_t hg
  have gb := PlainAid.get_bt t
  go_in
  go_wp2_with fail
  obtain ⟨w1, hw1⟩ : ∃ u, u = ((w.alloc (.cells #[.string nm, .int .i64 st, .slice A n c] 42)).alloc (.cells #[.string kb, .string ks] 44)) := ⟨_, rfl⟩
  rw [← hw1] at b0 K0 K1 ⊢
  clear hw1
  have H0 := Lib.hid (h.up b0)
  have carry : Hid (∀ u : World, Below w1.heap.size w1 u → (u.cell? ⟨w.heap.size, 0, none⟩ = some (.string nm) ∧ u.cell? ⟨w.heap.size, 1, none⟩ = some (.int .i64 st) ∧ u.cell? ⟨w.heap.size, 2, none⟩ = some (.slice A n c)) ∧ u.cell? ⟨w.heap.size + 1, 0, none⟩ = some (.string kb) ∧ u.cell? ⟨w.heap.size + 1, 1, none⟩ = some (.string ks)) := Lib.hid (fun u hu => by
    have L0 := K0.up hu; have L1 := K1.up hu
    exact ⟨⟨by simpa using L0.cell 0, by simpa using L0.cell 1, by simpa using L0.cell 2⟩, by simpa using L1.cell 0, by simpa using L1.cell 1⟩)
  clear h K0 K1
  have PG := Lib.hid (callHd_good hk)
  have HD := Lib.hid (fun k => hdAt_good h8.1 h8.2 l kb ks t k)
  have H1 : Hid (Owned strE 1 9 (w1.alloc (.cells #[.string (roundsS st)] 9)) w1.heap.size (some ⟨w1.heap.size, 0, none⟩) 1 1 (hdsL st l kb ks t 1)) := Lib.hid ⟨strE_len, by simp [hdsL], by simpa [hdsL, hdAt, strE] using World.ownsRow_lit (e := 9) (base := w1.heap.size) (size := 1) w1 #[.string (roundsS st)] 1 (Nat.le_refl _) (by decide) (by simp)⟩
  refine (spec_l1Rounds h8.2).mono ?_; rintro e w' ⟨rfl, rfl⟩
  go_wp2
  go_loopw [7, 8, 9] (fun r v i wr => ∃ (k : Nat) (A' : Option Addr) (m c' : Nat), k ≤ t.size ∧ i = .int .i64 k ∧ r = .string (hdAt st l kb ks t k) ∧ v = .slice A' m c' ∧ m = k + 1 ∧ Owned strE 1 9 wr w1.heap.size A' m c' (hdsL st l kb ks t (k + 1)) ∧ Below w1.heap.size w1 wr) (fun _ _ i _ => t.size - (intOf i).toNat)
  case atStart => exact ⟨0, _, _, _, Nat.zero_le _, rfl, rfl, rfl, rfl, H1.out, by (repeat' (first | (with_reducible exact Below.refl _ _) | (with_reducible assumption) | (with_reducible refine below_drewN ?_ _) | (with_reducible refine Below.drew ?_) | (with_reducible refine below_alloc ?_ _) | (with_reducible refine Below.alloc ?_ ?_ _) | (with_reducible refine Below.setCell ?_ ?_ _) | (with_reducible refine below_go ?_ (by with_reducible assumption)) | (with_reducible refine below_then (by with_reducible assumption) ?_ ?_) | go_size))⟩
  case round =>
    obtain ⟨k, A', m, c', hk1, rfl, rfl, rfl, rfl, ho, hb⟩ := hrel
    have HO := Lib.hid ho
    have hsz := hb.size
    clear ho
    by_cases hlt : k < t.size
    · have p1 := PG.out (letter t k)
      have p2 := HD.out k
      have z1 : (hdAt st l kb ks t k).size ≤ 16777216 := by rw [p2.2]; omega
      have z2 : (callHd st l kb ks (letter t k)).size ≤ 16777216 := by rw [p1.2]; omega
      have hf : fits (hdAt st l kb ks t k) (callHd st l kb ks (letter t k)) := fits_good p1.1 (by rw [p1.2, p2.2])
      have E := Lib.hid (show timesS (hdAt st l kb ks t k) (callHd st l kb ks (letter t k)) = hdAt st l kb ks t (k + 1) from rfl)
      have HT := Lib.hid (hdsL_succ st l kb ks t (k + 1))
      clear p1 p2
      have hwk : IntKind.i64.wrap ((k : Int) + 1) = (k : Int) + 1 := wrap_id (by omega)
      have hb0 := hb
      have hle1 : (k : Int) + 1 ≤ (t.size : Int) := by omega
      have hle2 : (k : Int) ≤ (k : Int) + 1 := by omega
      have hle3 : (0 : Int) ≤ (k : Int) := by omega
      have HB := Lib.hid hb
      go_wp2_with fail
      go_region_held3 (fun u => (u.cell? ⟨w.heap.size, 0, none⟩ = some (.string nm) ∧ u.cell? ⟨w.heap.size, 1, none⟩ = some (.int .i64 st) ∧ u.cell? ⟨w.heap.size, 2, none⟩ = some (.slice A n c)) ∧ u.cell? ⟨w.heap.size + 1, 0, none⟩ = some (.string kb) ∧ u.cell? ⟨w.heap.size + 1, 1, none⟩ = some (.string ks)) (first | exact carry.out _ C2 | exact carry.out _ HB.out | exact carry.out _ HB.out.drew) (first | (go_at_call 120; refine (spec_l1Times z1 z2 hf).mono ?_; rw [E.out]; rintro e w' ⟨rfl, rfl⟩) | (go_at_call 167; refine (spec_l8Head (s := letter t k) hn ((H0.out.below HB.out (Nat.le_refl _)).drew) hk hcap).mono ?_; rintro e w2 ⟨rfl, hbd2⟩; have hb2 := below_of_drew hbd2; have C2 := HB.out.trans (hb2.mono HB.out.size); have HO1 := Lib.hid (HO.out.up hb2); have hsz1 := hb2.size))
      go_wp2_with (first | (at_builtin; go_must ((refine wpList_append_rec Try.elStr rfl (.tmp 31) (.tmp 33) rfl rfl (HO1.out.alloc _) (hdAt st l kb ks t (k + 1)) rfl (Box.at_ _ [.string (hdAt st l kb ks t (k + 1))] _ ?_) (strE_one _) ?_ (by decide) ?_ ?_; (focus (first | omega | (simp only [World.size_alloc]; done) | (simp only [World.size_alloc]; omega) | (simp; done) | (simp; omega))); (focus (first | omega | (simp only [World.size_alloc]; done) | (simp only [World.size_alloc]; omega) | (simp; done) | (simp; omega))); (focus (first | omega | (simp only [World.size_alloc]; done) | (simp only [World.size_alloc]; omega) | (simp; done) | (simp; omega))); intro A2 c2 w3 ho3 hg3 hb3))))
      go_roundw
      case rel => exact ⟨k + 1, A2, k + 1 + 1, c2, by omega, by go_num, rfl, by go_num, rfl, by rw [HT.out]; exact ho3, ((HB.out.trans (hb2.mono hsz)).alloc (by omega) _).trans hb3⟩
      case measure => simp [intOf]; omega
    · obtain rfl : k = t.size := by omega
      go_wp2
      go_ret
      exact ⟨_, _, rfl, HO.out.base_le b0.size, below_go b0 hb⟩
set_option maxHeartbeats 2000000 in
set_option maxRecDepth 100000 in
theorem spec_l9Rows {A : Option Addr} {n c st : Nat} {nm : ByteArray} {l : List ByteArray} {kb ks : ByteArray} {t : ByteArray} {w : World} (hn : l.length = n) (h : Strs w A l) (hk : goodK nm (st : Int) l kb ks = true) (hg : goodT t = true) (hcap : n ≤ c) :
    Calls Try.prog 133 #[.agg #[.string nm, .int .i64 st, .slice A n c], .agg #[.string kb, .string ks], .string t] w fun e w' => ∃ A' m' c', e = .returned (.slice A' m' c') ∧ m' = t.size * n ∧ Owned strE 1 9 w' w.heap.size A' m' c' (tRows st l kb ks t t.size) ∧ Below w.heap.size w w' := by
  have b0 : Below w.heap.size w ((w.alloc (.cells ⟨[.string nm, .int .i64 st, .slice A n c]⟩ 42)).alloc (.cells ⟨[.string kb, .string ks]⟩ 44)) := by (repeat' (first | (with_reducible exact Below.refl _ _) | (with_reducible assumption) | (with_reducible refine below_drewN ?_ _) | (with_reducible refine Below.drew ?_) | (with_reducible refine below_alloc ?_ _) | (with_reducible refine Below.alloc ?_ ?_ _) | (with_reducible refine Below.setCell ?_ ?_ _) | (with_reducible refine below_go ?_ (by with_reducible assumption)) | (with_reducible refine below_then (by with_reducible assumption) ?_ ?_) | go_size))
  have K0 := (Blk.at_ w 42 [.string nm, .int .i64 st, .slice A n c] (b := w.heap.size) rfl).alloc (.cells ⟨[.string kb, .string ks]⟩ 44)
  have K1 := Blk.at_ (w.alloc (.cells ⟨[.string nm, .int .i64 st, .slice A n c]⟩ 42)) 44 [.string kb, .string ks] (b := w.heap.size + 1) (by simp)
  obtain ⟨h8, h40, hgl, _⟩ := goodK_all hk
  obtain ⟨ht1, ht60, _⟩ := goodT_t hg
  have hn40 : n ≤ 40 := by omega
  have HS := Lib.hid (fun (s' : ByteArray) (hs' : s' ∈ l) => show s'.size ≤ 16777216 from by have := goodChange_small (hgl s' hs'); omega)
  clear hgl
  go_in
  go_wp2_with fail
  obtain ⟨w0, hw0⟩ : ∃ u, u = ((w.alloc (.cells #[.string nm, .int .i64 st, .slice A n c] 42)).alloc (.cells #[.string kb, .string ks] 44)) := ⟨_, rfl⟩
  rw [← hw0] at b0 K0 K1 ⊢
  clear hw0
  have H0 := Lib.hid (h.up b0)
  have carry : Hid (∀ u : World, Below w0.heap.size w0 u → u.cell? ⟨w.heap.size, 2, none⟩ = some (.slice A n c)) := Lib.hid (fun u hu => by
    have L0 := K0.up hu
    simpa using L0.cell 2)
  clear h K0 K1
  refine (spec_l9Heads hn H0.out hk hg hcap).mono ?_; rintro e w1 ⟨A1, c1, rfl, ho1, hb1⟩
  have hle := ho1.cap
  obtain ⟨g, rfl, _⟩ := ho1.at_ (by omega)
  have R1 := Lib.hid ho1.recs
  have HD := Lib.hid (fun k => hdAt_good h8.1 h8.2 l kb ks t k)
  have hcI : (t.size : Int) ≤ (c1 : Int) := by omega
  go_wp2
  go_loopw [7, 20] (fun v i wr => ∃ (k : Nat) (A' : Option Addr) (m c' : Nat), k ≤ t.size ∧ i = .int .i64 k ∧ v = .slice A' m c' ∧ m = k * n ∧ Owned strE 1 9 wr w1.heap.size A' m c' (tRows st l kb ks t k) ∧ Below w1.heap.size w1 wr) (fun _ i _ => t.size - (intOf i).toNat)
  case atStart => exact ⟨0, none, 0, 0, Nat.zero_le _, rfl, rfl, by omega, Owned.nil strE_len _ _ _, Below.refl _ _⟩
  case round =>
    obtain ⟨k, A', m, c', hk1, rfl, rfl, hm, ho, hb⟩ := hrel
    have HO := Lib.hid ho
    have HM := Lib.hid hm
    have hmb : m ≤ 2400 := by rw [hm]; exact Nat.le_trans (Nat.mul_le_mul (show k ≤ 60 by omega) hn40) (by decide)
    have hsz := hb.size
    clear ho hm
    by_cases hlt : k < t.size
    · obtain ⟨b3, o3, y, e3, hbb, hy, hcy⟩ := (R1.out.below hb (Nat.le_refl _)).at_str (k := k) (by rw [hdsL_len]; omega)
      injection e3 with e3
      injection e3 with e4 e5
      subst e4 e5
      rw [hdsL_at (by omega)] at hy
      injection hy with hy
      subst hy
      have ck := carry.out _ (Below.step' hb1 (Nat.le_refl _) hb)
      simp only [Nat.zero_add] at hcy
      have p2 := HD.out k
      have z1 : (hdAt st l kb ks t k).size ≤ 8 := by rw [p2.2]; omega
      have HT := Lib.hid (tRows_succ st l kb ks t k)
      clear p2
      go_wp2_with fail
      refine (spec_l4Lead z1 hn ((H0.out.up hb1).below hb (Nat.le_refl _)) (by omega) HS.out).mono ?_; rintro e w2 ⟨A2, c2, rfl, ho2, hb2⟩
      have HO1 := Lib.hid (HO.out.up hb2)
      have hsz1 := hb2.size
      have hl2 : (rowsL (hdAt st l kb ks t k) l n).length = n := by rw [rowsL_len]
      go_wp2_with (first | (at_builtin; go_must ((refine wpList_append_recs Try.elStr strE_one rfl (.tmp 31) (.tmp 32) rfl rfl HO1.out rfl ho2.recs hl2 ?_ (by decide) ?_ ?_; (focus (first | omega | (simp only [World.size_alloc]; done) | (simp only [World.size_alloc]; omega) | (simp; done) | (simp; omega))); (focus (first | omega | (simp only [World.size_alloc]; done) | (simp only [World.size_alloc]; omega) | (simp; done) | (simp; omega))); intro A3 c3 w3 ho3 hg3 hn3))))
      go_roundw
      case rel => exact ⟨k + 1, A3, m + n, c3, by omega, by go_num, by go_num, by rw [HM.out, Nat.succ_mul], by rw [HT.out]; subst hn; exact ho3, (hb.trans (hb2.mono hsz)).trans ((grown_base hg3 (by omega) (fun q hq => (HO.out.range q hq).1)))⟩
      case measure => simp [intOf]; omega
    · obtain rfl : k = t.size := by omega
      go_wp2
      go_ret
      exact ⟨_, _, _, rfl, HM.out, HO.out.base_le (below_go b0 hb1).size, below_go (below_go b0 hb1) hb⟩
set_option maxHeartbeats 1000000 in
theorem spec_TouchRows {A : Option Addr} {n c : Nat} {nm : ByteArray} {st : Int} {l : List ByteArray} {kb ks : ByteArray} {t : ByteArray} {w : World} (hn : l.length = n) (h : Strs w A l) (hz : n ≤ 1048576) (hs : ∀ s ∈ l, s.size ≤ 16777216) (hnm : nm.size ≤ 16777216) (hst : I64 st) (hkb : kb.size ≤ 16777216) (hks : ks.size ≤ 16777216) (hcap : n ≤ c) (ht : t.size ≤ 16777216) :
    Calls Try.prog 86 #[.agg #[.string nm, .int .i64 st, .slice A n c], .agg #[.string kb, .string ks], .string t] w fun e w' => ∃ A' m' c', e = .returned (.tuple #[.slice A' m' c', .bool (rowsOk nm st l kb ks t)]) ∧ (rowsOk nm st l kb ks t = true → m' = t.size * n ∧ Owned strE 1 9 w' w.heap.size A' m' c' (tRows st.toNat l kb ks t t.size)) ∧ (rowsOk nm st l kb ks t = false → A' = none ∧ m' = 0 ∧ c' = 0) ∧ Below w.heap.size w w' := by
  have b0 : Below w.heap.size w ((w.alloc (.cells ⟨[.string nm, .int .i64 st, .slice A n c]⟩ 42)).alloc (.cells ⟨[.string kb, .string ks]⟩ 44)) := by (repeat' (first | (with_reducible exact Below.refl _ _) | (with_reducible assumption) | (with_reducible refine below_drewN ?_ _) | (with_reducible refine Below.drew ?_) | (with_reducible refine below_alloc ?_ _) | (with_reducible refine Below.alloc ?_ ?_ _) | (with_reducible refine Below.setCell ?_ ?_ _) | (with_reducible refine below_go ?_ (by with_reducible assumption)) | (with_reducible refine below_then (by with_reducible assumption) ?_ ?_) | go_size))
  have K0 := (Blk.at_ w 42 [.string nm, .int .i64 st, .slice A n c] (b := w.heap.size) rfl).alloc (.cells ⟨[.string kb, .string ks]⟩ 44)
  have K1 := Blk.at_ (w.alloc (.cells ⟨[.string nm, .int .i64 st, .slice A n c]⟩ 42)) 44 [.string kb, .string ks] (b := w.heap.size + 1) (by simp)
  have HQ : Hid (rowsOk nm st l kb ks t = (goodF nm st l kb ks t && decide (t.size * l.length ≤ 800))) := Lib.hid rfl
  go_in
  go_wp2_with fail
  obtain ⟨w0, hw0⟩ : ∃ u, u = ((w.alloc (.cells #[.string nm, .int .i64 st, .slice A n c] 42)).alloc (.cells #[.string kb, .string ks] 44)) := ⟨_, rfl⟩
  rw [← hw0] at b0 K0 K1 ⊢
  clear hw0
  refine (spec_l9Asked hn (h.up b0) hz hs hnm hst hkb hks ht).mono ?_; rintro e w1 ⟨rfl, hb1⟩
  have hB1 := below_go b0 hb1
  rcases hf : goodF nm st l kb ks t
  · have e1 := Lib.hid (show rowsOk nm st l kb ks t = false by rw [HQ.out, hf]; rfl)
    go_wp2
    go_ret2
    rw [e1.out]
    exact ⟨none, 0, 0, rfl, fun h => (by cases h), fun _ => ⟨rfl, rfl, rfl⟩, hB1⟩
  · obtain ⟨hk, hg⟩ := goodF_t' hf
    obtain ⟨m, rfl⟩ : ∃ m : Nat, st = (m : Int) := ⟨st.toNat, by
      have := (goodM_t (goodK_t hk).1).2.1
      omega⟩
    have hn40 : n ≤ 40 := by have := (goodK_all hk).2.1; omega
    have ht60 := (goodT_t hg).2.1
    have hmul : t.size * n ≤ 2400 := Nat.le_trans (Nat.mul_le_mul ht60 hn40) (by decide)
    have hmI : ((t.size * n : Nat) : Int) = (t.size : Int) * (n : Int) := by push_cast; rfl
    have hwr : IntKind.i64.wrap ((t.size : Int) * (n : Int)) = (t.size : Int) * (n : Int) := wrap_id (by omega)
    have HN := Lib.hid hn
    have L0 := K0.up hb1; have L1 := K1.up hb1
    have k0 := L0.cell 0; have k1 := L0.cell 1; have k2 := L0.cell 2; have q0 := L1.cell 0; have q1 := L1.cell 1
    simp only [List.getElem?_cons_zero, List.getElem?_cons_succ] at k0 k1 k2 q0 q1
    by_cases hle : t.size * n ≤ 800
    · have e1 := Lib.hid (show rowsOk nm m l kb ks t = true by rw [HQ.out, hf, HN.out, decide_eq_true hle]; rfl)
      have hI : ¬ (800 : Int) < (t.size : Int) * (n : Int) := by omega
      clear hmI
      go_wp2_with fail
      refine (spec_l9Rows hn (h.up hB1) hk hg hcap).mono ?_; rintro e w2 ⟨A2, m2, c2, rfl, hm2, ho2, hb2⟩
      subst hm2
      go_wp2
      go_ret2
      rw [e1.out]
      exact ⟨_, _, _, rfl, fun _ => ⟨rfl, ho2.base_le hB1.size⟩, fun h => (by cases h), below_go hB1 hb2⟩
    · have e1 := Lib.hid (show rowsOk nm m l kb ks t = false by rw [HQ.out, hf, HN.out, decide_eq_false hle]; rfl)
      have hI : (800 : Int) < (t.size : Int) * (n : Int) := by omega
      clear hmI
      go_wp2
      go_ret2
      rw [e1.out]
      exact ⟨none, 0, 0, rfl, fun h => (by cases h), fun _ => ⟨rfl, rfl, rfl⟩, hB1⟩
end Go.Proofs.Ytmdmnjjlpefigaa
