/- Texts 4 of 6 that the claim leans on: plain laws and the walks' contracts, in order. -/
import Derived.Test.YtidolgonmimicaaGreatDoorMCalling3
import Derived.Shelf.Strings.Cut
import Derived.Shelf.Strings.Split
import Derived.Shelf.LaysM
import Derived.Test.YtidolgonmimicaaGreatDoorProg
import Derived.Laws.Bits64b
/- The walk of chapter 10, the program's side: the text of a calling. -/
namespace Go.Proofs.YtidolgonmimicaaGreatDoor
set_option linter.unusedVariables false
set_option linter.unusedSimpArgs false
open Go.ChangeShapes Go.WideShapes Go.ChangeAt Go.RowKit Go.Deep
set_option maxHeartbeats 16000000 in
set_option maxRecDepth 100000 in
theorem impl_callingText {A : Option Addr} {n c st : Nat} {nm : ByteArray} {l : List ByteArray} {kb ks : ByteArray} {t : ByteArray} {bl : Nat} {w : World} (hn : l.length = n) (h : Strs w A l) (hk : goodK nm (st : Int) l kb ks = true) (hg : goodT t = true) (hb : bl ≤ 100) :
    Calls Tryz.prog 16 #[.agg #[.string nm, .int .i64 st, .slice A n c], .agg #[.string kb, .string ks], .string t, .int .i64 bl] w fun e w' => e = .returned (.string (calS st l kb ks bl t)) ∧ Below w.heap.size w w' := by
  have b0 : Below w.heap.size w ((w.alloc (.cells ⟨[.string nm, .int .i64 st, .slice A n c]⟩ 25)).alloc (.cells ⟨[.string kb, .string ks]⟩ 27)) := by (repeat' (first | (with_reducible exact Below.refl _ _) | (with_reducible assumption) | (with_reducible refine below_drewN ?_ _) | (with_reducible refine Below.drew ?_) | (with_reducible refine below_alloc ?_ _) | (with_reducible refine Below.alloc ?_ ?_ _) | (with_reducible refine Below.setCell ?_ ?_ _) | (with_reducible refine below_go ?_ (by with_reducible assumption)) | (with_reducible refine below_then (by with_reducible assumption) ?_ ?_) | go_size))
  have K0 := (Blk.at_ w 25 [.string nm, .int .i64 st, .slice A n c] (b := w.heap.size) rfl).alloc (.cells ⟨[.string kb, .string ks]⟩ 27)
  have J0 := Blk.at_ (w.alloc (.cells ⟨[.string nm, .int .i64 st, .slice A n c]⟩ 25)) 27 [.string kb, .string ks] (b := w.heap.size + 1) (by simp)
  have h38 := (goodK_all hk).1
  have HK := Lib.hid hk
  have HG := Lib.hid hg
  have hts : 1 ≤ t.size ∧ t.size ≤ 60 := ⟨(goodT_t hg).1, (goodT_t hg).2.1⟩
  have HR := Lib.hid (fun j => (hdAt_good h38.1 h38.2 l kb ks t j : RowN st (hdAt st l kb ks t j)))
  have HC8 := Lib.hid (fun s => (callHd_good hk s : RowN st (callHd st l kb ks s)))
  have HPCC : Hid (∀ (j : Nat) (s : ByteArray) (u : World), Calls Tryz.prog 40 #[.string (timesS (hdAt st l kb ks t j) (callHd st l kb ks s)), .int .i64 bl] u fun e w' => e = .returned (.int .i64 (plA st l kb ks bl (hdAt st l kb ks t j) s : Nat)) ∧ u = w') := Lib.hid (fun j s u => by
    have hr : RowN st (timesS (hdAt st l kb ks t j) (callHd st l kb ks s)) := RowN.times (HR.out j) (HC8.out s)
    exact impl_placeOf hr hb)
  have HWL := Lib.hid (fun i => wdA_le (st := st) (l := l) (kb := kb) (ks := ks) (bl := bl) (t := t) i)
  have HWN := Lib.hid (fun i => wdA_len (st := st) (l := l) (kb := kb) (ks := ks) (bl := bl) (t := t) i)
  have HPL := Lib.hid (fun i => plI_le (l := l) (kb := kb) (ks := ks) (bl := bl) (T := t) h38.1 h38.2 i)
  have HWP := Lib.hid (fun i => @wdA_p st l kb ks bl t i)
  have HWC := Lib.hid (fun i => @wdA_call st l kb ks bl t i)
  have HCZ := Lib.hid (calS_size (l := l) (kb := kb) (ks := ks) (bl := bl) h38.1 h38.2 hg)
  have HCD : Hid (calS st l kb ks bl t = jnK (calW st l kb ks bl t) (calW st l kb ks bl t).length) := Lib.hid rfl
  have HCW := Lib.hid (calW_len (st := st) (l := l) (kb := kb) (ks := ks) (bl := bl) (t := t))
  have H0 := h.up b0
  have HHD := Lib.hid (fun j (hj : j < t.size + 1) => hdsL_at (st := st) (l := l) (b := kb) (s := ks) (t := t) (k := t.size + 1) (j := j) hj)
  clear hg
  go_in
  go_wp2_with fail
  refine (impl_heads hn H0 hk HG.out).mono ?_; rintro e w1 ⟨A1, c1, rfl, ho, hb1⟩
  obtain ⟨g, rfl, g0, g1, gc, _⟩ := ho.at_ (by omega)
  obtain ⟨M, hM⟩ : ∃ u, u = t.size + 1 := ⟨_, rfl⟩
  have hM1 : t.size < M := by omega
  rw [← hM]
  clear hM
  have HCG := Lib.hid (fun j (hj : j < t.size + 1) => show w1.cell? ⟨g, j, none⟩ = some (.string (hdAt st l kb ks t j)) from by simpa using gc j _ 0 _ (HHD.out j hj) rfl)
  have B1 := below_go b0 hb1
  have K1 := K0.up hb1
  have J1 := J0.up hb1
  have HH1 := Lib.hid (H0.up hb1)
  have carry : Hid (∀ u : World, Below w1.heap.size w1 u → u.cell? ⟨w.heap.size, 0, none⟩ = some (.string nm) ∧ u.cell? ⟨w.heap.size, 1, none⟩ = some (.int .i64 (st : Int)) ∧ u.cell? ⟨w.heap.size, 2, none⟩ = some (.slice A n c) ∧ u.cell? ⟨w.heap.size + 1, 0, none⟩ = some (.string kb) ∧ u.cell? ⟨w.heap.size + 1, 1, none⟩ = some (.string ks)) := Lib.hid (fun u hu => by
    have L0 := K1.up hu
    have L1 := J1.up hu
    exact ⟨by simpa using L0.cell 0, by simpa using L0.cell 1, by simpa using L0.cell 2, by simpa using L1.cell 0, by simpa using L1.cell 1⟩)
  have carG : Hid (∀ (u : World) (j : Nat), Below w1.heap.size w1 u → j < t.size + 1 → u.cell? ⟨g, j, none⟩ = some (.string (hdAt st l kb ks t j))) := Lib.hid (fun u j hu hj => by
    have h1 := HCG.out j hj
    rw [← h1]
    exact (grown_of_below hu).cell_far ⟨g, j, none⟩ g1 (by simp))
  have HOE := Lib.hid (Owned.empty (base := w1.heap.size) (E := 9) strE_len w1 (Nat.le_refl _))
  clear gc ho K0 J0 K1 J1 H0 h b0 hb1 HCG HHD
  go_wp2
  go_loopw [10, 11, 25] (fun v s i wr => ∃ (k : Nat) (A' : Option Addr) (m c' : Nat), k ≤ t.size ∧ v = .slice A' m c' ∧ s = .int .i64 ((wdA st l kb ks bl t k).2 : Nat) ∧ i = .int .i64 k ∧ Hid (Owned strE 1 9 wr w1.heap.size A' m c' (wdA st l kb ks bl t k).1) ∧ Hid (Below w1.heap.size w1 wr)) (fun _ _ i _ => t.size - (intOf i).toNat)
  case atStart => exact ⟨0, _, _, _, Nat.zero_le _, rfl, rfl, rfl, HOE, Lib.hid (by (repeat' (first | (with_reducible exact Below.refl _ _) | (with_reducible assumption) | (with_reducible refine below_drewN ?_ _) | (with_reducible refine Below.drew ?_) | (with_reducible refine below_alloc ?_ _) | (with_reducible refine Below.alloc ?_ ?_ _) | (with_reducible refine Below.setCell ?_ ?_ _) | (with_reducible refine below_go ?_ (by with_reducible assumption)) | (with_reducible refine below_then (by with_reducible assumption) ?_ ?_) | go_size)))⟩
  case round =>
    obtain ⟨k, A0, m0, c0, hk1, rfl, rfl, rfl, HO, HB⟩ := hrel
    rename World => wo
    have hm0 : m0 ≤ 60 := by have := HO.out.len; have := HWN.out k; omega
    have hMz := HB.out.size
    have ha := HWL.out k
    have HW2 := HWP.out k
    have HW3 := HWC.out k
    obtain ⟨W, hW⟩ : ∃ u, u = (wdA st l kb ks bl t k).1 := ⟨_, rfl⟩
    obtain ⟨a, haa⟩ : ∃ u, u = (wdA st l kb ks bl t k).2 := ⟨_, rfl⟩
    rw [← haa] at ha HW3 ⊢
    rw [← hW] at HO HW3
    have HWW := Lib.hid (show wdA st l kb ks bl t k = (W, a) by rw [hW, haa])
    have HWP2 := Lib.hid HW2
    have HWC2 := Lib.hid HW3
    clear hW haa HW2 HW3
    by_cases hlt : k < t.size
    · have hI : (k : Int) < (t.size : Int) := by omega
      have hI2 : (k : Int) + 1 ≤ (t.size : Int) := by omega
      rcases hp : isP (letter t k)
      · have hpx : ((t.extract k (k + 1)).toList == [112]) = false := hp
        have HP := Lib.hid hp
        have c5 := carG.out _ (k + 1) HB.out (by omega)
        have hJ1 : (k : Int) + 1 < (M : Int) := by omega
        have hJ0 : (0 : Int) ≤ (k : Int) + 1 := by omega
        have hJ2 : k + 1 < M := by omega
        clear hp
        have hpl := HPL.out k
        rw [show plI st l kb ks bl t k = plA st l kb ks bl (hdAt st l kb ks t k) (letter t k) from rfl] at hpl
        have HPO := Lib.hid (fun (u : World) => HPCC.out k (letter t k) u)
        obtain ⟨p, hpp⟩ : ∃ u, u = plA st l kb ks bl (hdAt st l kb ks t k) (letter t k) := ⟨_, rfl⟩
        rw [← hpp] at hpl HPO
        have HPP := Lib.hid hpp
        have hC1 : (t.extract k (k + 1)).size = 1 := by rw [ByteArray.size_extract]; omega
        go_wp2_with fail
        refine (HPO.out _).mono ?_; rintro e w2 ⟨rfl, rfl⟩
        clear hpp c5 HPO
        go_wp2
        go_loopw [15, 16] (fun v j wr => ∃ i : Nat, a ≤ i ∧ i ≤ k ∧ v = .int .i64 (cntA st l kb ks bl t (letter t k) p a (i - a) : Nat) ∧ j = .int .i64 i ∧ Hid (Below wo.heap.size wo wr)) (fun _ j _ => k - (intOf j).toNat)
        case atStart => exact ⟨a, Nat.le_refl _, ha, by rw [Nat.sub_self, cntA_zero]; rfl, rfl, Lib.hid (Below.refl _ _)⟩
        case round =>
          obtain ⟨j, hj1, hj2, rfl, rfl, HBj⟩ := hrel
          rename World => wq
          have hcl := cntA_le (st := st) (l := l) (kb := kb) (ks := ks) (bl := bl) (t := t) (letter t k) p a (j - a)
          obtain ⟨N, hN⟩ : ∃ u, u = cntA st l kb ks bl t (letter t k) p a (j - a) := ⟨_, rfl⟩
          rw [← hN] at hcl ⊢
          have HN := Lib.hid hN
          have hN60 : N ≤ 60 := by omega
          clear hN hcl
          by_cases hjt : j < k
          · have hIj : (j : Int) < (k : Int) := by omega
            have hJ1' : (j : Int) < (M : Int) := by omega
            have hJ0' : (0 : Int) ≤ (j : Int) := by omega
            have hJ2' : j < M := by omega
            have HHq := Lib.hid (HH1.out.up (below_go HB.out HBj.out))
            have carQ : Hid (∀ u : World, Below wq.heap.size wq u → u.cell? ⟨w.heap.size, 0, none⟩ = some (.string nm) ∧ u.cell? ⟨w.heap.size, 1, none⟩ = some (.int .i64 (st : Int)) ∧ u.cell? ⟨w.heap.size, 2, none⟩ = some (.slice A n c) ∧ u.cell? ⟨w.heap.size + 1, 0, none⟩ = some (.string kb) ∧ u.cell? ⟨w.heap.size + 1, 1, none⟩ = some (.string ks) ∧ u.cell? ⟨g, j, none⟩ = some (.string (hdAt st l kb ks t j))) := Lib.hid (fun u hu => by
              have h1 := below_go (below_go HB.out HBj.out) hu
              obtain ⟨q0, q1, q2, q3, q4⟩ := carry.out u h1
              exact ⟨q0, q1, q2, q3, q4, carG.out u j h1 (by omega)⟩)
            have d0 := (carQ.out _ (Below.refl _ _)).1; have d1 := (carQ.out _ (Below.refl _ _)).2.1; have d2 := (carQ.out _ (Below.refl _ _)).2.2.1; have d3 := (carQ.out _ (Below.refl _ _)).2.2.2.1; have d4 := (carQ.out _ (Below.refl _ _)).2.2.2.2.1; have d5 := (carQ.out _ (Below.refl _ _)).2.2.2.2.2
            have hja : a + (j - a) = j := by omega
            have hja2 : j - a + 1 = j + 1 - a := by omega
            have HCS : Hid (cntA st l kb ks bl t (letter t k) p a (j + 1 - a) = N + (if hitA st l kb ks bl t (letter t k) p j = true then 1 else 0)) := Lib.hid (by
              have h1 := cntA_succ (st := st) (l := l) (kb := kb) (ks := ks) (bl := bl) (t := t) (letter t k) p a (j - a)
              rw [hja, hja2, ← HN.out] at h1
              exact h1)
            clear hja hja2
            have HHIT : Hid (hitA st l kb ks bl t (letter t k) p j = decide (plA st l kb ks bl (hdAt st l kb ks t j) (letter t k) = p)) := Lib.hid rfl
            have HPC := Lib.hid (fun (u : World) => HPCC.out j (letter t k) u)
            have p1 := HR.out j
            have p2 := HC8.out (letter t k)
            have z1 : (hdAt st l kb ks t j).size ≤ 16777216 := by rw [p1.2]; omega
            have z2 : (callHd st l kb ks (letter t k)).size ≤ 16777216 := by rw [p2.2]; omega
            have hft : fits (hdAt st l kb ks t j) (callHd st l kb ks (letter t k)) := fits_good p2.1 (by rw [p2.2, p1.2])
            clear p1 p2
            obtain ⟨q, hqq⟩ : ∃ u, u = plA st l kb ks bl (hdAt st l kb ks t j) (letter t k) := ⟨_, rfl⟩
            rw [← hqq] at HHIT HPC
            clear hqq
            by_cases hqp : q = p
            · have e1 := Lib.hid (show cntA st l kb ks bl t (letter t k) p a (j + 1 - a) = N + 1 by rw [HCS.out, HHIT.out, decide_eq_true hqp, if_pos rfl])
              have hb1 : ((q : Int) == (p : Int)) = true := by rw [beq_iff_eq]; omega
              clear hqp HHIT
              go_upto_region 14 with fail
              refine wp_region_held_drew (S := fun u => u.cell? ⟨w.heap.size, 0, none⟩ = some (.string nm) ∧ u.cell? ⟨w.heap.size, 1, none⟩ = some (.int .i64 (st : Int)) ∧ u.cell? ⟨w.heap.size, 2, none⟩ = some (.slice A n c) ∧ u.cell? ⟨w.heap.size + 1, 0, none⟩ = some (.string kb) ∧ u.cell? ⟨w.heap.size + 1, 1, none⟩ = some (.string ks) ∧ u.cell? ⟨g, j, none⟩ = some (.string (hdAt st l kb ks t j))) (by kernel_rfl) (carQ.out _ (Below.refl _ _).drew) (fun hHeld => ?_)
              refine wpAnyH_take (i := 0) (oi := { dst := some 48, op := _, type := _, pos := _, after := _, guard := _ }) (v := ?_) rfl (by kernel_rfl) (by kernel_rfl) (by kernel_rfl) (fun _ _ _ h => h) (Or.inl ⟨by rfl, ?_⟩) (by assumption) ?_
              rotate_left
              · (intro w hSw; (try dsimp only at hSw); go_simp) <;> with_reducible rfl
              (try simp only [Act.put, List.setIfInBounds_toArray, List.set_cons_zero, List.set_cons_succ])
              refine wpAnyH_take (i := 1) (oi := { dst := some 49, op := _, type := _, pos := _, after := _, guard := _ }) (v := ?_) rfl (by kernel_rfl) (by kernel_rfl) (by kernel_rfl) (fun _ _ _ h => h) (Or.inl ⟨by rfl, ?_⟩) (by assumption) ?_
              rotate_left
              · (intro w hSw; (try dsimp only at hSw); go_simp) <;> with_reducible rfl
              (try simp only [Act.put, List.setIfInBounds_toArray, List.set_cons_zero, List.set_cons_succ])
              refine wpAnyH_take (i := 2) (oi := { dst := some 50, op := _, type := _, pos := _, after := _, guard := _ }) (v := ?_) rfl (by kernel_rfl) (by kernel_rfl) (by kernel_rfl) (fun _ _ _ h => h) (Or.inl ⟨by rfl, ?_⟩) (by assumption) ?_
              rotate_left
              · (intro w hSw; (try dsimp only at hSw); go_simp) <;> with_reducible rfl
              (try simp only [Act.put, List.setIfInBounds_toArray, List.set_cons_zero, List.set_cons_succ])
              refine wpAnyH_take (i := 3) (oi := { dst := some 51, op := _, type := _, pos := _, after := _, guard := _ }) (v := ?_) rfl (by kernel_rfl) (by kernel_rfl) (by kernel_rfl) (fun _ _ _ h => h) (Or.inl ⟨by rfl, ?_⟩) (by assumption) ?_
              rotate_left
              · (intro w hSw; (try dsimp only at hSw); go_simp) <;> with_reducible rfl
              (try simp only [Act.put, List.setIfInBounds_toArray, List.set_cons_zero, List.set_cons_succ])
              refine wpAnyH_take (i := 4) (oi := { dst := some 52, op := _, type := _, pos := _, after := _, guard := _ }) (v := ?_) rfl (by kernel_rfl) (by kernel_rfl) (by kernel_rfl) (fun _ _ _ h => h) (Or.inl ⟨by rfl, ?_⟩) (by assumption) ?_
              rotate_left
              · (intro w hSw; (try dsimp only at hSw); go_simp) <;> with_reducible rfl
              (try simp only [Act.put, List.setIfInBounds_toArray, List.set_cons_zero, List.set_cons_succ])
              refine wpAnyH_take (i := 5) (oi := { dst := some 53, op := _, type := _, pos := _, after := _, guard := _ }) (v := ?_) rfl (by kernel_rfl) (by kernel_rfl) (by kernel_rfl) (fun _ _ _ h => h) (Or.inl ⟨by rfl, ?_⟩) (by assumption) ?_
              rotate_left
              · (intro w hSw; (try dsimp only at hSw); go_simp) <;> with_reducible rfl
              (try simp only [Act.put, List.setIfInBounds_toArray, List.set_cons_zero, List.set_cons_succ])
              refine wpAnyH_take (i := 6) (oi := { dst := some 54, op := _, type := _, pos := _, after := _, guard := _ }) (v := ?_) rfl (by kernel_rfl) (by kernel_rfl) (by kernel_rfl) (fun _ _ _ h => h) (Or.inl ⟨by rfl, ?_⟩) (by assumption) ?_
              rotate_left
              · (intro w hSw; (try dsimp only at hSw); go_simp) <;> with_reducible rfl
              (try simp only [Act.put, List.setIfInBounds_toArray, List.set_cons_zero, List.set_cons_succ])
              refine wpAnyH_take (i := 9) (oi := { dst := some 57, op := _, type := _, pos := _, after := _, guard := _ }) (v := ?_) rfl (by kernel_rfl) (by kernel_rfl) (by kernel_rfl) (fun _ _ _ h => h) (Or.inl ⟨by rfl, ?_⟩) (by assumption) ?_
              rotate_left
              · (intro w hSw; (try dsimp only at hSw); go_simp) <;> with_reducible rfl
              (try simp only [Act.put, List.setIfInBounds_toArray, List.set_cons_zero, List.set_cons_succ])
              refine wpAnyH_take (i := 11) (oi := { dst := some 59, op := _, type := _, pos := _, after := _, guard := _ }) (v := ?_) rfl (by kernel_rfl) (by kernel_rfl) (by kernel_rfl) (fun _ _ _ h => h) (Or.inl ⟨by rfl, ?_⟩) (by assumption) ?_
              rotate_left
              · (intro w hSw; (try dsimp only at hSw); go_simp) <;> with_reducible rfl
              (try simp only [Act.put, List.setIfInBounds_toArray, List.set_cons_zero, List.set_cons_succ])
              refine wpAnyH_ready (rs := [7]) (by kernel_rfl) (by simp) ?_
              refine AllReadyH.cons (o := _) rfl (fun K hK => ?_) AllReadyH.nil
              go_simp
              refine (impl_callHead (c := c) (s := letter t k) hn HHq.out.drew HK.out).mono ?_; rintro e w3 ⟨rfl, hbd⟩
              have hbZ := below_of_drew hbd
              try go_wp2_with fail
              refine hK.out _ _ (carQ.out _ hbZ) (fun hHeld => ?_)
              clear hK K
              (try simp only [Act.put, List.setIfInBounds_toArray, List.set_cons_zero, List.set_cons_succ])
              refine wpAnyH_ready (rs := [8]) (by kernel_rfl) (by simp) ?_
              refine AllReadyH.cons (o := _) rfl (fun K hK => ?_) AllReadyH.nil
              go_simp
              refine (impl_times z1 z2 hft).mono ?_; rintro e w4 ⟨rfl, hb4⟩
              have hbY := below_go hbZ hb4
              try go_wp2_with fail
              refine hK.out _ _ (carQ.out _ hbY) (fun hHeld => ?_)
              clear hK K
              (try simp only [Act.put, List.setIfInBounds_toArray, List.set_cons_zero, List.set_cons_succ])
              refine wpAnyH_ready (rs := [10]) (by kernel_rfl) (by simp) ?_
              refine AllReadyH.cons (o := _) rfl (fun K hK => ?_) AllReadyH.nil
              go_simp
              refine (HPC.out _).mono ?_; rintro e w5 ⟨rfl, rfl⟩
              try go_wp2_with fail
              refine hK.out _ _ (carQ.out _ hbY) (fun hHeld => ?_)
              clear hK K
              (try simp only [Act.put, List.setIfInBounds_toArray, List.set_cons_zero, List.set_cons_succ])
              refine wpAnyH_take (i := 12) (oi := { dst := some 60, op := _, type := _, pos := _, after := _, guard := _ }) (v := ?_) rfl (by kernel_rfl) (by kernel_rfl) (by kernel_rfl) (fun _ _ _ h => h) (Or.inl ⟨by rfl, ?_⟩) (by assumption) ?_
              rotate_left
              · (intro w hSw; (try dsimp only at hSw); go_simp) <;> with_reducible rfl
              (try simp only [Act.put, List.setIfInBounds_toArray, List.set_cons_zero, List.set_cons_succ])
              refine wpAnyH_done (by kernel_rfl) ?_ _
              (try simp only [Act.put, List.setIfInBounds_toArray, List.set_cons_zero, List.set_cons_succ])
              have HB3 := Lib.hid (below_go HBj.out hbY)
              clear hbZ hbd hbY hb4 d0 d1 d2 d3 d4 d5 carQ HHq hHeld HPC z1 z2 hft
              go_wp2
              go_roundw
              case rel => exact ⟨j + 1, by omega, by omega, by rw [e1.out]; go_num, by go_num, HB3⟩
              case measure => simp [intOf]; omega
            · have e1 := Lib.hid (show cntA st l kb ks bl t (letter t k) p a (j + 1 - a) = N by rw [HCS.out, HHIT.out, decide_eq_false hqp, if_neg (by simp)]; rfl)
              have hb1 : ((q : Int) == (p : Int)) = false := by rw [beq_eq_false_iff_ne]; omega
              clear hqp HHIT
              go_upto_region 14 with fail
              refine wp_region_held_drew (S := fun u => u.cell? ⟨w.heap.size, 0, none⟩ = some (.string nm) ∧ u.cell? ⟨w.heap.size, 1, none⟩ = some (.int .i64 (st : Int)) ∧ u.cell? ⟨w.heap.size, 2, none⟩ = some (.slice A n c) ∧ u.cell? ⟨w.heap.size + 1, 0, none⟩ = some (.string kb) ∧ u.cell? ⟨w.heap.size + 1, 1, none⟩ = some (.string ks) ∧ u.cell? ⟨g, j, none⟩ = some (.string (hdAt st l kb ks t j))) (by kernel_rfl) (carQ.out _ (Below.refl _ _).drew) (fun hHeld => ?_)
              refine wpAnyH_take (i := 0) (oi := { dst := some 48, op := _, type := _, pos := _, after := _, guard := _ }) (v := ?_) rfl (by kernel_rfl) (by kernel_rfl) (by kernel_rfl) (fun _ _ _ h => h) (Or.inl ⟨by rfl, ?_⟩) (by assumption) ?_
              rotate_left
              · (intro w hSw; (try dsimp only at hSw); go_simp) <;> with_reducible rfl
              (try simp only [Act.put, List.setIfInBounds_toArray, List.set_cons_zero, List.set_cons_succ])
              refine wpAnyH_take (i := 1) (oi := { dst := some 49, op := _, type := _, pos := _, after := _, guard := _ }) (v := ?_) rfl (by kernel_rfl) (by kernel_rfl) (by kernel_rfl) (fun _ _ _ h => h) (Or.inl ⟨by rfl, ?_⟩) (by assumption) ?_
              rotate_left
              · (intro w hSw; (try dsimp only at hSw); go_simp) <;> with_reducible rfl
              (try simp only [Act.put, List.setIfInBounds_toArray, List.set_cons_zero, List.set_cons_succ])
              refine wpAnyH_take (i := 2) (oi := { dst := some 50, op := _, type := _, pos := _, after := _, guard := _ }) (v := ?_) rfl (by kernel_rfl) (by kernel_rfl) (by kernel_rfl) (fun _ _ _ h => h) (Or.inl ⟨by rfl, ?_⟩) (by assumption) ?_
              rotate_left
              · (intro w hSw; (try dsimp only at hSw); go_simp) <;> with_reducible rfl
              (try simp only [Act.put, List.setIfInBounds_toArray, List.set_cons_zero, List.set_cons_succ])
              refine wpAnyH_take (i := 3) (oi := { dst := some 51, op := _, type := _, pos := _, after := _, guard := _ }) (v := ?_) rfl (by kernel_rfl) (by kernel_rfl) (by kernel_rfl) (fun _ _ _ h => h) (Or.inl ⟨by rfl, ?_⟩) (by assumption) ?_
              rotate_left
              · (intro w hSw; (try dsimp only at hSw); go_simp) <;> with_reducible rfl
              (try simp only [Act.put, List.setIfInBounds_toArray, List.set_cons_zero, List.set_cons_succ])
              refine wpAnyH_take (i := 4) (oi := { dst := some 52, op := _, type := _, pos := _, after := _, guard := _ }) (v := ?_) rfl (by kernel_rfl) (by kernel_rfl) (by kernel_rfl) (fun _ _ _ h => h) (Or.inl ⟨by rfl, ?_⟩) (by assumption) ?_
              rotate_left
              · (intro w hSw; (try dsimp only at hSw); go_simp) <;> with_reducible rfl
              (try simp only [Act.put, List.setIfInBounds_toArray, List.set_cons_zero, List.set_cons_succ])
              refine wpAnyH_take (i := 5) (oi := { dst := some 53, op := _, type := _, pos := _, after := _, guard := _ }) (v := ?_) rfl (by kernel_rfl) (by kernel_rfl) (by kernel_rfl) (fun _ _ _ h => h) (Or.inl ⟨by rfl, ?_⟩) (by assumption) ?_
              rotate_left
              · (intro w hSw; (try dsimp only at hSw); go_simp) <;> with_reducible rfl
              (try simp only [Act.put, List.setIfInBounds_toArray, List.set_cons_zero, List.set_cons_succ])
              refine wpAnyH_take (i := 6) (oi := { dst := some 54, op := _, type := _, pos := _, after := _, guard := _ }) (v := ?_) rfl (by kernel_rfl) (by kernel_rfl) (by kernel_rfl) (fun _ _ _ h => h) (Or.inl ⟨by rfl, ?_⟩) (by assumption) ?_
              rotate_left
              · (intro w hSw; (try dsimp only at hSw); go_simp) <;> with_reducible rfl
              (try simp only [Act.put, List.setIfInBounds_toArray, List.set_cons_zero, List.set_cons_succ])
              refine wpAnyH_take (i := 9) (oi := { dst := some 57, op := _, type := _, pos := _, after := _, guard := _ }) (v := ?_) rfl (by kernel_rfl) (by kernel_rfl) (by kernel_rfl) (fun _ _ _ h => h) (Or.inl ⟨by rfl, ?_⟩) (by assumption) ?_
              rotate_left
              · (intro w hSw; (try dsimp only at hSw); go_simp) <;> with_reducible rfl
              (try simp only [Act.put, List.setIfInBounds_toArray, List.set_cons_zero, List.set_cons_succ])
              refine wpAnyH_take (i := 11) (oi := { dst := some 59, op := _, type := _, pos := _, after := _, guard := _ }) (v := ?_) rfl (by kernel_rfl) (by kernel_rfl) (by kernel_rfl) (fun _ _ _ h => h) (Or.inl ⟨by rfl, ?_⟩) (by assumption) ?_
              rotate_left
              · (intro w hSw; (try dsimp only at hSw); go_simp) <;> with_reducible rfl
              (try simp only [Act.put, List.setIfInBounds_toArray, List.set_cons_zero, List.set_cons_succ])
              refine wpAnyH_ready (rs := [7]) (by kernel_rfl) (by simp) ?_
              refine AllReadyH.cons (o := _) rfl (fun K hK => ?_) AllReadyH.nil
              go_simp
              refine (impl_callHead (c := c) (s := letter t k) hn HHq.out.drew HK.out).mono ?_; rintro e w3 ⟨rfl, hbd⟩
              have hbZ := below_of_drew hbd
              try go_wp2_with fail
              refine hK.out _ _ (carQ.out _ hbZ) (fun hHeld => ?_)
              clear hK K
              (try simp only [Act.put, List.setIfInBounds_toArray, List.set_cons_zero, List.set_cons_succ])
              refine wpAnyH_ready (rs := [8]) (by kernel_rfl) (by simp) ?_
              refine AllReadyH.cons (o := _) rfl (fun K hK => ?_) AllReadyH.nil
              go_simp
              refine (impl_times z1 z2 hft).mono ?_; rintro e w4 ⟨rfl, hb4⟩
              have hbY := below_go hbZ hb4
              try go_wp2_with fail
              refine hK.out _ _ (carQ.out _ hbY) (fun hHeld => ?_)
              clear hK K
              (try simp only [Act.put, List.setIfInBounds_toArray, List.set_cons_zero, List.set_cons_succ])
              refine wpAnyH_ready (rs := [10]) (by kernel_rfl) (by simp) ?_
              refine AllReadyH.cons (o := _) rfl (fun K hK => ?_) AllReadyH.nil
              go_simp
              refine (HPC.out _).mono ?_; rintro e w5 ⟨rfl, rfl⟩
              try go_wp2_with fail
              refine hK.out _ _ (carQ.out _ hbY) (fun hHeld => ?_)
              clear hK K
              (try simp only [Act.put, List.setIfInBounds_toArray, List.set_cons_zero, List.set_cons_succ])
              refine wpAnyH_take (i := 12) (oi := { dst := some 60, op := _, type := _, pos := _, after := _, guard := _ }) (v := ?_) rfl (by kernel_rfl) (by kernel_rfl) (by kernel_rfl) (fun _ _ _ h => h) (Or.inl ⟨by rfl, ?_⟩) (by assumption) ?_
              rotate_left
              · (intro w hSw; (try dsimp only at hSw); go_simp) <;> with_reducible rfl
              (try simp only [Act.put, List.setIfInBounds_toArray, List.set_cons_zero, List.set_cons_succ])
              refine wpAnyH_done (by kernel_rfl) ?_ _
              (try simp only [Act.put, List.setIfInBounds_toArray, List.set_cons_zero, List.set_cons_succ])
              have HB3 := Lib.hid (below_go HBj.out hbY)
              clear hbZ hbd hbY hb4 d0 d1 d2 d3 d4 d5 carQ HHq hHeld HPC z1 z2 hft
              go_wp2
              go_roundw
              case rel => exact ⟨j + 1, by omega, by omega, by rw [e1.out], by go_num, HB3⟩
              case measure => simp [intOf]; omega
          · obtain rfl : j = k := by omega
            have hIj : ¬ (j : Int) < (j : Int) := by omega
            have HIT := Lib.hid (show itemA st l kb ks bl t j a = (t.extract j (j + 1) ++ decS p) ++ (if N = 0 then ⟨#[]⟩ else ⟨#[43]⟩ ++ decS N) by rw [itemA, ← HPP.out, ← HN.out]; rfl)
            have HNX := Lib.hid (HWC2.out HP.out)
            obtain ⟨X, hX⟩ : ∃ u, u = itemA st l kb ks bl t j a := ⟨_, rfl⟩
            rw [← hX] at HIT HNX
            obtain ⟨C, hCC⟩ : ∃ u, u = t.extract j (j + 1) := ⟨_, rfl⟩
            rw [← hCC] at HIT hC1
            have HCE := Lib.hid hCC
            have hD := dec_sz3 (n := p) (by omega)
            have hE := dec_sz3 hN60
            have HD1 := Lib.hid (fun (u : World) => impl_decimal_s (i := p) (w := u) (by omega))
            have HE1 := Lib.hid (fun (u : World) => impl_decimal_s (i := N) (w := u) (by omega))
            obtain ⟨D, hDD⟩ : ∃ u, u = decS p := ⟨_, rfl⟩
            rw [← hDD] at HIT hD HD1
            obtain ⟨E, hEE⟩ : ∃ u, u = decS N := ⟨_, rfl⟩
            rw [← hEE] at HIT hE HE1
            have s43 : (⟨#[43]⟩ : ByteArray).size = 1 := rfl
            have o1 : ¬ 9223372036854775807 < C.size + D.size := by omega
            have o5 : ¬ 9223372036854775807 < (⟨#[43]⟩ : ByteArray).size + E.size := by omega
            have o6 : ¬ 9223372036854775807 < (C ++ D).size + ((⟨#[43]⟩ : ByteArray) ++ E).size := by rw [ByteArray.size_append, ByteArray.size_append]; omega
            have o6' : ¬ 9223372036854775807 < C.size + D.size + ((⟨#[43]⟩ : ByteArray).size + E.size) := by omega
            have HO1 := Lib.hid (HO.out.up HBj.out)
            have HBq := Lib.hid (below_go HB.out HBj.out)
            have hsq := HBq.out.size
            rw [← hCC]
            clear hX hCC hDD hEE hpx HN HPP
            by_cases hN0 : N = 0
            · have hN0I : ¬ (0 : Int) < (N : Int) := by omega
              have HV := Lib.hid (show C ++ D = X by rw [HIT.out, if_pos hN0, spec_app_empty])
              clear hN0
              go_wp2_with fail
              refine (HD1.out _).mono ?_; rintro e w4 ⟨rfl, rfl⟩
              go_wp2_with (first | (at_builtin; go_must ((refine wpList_append_rec Tryz.elStr rfl (.tmp 74) (.tmp 76) rfl rfl (HO1.out.alloc _) (C ++ D) rfl (Box.at_ _ [.string (C ++ D)] _ ?_) (strE_one _) ?_ (by decide) ?_ ?_; (focus (first | omega | (simp only [World.size_alloc]; done) | (simp only [World.size_alloc]; omega) | (simp; done) | (simp; omega))); (focus (first | omega | (simp only [World.size_alloc]; done) | (simp only [World.size_alloc]; omega) | (simp; done) | (simp; omega))); (focus (first | omega | (simp only [World.size_alloc]; done) | (simp only [World.size_alloc]; omega) | (simp; done) | (simp; omega))); intro A2 c2 w6 ho6 hg6 hb6))))
              go_roundw
              case rel => exact ⟨j + 1, A2, m0 + 1, c2, by omega, by go_num, by rw [HNX.out]; go_num, by go_num, Lib.hid (by rw [HNX.out]; rw [HV.out] at ho6; exact ho6), Lib.hid ((HBq.out.alloc hsq _).trans hb6)⟩
              case measure => simp [intOf]; omega
            · have hN0I : (0 : Int) < (N : Int) := by omega
              have HV := Lib.hid (show (C ++ D) ++ (⟨#[43]⟩ ++ E) = X by rw [HIT.out, if_neg hN0])
              clear hN0
              go_wp2_with fail
              refine (HD1.out _).mono ?_; rintro e w4 ⟨rfl, rfl⟩
              go_wp2_with fail
              refine (HE1.out _).mono ?_; rintro e w4 ⟨rfl, rfl⟩
              go_wp2_with (first | (at_builtin; go_must ((refine wpList_append_rec Tryz.elStr rfl (.tmp 74) (.tmp 76) rfl rfl (HO1.out.alloc _) ((C ++ D) ++ (⟨#[43]⟩ ++ E)) rfl (Box.at_ _ [.string ((C ++ D) ++ (⟨#[43]⟩ ++ E))] _ ?_) (strE_one _) ?_ (by decide) ?_ ?_; (focus (first | omega | (simp only [World.size_alloc]; done) | (simp only [World.size_alloc]; omega) | (simp; done) | (simp; omega))); (focus (first | omega | (simp only [World.size_alloc]; done) | (simp only [World.size_alloc]; omega) | (simp; done) | (simp; omega))); (focus (first | omega | (simp only [World.size_alloc]; done) | (simp only [World.size_alloc]; omega) | (simp; done) | (simp; omega))); intro A2 c2 w6 ho6 hg6 hb6))))
              go_roundw
              case rel => exact ⟨j + 1, A2, m0 + 1, c2, by omega, by go_num, by rw [HNX.out]; go_num, by go_num, Lib.hid (by rw [HNX.out]; rw [HV.out] at ho6; exact ho6), Lib.hid ((HBq.out.alloc hsq _).trans hb6)⟩
              case measure => simp [intOf]; omega
      · have hpx : ((t.extract k (k + 1)).toList == [112]) = true := hp
        have HNX := Lib.hid (HWP2.out hp)
        clear hp
        go_wp2
        go_roundw
        case rel => exact ⟨k + 1, A0, m0, c0, by omega, rfl, by rw [HNX.out, HWW.out], by go_num, Lib.hid (by rw [HNX.out, HWW.out]; exact HO.out), HB⟩
        case measure => simp [intOf]; omega
    · obtain rfl : k = t.size := by omega
      have hI : ¬ (t.size : Int) < (t.size : Int) := by omega
      have HCV : Hid (calW st l kb ks bl t = if a < t.size then W ++ [⟨#[112]⟩ ++ decS (t.size - a)] else W) := Lib.hid (by rw [calW, HWW.out])
      by_cases haT : a < t.size
      · have hq : (a : Int) < (t.size : Int) := by omega
        obtain ⟨m, hm⟩ : ∃ u, u = t.size - a := ⟨_, rfl⟩
        have hmI : (t.size : Int) - (a : Int) = (m : Int) := by omega
        have hm60 : m ≤ 60 := by omega
        rw [← hm, if_pos haT] at HCV
        have hE := dec_sz3 hm60
        have HE1 := Lib.hid (fun (u : World) => impl_decimal_s (i := m) (w := u) (by omega))
        obtain ⟨E, hEE⟩ : ∃ u, u = decS m := ⟨_, rfl⟩
        rw [← hEE] at HCV hE HE1
        have o1 : ¬ 9223372036854775807 < (⟨#[112]⟩ : ByteArray).size + E.size := by have : (⟨#[112]⟩ : ByteArray).size = 1 := rfl; omega
        have HO1 := Lib.hid HO.out
        clear haT hm hEE
        go_wp2_with fail
        refine (HE1.out _).mono ?_; rintro e w4 ⟨rfl, rfl⟩
        go_wp2_with (first | (at_builtin; go_must ((refine wpList_append_rec Tryz.elStr rfl (.tmp 85) (.tmp 92) rfl rfl (HO1.out.alloc _) (⟨#[112]⟩ ++ E) rfl (Box.at_ _ [.string (⟨#[112]⟩ ++ E)] _ ?_) (strE_one _) ?_ (by decide) ?_ ?_; (focus (first | omega | (simp only [World.size_alloc]; done) | (simp only [World.size_alloc]; omega) | (simp; done) | (simp; omega))); (focus (first | omega | (simp only [World.size_alloc]; done) | (simp only [World.size_alloc]; omega) | (simp; done) | (simp; omega))); (focus (first | omega | (simp only [World.size_alloc]; done) | (simp only [World.size_alloc]; omega) | (simp; done) | (simp; omega))); intro A2 c2 w6 ho6 hg6 hb6))))
        rw [← HCV.out] at ho6
        have hj540 := HCZ.out
        rw [HCD.out] at hj540
        have HR6 := Lib.hid ho6.recs
        have hc6 := ho6.cap
        have hl6 := ho6.len
        have B6 := (HB.out.alloc hMz _).trans hb6
        refine (impl_joined hl6 HR6.out hc6.1 (by omega) (by omega)).mono ?_; rw [← HCD.out]; rintro e w7 ⟨rfl, hb7⟩
        go_wp2
        go_ret
        exact ⟨rfl, below_go (below_go B1 B6) hb7⟩
      · have hq : ¬ (a : Int) < (t.size : Int) := by omega
        rw [if_neg haT] at HCV
        rw [← HCV.out] at HO
        have hj540 := HCZ.out
        rw [HCD.out] at hj540
        have HR6 := Lib.hid HO.out.recs
        have hc6 := HO.out.cap
        have hl6 := HO.out.len
        clear haT
        go_wp2_with fail
        refine (impl_joined hl6 HR6.out hc6.1 (by omega) (by omega)).mono ?_; rw [← HCD.out]; rintro e w7 ⟨rfl, hb7⟩
        go_wp2
        go_ret
        exact ⟨rfl, below_go (below_go B1 HB.out) hb7⟩
end Go.Proofs.YtidolgonmimicaaGreatDoor
/-
  DERIVED: THE SHELF's CONTRACTS AT THIS DUMP, IN PLAIN WORDS (tools/lay-plain.mjs out of 'YtidolgonmimicaaGreatDoorShelf.lean', which tools/lay-shelf.mjs wrote): THE SAME DECLARATIONS UNDER THE SAME NAMES: 'import', 'namespace', 'open', 'def', 'theorem' AND NOTHING ELSE: no command of the shelf's: FOR A HAND-IN. Each laying: the table of numbers ('.._ren') and one theorem, a field a fact of the dump's own or the kernel's comparison; each contract: ONE APPLICATION.
-/
namespace Go.Proofs
open Go.Shelf
def Tryz.lays145_ren : Go.Shelf.Ren := ⟨fun | 145 => 77 | 220 => 96 | 219 => 108 | 217 => 118 | 225 => 119 | 224 => 120 | 267 => 121 | 266 => 128 | 314 => 129 | n => n, fun | 9 => 9 | 4 => 4 | 59 => 81 | 3 => 3 | 5 => 5 | 46 => 72 | 146 => 106 | 51 => 105 | n => n, fun | 1 => 0 | n => n⟩
theorem Tryz.lays145 : Go.Proofs.Lays.n145 Tryz.prog Tryz.lays145_ren := {
  mixed := by kernel_rfl
  f145 := Tryz.func77.trans (congrArg some (by kernel_rfl))
  f217 := Tryz.func118.trans (congrArg some (by kernel_rfl))
  f219 := Tryz.func108.trans (congrArg some (by kernel_rfl))
  f220 := Tryz.func96.trans (congrArg some (by kernel_rfl))
  f224 := Tryz.func120.trans (congrArg some (by kernel_rfl))
  f225 := Tryz.func119.trans (congrArg some (by kernel_rfl))
  f266 := Tryz.func128.trans (congrArg some (by kernel_rfl))
  f267 := Tryz.func121.trans (congrArg some (by kernel_rfl))
  f314 := Tryz.func129.trans (congrArg some (by kernel_rfl))
  t3 := Tryz.underlying3
  a3 := Tryz.isAgg3
  z3 := Tryz.sizeOf3
  v3 := Tryz.zeroValue3
  t4 := Tryz.underlying4
  a4 := Tryz.isAgg4
  z4 := Tryz.sizeOf4
  v4 := Tryz.zeroValue4
  t5 := Tryz.underlying5
  a5 := Tryz.isAgg5
  z5 := Tryz.sizeOf5
  v5 := Tryz.zeroValue5
  t9 := Tryz.underlying9
  a9 := Tryz.isAgg9
  z9 := Tryz.sizeOf9
  v9 := Tryz.zeroValue9
  t46 := Tryz.underlying72
  a46 := Tryz.isAgg72
  z46 := Tryz.sizeOf72
  v46 := Tryz.zeroValue72
  t51 := Tryz.underlying105
  a51 := Tryz.isAgg105
  z51 := Tryz.sizeOf105
  v51 := Tryz.zeroValue105
  t59 := Tryz.underlying81
  a59 := Tryz.isAgg81
  z59 := Tryz.sizeOf81
  v59 := Tryz.zeroValue81
  t146 := Tryz.underlying106
  a146 := Tryz.isAgg106
  z146 := Tryz.sizeOf106
  v146 := Tryz.zeroValue106
  g1 := by kernel_rfl }
open Go.RowKit Go.Lib in
/-- strings.Cut: "Cut slices s around the first instance of sep, returning the text before and after sep. The found result reports whether sep appears in s. If sep does not appear in s, cut returns s, "", false.": IT RETURNS 'Lib.cut s sep'; the world is as it was but for the count of draws. (LAID: no walk: one application.) -/
theorem Tryz.strings_Cut (s sep : ByteArray) (m : Int) (w : World) (hs : s.size < 4294967281) (hm : w.cell? ⟨0, 0, none⟩ = some (.int .i64 m)) :
    Calls Tryz.prog 77 #[.string s, .string sep] w fun e w' => e = .returned (.tuple #[.string ⟨(Lib.cut s.data.toList sep.data.toList).1.toArray⟩, .string ⟨(Lib.cut s.data.toList sep.data.toList).2.1.toArray⟩, .bool (Lib.cut s.data.toList sep.data.toList).2.2]) ∧ ∃ n, w' = w.drewN n := Any.strings_Cut Tryz.lays145 s sep m w hs hm
def Tryz.lays146_ren : Go.Shelf.Ren := ⟨fun | 146 => 56 | 221 => 76 | 268 => 93 | 138 => 94 | 143 => 95 | 195 => 105 | 197 => 106 | 218 => 107 | 219 => 108 | 260 => 117 | 217 => 118 | 225 => 119 | 224 => 120 | 267 => 121 | 266 => 128 | 314 => 129 | n => n, fun | 9 => 9 | 31 => 23 | 3 => 3 | 4 => 4 | 0 => 0 | 105 => 113 | 21 => 21 | 5 => 5 | 46 => 72 | 119 => 130 | 139 => 133 | 138 => 132 | 146 => 106 | 51 => 105 | n => n, fun | 1 => 0 | 3 => 2 | 4 => 3 | n => n⟩
theorem Tryz.lays146 : Go.Proofs.Lays.n146 Tryz.prog Tryz.lays146_ren := {
  mixed := by kernel_rfl
  f138 := Tryz.func94.trans (congrArg some (by kernel_rfl))
  f143 := Tryz.func95.trans (congrArg some (by kernel_rfl))
  f146 := Tryz.func56.trans (congrArg some (by kernel_rfl))
  f195 := Tryz.func105.trans (congrArg some (by kernel_rfl))
  f197 := Tryz.func106.trans (congrArg some (by kernel_rfl))
  f217 := Tryz.func118.trans (congrArg some (by kernel_rfl))
  f218 := Tryz.func107.trans (congrArg some (by kernel_rfl))
  f219 := Tryz.func108.trans (congrArg some (by kernel_rfl))
  f221 := Tryz.func76.trans (congrArg some (by kernel_rfl))
  f224 := Tryz.func120.trans (congrArg some (by kernel_rfl))
  f225 := Tryz.func119.trans (congrArg some (by kernel_rfl))
  f260 := Tryz.func117.trans (congrArg some (by kernel_rfl))
  f266 := Tryz.func128.trans (congrArg some (by kernel_rfl))
  f267 := Tryz.func121.trans (congrArg some (by kernel_rfl))
  f268 := Tryz.func93.trans (congrArg some (by kernel_rfl))
  f314 := Tryz.func129.trans (congrArg some (by kernel_rfl))
  t0 := Tryz.underlying0
  a0 := Tryz.isAgg0
  z0 := Tryz.sizeOf0
  v0 := Tryz.zeroValue0
  t3 := Tryz.underlying3
  a3 := Tryz.isAgg3
  z3 := Tryz.sizeOf3
  v3 := Tryz.zeroValue3
  t4 := Tryz.underlying4
  a4 := Tryz.isAgg4
  z4 := Tryz.sizeOf4
  v4 := Tryz.zeroValue4
  t5 := Tryz.underlying5
  a5 := Tryz.isAgg5
  z5 := Tryz.sizeOf5
  v5 := Tryz.zeroValue5
  t9 := Tryz.underlying9
  a9 := Tryz.isAgg9
  z9 := Tryz.sizeOf9
  v9 := Tryz.zeroValue9
  t21 := Tryz.underlying21
  a21 := Tryz.isAgg21
  z21 := Tryz.sizeOf21
  v21 := Tryz.zeroValue21
  t31 := Tryz.underlying23
  a31 := Tryz.isAgg23
  z31 := Tryz.sizeOf23
  v31 := Tryz.zeroValue23
  t46 := Tryz.underlying72
  a46 := Tryz.isAgg72
  z46 := Tryz.sizeOf72
  v46 := Tryz.zeroValue72
  t51 := Tryz.underlying105
  a51 := Tryz.isAgg105
  z51 := Tryz.sizeOf105
  v51 := Tryz.zeroValue105
  t105 := Tryz.underlying113
  a105 := Tryz.isAgg113
  z105 := Tryz.sizeOf113
  v105 := Tryz.zeroValue113
  t119 := Tryz.underlying130
  a119 := Tryz.isAgg130
  z119 := Tryz.sizeOf130
  t138 := Tryz.underlying132
  a138 := Tryz.isAgg132
  z138 := Tryz.sizeOf132
  v138 := Tryz.zeroValue132
  t139 := Tryz.underlying133
  a139 := Tryz.isAgg133
  z139 := Tryz.sizeOf133
  v139 := Tryz.zeroValue133
  t146 := Tryz.underlying106
  a146 := Tryz.isAgg106
  z146 := Tryz.sizeOf106
  v146 := Tryz.zeroValue106
  g1 := by kernel_rfl
  g3 := by kernel_rfl
  g4 := by kernel_rfl }
open Go.RowKit Go.Lib in
/-- strings.Split. (LAID: no walk: one application.) -/
theorem Tryz.strings_Split (s sep : ByteArray) (m : Int) (w : World) (hs : s.size < 4294967281) (hm : w.cell? ⟨0, 0, none⟩ = some (.int .i64 m)) (h1 : 1 ≤ sep.size) :
    Calls Tryz.prog 56 #[.string s, .string sep] w fun e w' =>
      e = .returned (.slice (some ⟨w.heap.size, 0, none⟩) (Lib.countB s sep + 1) (Lib.countB s sep + 1)) ∧ w' = w.alloc (.cells ((Lib.splitB sep 0 (Lib.countB s sep) s).map Value.string).toArray 9) := Any.strings_Split Tryz.lays146 (by kernel_rfl) s sep m w hs hm h1
end Go.Proofs
/- The walk of impl.callingItem: what a word of a calling says. -/
namespace Go.Proofs.YtidolgonmimicaaGreatDoor
set_option linter.unusedVariables false
set_option linter.unusedSimpArgs false
open Go.ChangeShapes Go.WideShapes Go.ChangeAt Go.RowKit Go.Deep
def cutY (y : ByteArray) : List UInt8 × List UInt8 × Bool := Lib.cut (y.extract 1 y.size).data.toList [43]
def pBY (y : ByteArray) : ByteArray := ⟨(cutY y).1.toArray⟩
def cBY (y : ByteArray) : ByteArray := ⟨(cutY y).2.1.toArray⟩
/-- What callingItem answers of a word that is not empty. -/
def ciN (y : ByteArray) : Int := if y.size = 0 then 0 else numV (pBY y) 2
def ciM (y : ByteArray) : Bool := (cutY y).2.2 && numOk (pBY y) 2
def ciC (y : ByteArray) : Int := if y.size = 0 then 0 else if ciM y = true then numV (cBY y) 2 else 0
def ciOk (y : ByteArray) : Bool := if y.size = 0 then false else if ciM y = true then numOk (cBY y) 2 else numOk (pBY y) 2
def ciL (y : ByteArray) : ByteArray := if y.size = 0 then ⟨#[]⟩ else y.extract 0 1
theorem numV_2 (s : ByteArray) : 0 ≤ numV s 2 ∧ numV s 2 ≤ 99 := by
  rcases h : numOk s 2
  · rw [numV_f h]; omega
  · rw [numV_t h]
    rw [numOk, Bool.and_eq_true, decide_eq_true_iff, canon, Bool.and_eq_true, Bool.and_eq_true] at h
    have h1 := valL_lt s.data.toList.length s.data.toList rfl h.2.2.2
    have h2 : s.data.toList.length ≤ 2 := by rw [← sz_list]; omega
    have h3 : 10 ^ s.data.toList.length ≤ 10 ^ 2 := Nat.pow_le_pow_right (by decide) h2
    omega
theorem ciN_bd (y : ByteArray) : 0 ≤ ciN y ∧ ciN y ≤ 99 := by
  rw [ciN]; split
  · omega
  · exact numV_2 _
theorem ciC_bd (y : ByteArray) : 0 ≤ ciC y ∧ ciC y ≤ 99 := by
  rw [ciC]; split
  · omega
  · split
    · exact numV_2 _
    · omega
theorem ba_len0 {y : ByteArray} (h : y.size = 0) : y.toList = [] := by
  rw [ByteArray.toList_eq]
  exact List.length_eq_zero_iff.1 (by rw [← sz_list]; exact h)
theorem cut_le : ∀ (a : List UInt8) (c : UInt8), (Lib.cut a [c]).1.length ≤ a.length ∧ (Lib.cut a [c]).2.1.length ≤ a.length := by
  intro a c
  rw [Lib.cut]
  split <;> simp <;> omega
/-- The word of a call. -/
theorem ci_it {st : Nat} {l : List ByteArray} {kb ks y h : ByteArray} {bl k i : Nat} {T : ByteArray} (h3 : 3 ≤ st) (h8 : st ≤ 8) (g : ItW st l kb ks bl y h T k i) : ciOk y = true ∧ ciN y = (plI st l kb ks bl T i : Nat) ∧ ciC y = (cnI st l kb ks bl T i k : Nat) ∧ ciL y = letter T i ∧ isCl (ciL y) = true ∧ isP (ciL y) = false := by
  have hp := (item_parts (st := st) (l := l) (kb := kb) (ks := ks) (bl := bl) (T := T) (i := i) (k := k) g.lt).2.1
  rw [← g.word] at hp
  obtain ⟨q1, q2, q3, q4⟩ := itw_letter g
  have h60 := (goodT_t g.good).2.1
  have hlt := g.lt
  have c1 := plI_le (l := l) (kb := kb) (ks := ks) (bl := bl) (T := T) h3 h8 i
  have c2 := cnI_le (st := st) (l := l) (kb := kb) (ks := ks) (bl := bl) (T := T) (i := i) (k := k)
  have hc : cutY y = if cnI st l kb ks bl T i k = 0 then (Lib.decDigits (plI st l kb ks bl T i), [], false) else (Lib.decDigits (plI st l kb ks bl T i), Lib.decDigits (cnI st l kb ks bl T i k), true) := by
    rw [cutY, hp, tail_cut]
  have n1 := num_dec2 (a := plI st l kb ks bl T i) (most := 2) (by have := dec_len2 (b := plI st l kb ks bl T i) (by omega); omega)
  have n2 := num_dec2 (a := cnI st l kb ks bl T i k) (most := 2) (by have := dec_len2 (b := cnI st l kb ks bl T i k) (by omega); omega)
  have hL : ciL y = letter T i := by rw [ciL, if_neg (by omega), q2]
  have hsz : ¬ y.size = 0 := by omega
  rw [hL, ← q2]
  by_cases hz : cnI st l kb ks bl T i k = 0
  · rw [if_pos hz] at hc
    have hm : ciM y = false := by rw [ciM, hc]; rfl
    have hP : pBY y = ⟨(Lib.decDigits (plI st l kb ks bl T i)).toArray⟩ := by rw [pBY, hc]
    exact ⟨by rw [ciOk, if_neg hsz, hm, if_neg (by simp), hP, n1.1], by rw [ciN, if_neg hsz, hP, n1.2], by rw [ciC, if_neg hsz, hm, if_neg (by simp), hz]; rfl, rfl, q3, q4⟩
  · rw [if_neg hz] at hc
    have hP : pBY y = ⟨(Lib.decDigits (plI st l kb ks bl T i)).toArray⟩ := by rw [pBY, hc]
    have hC : cBY y = ⟨(Lib.decDigits (cnI st l kb ks bl T i k)).toArray⟩ := by rw [cBY, hc]
    have hm : ciM y = true := by rw [ciM, hc, hP, n1.1]; rfl
    exact ⟨by rw [ciOk, if_neg hsz, hm, if_pos rfl, hC, n2.1], by rw [ciN, if_neg hsz, hP, n1.2], by rw [ciC, if_neg hsz, hm, if_pos rfl, hC, n2.2], rfl, q3, q4⟩
/-- The last word. -/
theorem ci_pl {y : ByteArray} {k : Nat} {T : ByteArray} (g : PlW y T k) : ciOk y = true ∧ ciN y = (T.size - k : Nat) ∧ ciC y = 0 ∧ isCl (ciL y) = true ∧ isP (ciL y) = true := by
  obtain ⟨q1, q3, q4, hp⟩ := plw_letter g
  have h60 := (goodT_t g.good).2.1
  have hc : cutY y = (Lib.decDigits (T.size - k), [], false) := by rw [cutY, hp, cut_no (dec_no (by decide))]
  have n1 := num_dec2 (a := T.size - k) (most := 2) (by have := dec_len2 (b := T.size - k) (by omega); omega)
  have hsz : ¬ y.size = 0 := by omega
  have hL : ciL y = y.extract 0 1 := by rw [ciL, if_neg hsz]
  have hm : ciM y = false := by rw [ciM, hc]; rfl
  have hP : pBY y = ⟨(Lib.decDigits (T.size - k)).toArray⟩ := by rw [pBY, hc]
  rw [hL]
  exact ⟨by rw [ciOk, if_neg hsz, hm, if_neg (by simp), hP, n1.1], by rw [ciN, if_neg hsz, hP, n1.2], by rw [ciC, if_neg hsz, hm, if_neg (by simp)], q3, q4⟩
theorem results_four {fn : Func} {t u v x : Tmp} (h : fn.results = #[.tmp t, .tmp u, .tmp v, .tmp x]) (tmps : Array Value) (P : Program) (w : World) :
    (results fn tmps).run P w = .ok (.tuple #[tmps.getD t undef, tmps.getD u undef, tmps.getD v undef, tmps.getD x undef]) w := by
  simp [results, h]
set_option maxRecDepth 100000 in
theorem impl_callingItem {y : ByteArray} {m : Int} {w : World} (hy : y.size ≤ 1000) (hm : w.cell? ⟨0, 0, none⟩ = some (.int .i64 m)) :
    Calls Tryz.prog 57 #[.string y] w fun e w' => e = .returned (.tuple #[.string (ciL y), .int .i64 (ciN y), .int .i64 (ciC y), .bool (ciOk y)]) ∧ Below w.heap.size w w' := by
  by_cases h0 : y.size = 0
  · have e0 := ba_len0 h0
    have e1 := Lib.hid (show ciL y = ⟨#[]⟩ from if_pos h0)
    have e2 := Lib.hid (show ciN y = 0 from if_pos h0)
    have e3 := Lib.hid (show ciC y = 0 from if_pos h0)
    have e4 := Lib.hid (show ciOk y = false from if_pos h0)
    have hbe : (y.toList == []) = true := by rw [e0]; rfl
    clear h0
    go_in
    go_wp2
    (try simp only [Exit.inBlock, Exit.then]); refine bodyPost_ret (results_four rfl _ _ _) rfl ?_
    rw [e1.out, e2.out, e3.out, e4.out]
    exact ⟨rfl, Below.refl _ _⟩
  · have hbe : (y.toList == []) = false := by
      rcases hl : y.toList with _ | ⟨a, b⟩
      · have := congrArg List.length hl
        rw [ByteArray.toList_eq, ← sz_list] at this
        exact absurd this h0
      · rfl
    have hse := str_ne_empty (s := y) (by omega)
    have hI1 : (1 : Int) ≤ (y.size : Int) := by omega
    have e1 := Lib.hid (show ciL y = y.extract 0 1 from if_neg h0)
    have e2 := Lib.hid (show ciN y = numV (pBY y) 2 from if_neg h0)
    have e3 := Lib.hid (show ciC y = if ciM y = true then numV (cBY y) 2 else 0 from if_neg h0)
    have e4 := Lib.hid (show ciOk y = if ciM y = true then numOk (cBY y) 2 else numOk (pBY y) 2 from if_neg h0)
    have e5 : Hid (ciM y = ((cutY y).2.2 && numOk (pBY y) 2)) := Lib.hid rfl
    have hRz : (y.extract 1 y.size).size ≤ 1000 := by rw [ByteArray.size_extract]; omega
    have z1 : (pBY y).size ≤ 16777216 := by
      have := (cut_le (y.extract 1 y.size).data.toList 43).1
      rw [← sz_list] at this
      rw [pBY, sz_list]
      show (cutY y).1.length ≤ _
      rw [cutY]; omega
    have z2 : (cBY y).size ≤ 16777216 := by
      have := (cut_le (y.extract 1 y.size).data.toList 43).2
      rw [← sz_list] at this
      rw [cBY, sz_list]
      show (cutY y).2.1.length ≤ _
      rw [cutY]; omega
    have HCT : Hid (∀ u : World, u.cell? ⟨0, 0, none⟩ = some (.int .i64 m) → Calls Tryz.prog 77 #[.string (y.extract 1 y.size), .string { data := #[43] }] u fun e w' => e = .returned (.tuple #[.string (pBY y), .string (cBY y), .bool (cutY y).2.2]) ∧ ∃ n, w' = u.drewN n) := Lib.hid (fun u hu => Tryz.strings_Cut (y.extract 1 y.size) { data := #[43] } m u (by omega) hu)
    have N1 := Lib.hid (fun u : World => impl_number (s := pBY y) (most := 2) (w := u) z1 (by decide))
    have N2 := Lib.hid (fun u : World => impl_number (s := cBY y) (most := 2) (w := u) z2 (by decide))
    obtain ⟨fd, hfd⟩ : ∃ u, u = (cutY y).2.2 := ⟨_, rfl⟩
    obtain ⟨ok1, hok1⟩ : ∃ u, u = numOk (pBY y) 2 := ⟨_, rfl⟩
    obtain ⟨ok2, hok2⟩ : ∃ u, u = numOk (cBY y) 2 := ⟨_, rfl⟩
    obtain ⟨v1, hv1⟩ : ∃ u, u = numV (pBY y) 2 := ⟨_, rfl⟩
    obtain ⟨v2, hv2⟩ : ∃ u, u = numV (cBY y) 2 := ⟨_, rfl⟩
    rw [← hfd] at HCT e5
    rw [← hok1] at N1 e4 e5
    rw [← hok2] at N2 e4
    rw [← hv1] at N1 e2
    rw [← hv2] at N2 e3
    clear hfd hok1 hok2 hv1 hv2 z1 z2 h0
    go_in
    go_wp2_with fail
    refine (HCT.out _ hm).mono ?_; rintro e w1 ⟨rfl, nq, hw1⟩
    have hb1 : Below w.heap.size w w1 := by rw [hw1]; exact below_drewN (Below.refl _ _) _
    clear hw1
    go_wp2_with fail
    refine (N1.out _).mono ?_; rintro e w' ⟨rfl, rfl⟩
    rcases fd
    · have f1 := Lib.hid (show ciM y = false by rw [e5.out]; rfl)
      go_wp2
      (try simp only [Exit.inBlock, Exit.then]); refine bodyPost_ret (results_four rfl _ _ _) rfl ?_
      rw [e1.out, e2.out, e3.out, e4.out, f1.out]
      exact ⟨rfl, hb1⟩
    · rcases ok1
      · have f1 := Lib.hid (show ciM y = false by rw [e5.out]; rfl)
        go_wp2
        (try simp only [Exit.inBlock, Exit.then]); refine bodyPost_ret (results_four rfl _ _ _) rfl ?_
        rw [e1.out, e2.out, e3.out, e4.out, f1.out]
        exact ⟨rfl, hb1⟩
      · have f1 := Lib.hid (show ciM y = true by rw [e5.out]; rfl)
        go_wp2_with fail
        refine (N2.out _).mono ?_; rintro e w' ⟨rfl, rfl⟩
        go_wp2
        (try simp only [Exit.inBlock, Exit.then]); refine bodyPost_ret (results_four rfl _ _ _) rfl ?_
        rw [e1.out, e2.out, e3.out, e4.out, f1.out]
        exact ⟨rfl, hb1⟩
end Go.Proofs.YtidolgonmimicaaGreatDoor
/- The walk of the reference's l10Word: the leads that a word tells. -/
namespace Go.Proofs.YtidolgonmimicaaGreatDoor
set_option linter.unusedVariables false
set_option linter.unusedSimpArgs false
open Go.ChangeShapes Go.WideShapes Go.ChangeAt Go.RowKit Go.Deep
theorem splB_pos (c : UInt8) (s : ByteArray) : 1 ≤ (splB c s).length := by
  rw [splB, List.length_map]
  have := spl_ne c s.data.toList
  rcases h : spl c s.data.toList with _ | ⟨x, r⟩
  · exact absurd h this
  · simp
def tLen : Value → Nat
  | .string s => s.size
  | _ => 0
/-- What l10Word answers. -/
def WordR (st : Nat) (l : List ByteArray) (kb ks : ByteArray) (bl : Nat) (y h0 : ByteArray) (w : World) (e : Ending) (w' : World) : Prop :=
  ∃ (x : ByteArray) (ok : Bool), e = .returned (.tuple #[.string x, .bool ok]) ∧ x.size ≤ 61 ∧ (ok = true → calT x ∧ 1 ≤ x.size) ∧ WdQ st l kb ks bl y h0 x ok ∧ Below w.heap.size w w'
theorem WordR.mk {st : Nat} {l : List ByteArray} {kb ks : ByteArray} {bl : Nat} {y h0 : ByteArray} {w w' : World} {e : Ending} (x : ByteArray) (ok : Bool) (he : e = .returned (.tuple #[.string x, .bool ok])) (h1 : x.size ≤ 61) (h2 : ok = true → calT x ∧ 1 ≤ x.size) (h3 : WdQ st l kb ks bl y h0 x ok) (h4 : Below w.heap.size w w') : WordR st l kb ks bl y h0 w e w' := ⟨x, ok, he, h1, h2, h3, h4⟩
set_option maxHeartbeats 8000000 in
set_option maxRecDepth 100000 in
theorem spec_l10Word {A : Option Addr} {n c st : Nat} {nm : ByteArray} {l : List ByteArray} {kb ks : ByteArray} {h0 y : ByteArray} {bl : Nat} {w : World} (hn : l.length = n) (h : Strs w A l) (hk : goodK nm (st : Int) l kb ks = true) (hcap : n ≤ c) (hh : RowN st h0) (hy : y.size ≤ 1000) (hb : bl ≤ 100) :
    Calls Tryz.prog 30 #[.agg #[.string nm, .int .i64 st, .slice A n c], .agg #[.string kb, .string ks], .string h0, .string y, .int .i64 bl] w fun e w' => WordR st l kb ks bl y h0 w e w' := by
  have b0 : Below w.heap.size w ((w.alloc (.cells ⟨[.string nm, .int .i64 st, .slice A n c]⟩ 25)).alloc (.cells ⟨[.string kb, .string ks]⟩ 27)) := by (repeat' (first | (with_reducible exact Below.refl _ _) | (with_reducible assumption) | (with_reducible refine below_drewN ?_ _) | (with_reducible refine Below.drew ?_) | (with_reducible refine below_alloc ?_ _) | (with_reducible refine Below.alloc ?_ ?_ _) | (with_reducible refine Below.setCell ?_ ?_ _) | (with_reducible refine below_go ?_ (by with_reducible assumption)) | (with_reducible refine below_then (by with_reducible assumption) ?_ ?_) | go_size))
  have K0 := (Blk.at_ w 25 [.string nm, .int .i64 st, .slice A n c] (b := w.heap.size) rfl).alloc (.cells ⟨[.string kb, .string ks]⟩ 27)
  have J0 := Blk.at_ (w.alloc (.cells ⟨[.string nm, .int .i64 st, .slice A n c]⟩ 25)) 27 [.string kb, .string ks] (b := w.heap.size + 1) (by simp)
  have h38 := (goodK_all hk).1
  have HK := Lib.hid hk
  have HH0 := Lib.hid hh
  have HIT := Lib.hid (fun T k i (g : ItW st l kb ks bl y h0 T k i) => itw_letter g)
  have HPL := Lib.hid (fun T k (g : PlW y T k) => plw_letter g)
  have HTL := Lib.hid (fun T k i (g : ItW st l kb ks bl y h0 T k i) => itw_tail h38.1 h38.2 g)
  have nope : Hid ((∀ T k i, ¬ ItW st l kb ks bl y h0 T k i) → (∀ T k, ¬ PlW y T k) → WdQ st l kb ks bl y h0 ⟨#[]⟩ false) := Lib.hid (fun h1 h2 => ⟨fun T k i g => absurd g (h1 T k i), fun T k g => absurd g (h2 T k)⟩)
  have H0 := h.up b0
  by_cases hy2 : y.size < 2
  · have hI : (y.size : Int) < 2 := by omega
    have HN := Lib.hid (nope.out (fun T k i g => by have := (HIT.out T k i g).1; omega) (fun T k g => by have := (HPL.out T k g).1; omega))
    clear hy2
    go_in
    go_wp2
    go_ret2
    exact WordR.mk ⟨#[]⟩ false rfl (by decide) (fun e => by cases e) HN.out b0
  · have hI : ¬ (y.size : Int) < 2 := by omega
    have hI1 : (1 : Int) ≤ (y.size : Int) := by omega
    have hy2' : 2 ≤ y.size := by omega
    rcases hcl : isCl (y.extract 0 1)
    · have HN := Lib.hid (nope.out (fun T k i g => by have := (HIT.out T k i g).2.2.1; rw [hcl] at this; cases this) (fun T k g => by have := (HPL.out T k g).2.1; rw [hcl] at this; cases this))
      clear hy2
      have HCL := Lib.hid hcl
      clear hcl
      go_in
      go_wp2_with fail
      refine (spec_l8Call (s := y.extract 0 1)).mono ?_; rw [HCL.out]; rintro e w' ⟨rfl, rfl⟩
      go_wp2
      go_ret2
      exact WordR.mk ⟨#[]⟩ false rfl (by decide) (fun e => by cases e) HN.out b0
    · have hcc := isCl_cal hcl
      have HCC := Lib.hid hcc.1
      have HCL := Lib.hid hcl
      have hc1 := hcc.2
      clear hcc hcl hy2
      obtain ⟨R, hR⟩ : ∃ u, u = y.extract 1 y.size := ⟨_, rfl⟩
      have hRz : R.size ≤ 1000 := by rw [hR, ByteArray.size_extract]; omega
      have HR := Lib.hid hR
      have hlv := l1V_bd R
      rcases hp : isP (y.extract 0 1)
      · -- a call
        have hpx : ((y.extract 0 1).toList == [112]) = false := hp
        have NPL := Lib.hid (fun T k (g : PlW y T k) => show False from by have := (HPL.out T k g).2.2.1; rw [hp] at this; cases this)
        clear hp
        go_in
        go_wp2_with fail
        refine (spec_l8Call (s := y.extract 0 1)).mono ?_; rw [HCL.out]; rintro e w' ⟨rfl, rfl⟩
        go_wp2_with fail
        rw [← hR]
        refine (spec_l1Split (s := R) (c := 43) (by omega) rfl).mono ?_; rintro e w1 ⟨A1, c1, rfl, ho1, hb1⟩
        have HPS := Lib.hid (show splB 43 (y.extract 1 y.size) = splB 43 R by rw [hR])
        have hne := splB_pos 43 R
        have hsz := splB_size (c := 43) R
        obtain ⟨PS, hPS⟩ : ∃ u, u = splB 43 R := ⟨_, rfl⟩
        rw [← hPS] at HPS ho1 hne hsz ⊢
        have HSZ := Lib.hid hsz
        clear hPS hsz
        obtain ⟨N, hN⟩ : ∃ u, u = PS.length := ⟨_, rfl⟩
        rw [← hN] at ho1 hne ⊢
        have HNL := Lib.hid hN
        clear hN
        obtain ⟨g, rfl, g0, g1, gc, _⟩ := ho1.at_ (by omega)
        obtain ⟨p0, hp0⟩ := some_of_lt (l := PS) (k := 0) (by rw [← HNL.out]; omega)
        have cp0 := gc 0 p0 0 _ hp0 rfl
        simp only [Nat.zero_mul, Nat.zero_add, Nat.add_zero, Nat.mul_one] at cp0
        have hp0z : p0.size ≤ 1000 := Nat.le_trans (HSZ.out p0 (List.mem_of_getElem? hp0)) hRz
        have HP0 := Lib.hid hp0
        have B1 := below_go b0 hb1
        have K1 := K0.up hb1
        have J1 := J0.up hb1
        have HH1 := Lib.hid (H0.up hb1)
        have hI0 : (0 : Int) < (N : Int) := by omega
        have HPV := Lib.hid (fun T k i (g : ItW st l kb ks bl y h0 T k i) => show l1V p0 = (plI st l kb ks bl T i : Nat) from by
          obtain ⟨p, e1, e2, _⟩ := HTL.out T k i g
          rw [HPS.out, HP0.out] at e1
          injection e1 with e1
          rw [e1]; exact e2)
        have hpv := l1V_bd p0
        obtain ⟨P0, hP0⟩ : ∃ u, u = l1V p0 := ⟨_, rfl⟩
        rw [← hP0] at HPV hpv
        have HPZ := Lib.hid hP0
        clear hP0 hp0
        obtain ⟨C, hC⟩ : ∃ u, u = y.extract 0 1 := ⟨_, rfl⟩
        rw [← hC] at HIT HCC HCL hc1 hpx ⊢
        have HCN := Lib.hid hC
        clear hC
        go_wp2_with fail
        refine (spec_l1Read (s := p0) (by omega)).mono ?_; rw [← HPZ.out]; rintro e w' ⟨rfl, rfl⟩
        by_cases hN2 : N = 2
        · have hbN : ((N : Int) == 2) = true := by rw [beq_iff_eq]; omega
          have hI1N : (1 : Int) < (N : Int) := by omega
          obtain ⟨p1, hp1⟩ := some_of_lt (l := PS) (k := 1) (by rw [← HNL.out]; omega)
          have cp1 := gc 1 p1 0 _ hp1 rfl
          simp only [Nat.add_zero, Nat.mul_one] at cp1
          have hp1z : p1.size ≤ 1000 := Nat.le_trans (HSZ.out p1 (List.mem_of_getElem? hp1)) hRz
          have hsv := l1V_bd p1
          obtain ⟨S9, hS9⟩ : ∃ u, u = l1V p1 := ⟨_, rfl⟩
          rw [← hS9] at hsv
          have HS9 := Lib.hid hS9
          have HS0 := Lib.hid (show ∀ T k i, ItW st l kb ks bl y h0 T k i → S9 = (cntA st l kb ks bl T (letter T i) (plI st l kb ks bl T i) k (i - k) : Nat) from fun T k i g => by
            obtain ⟨_, _, _, e3, _⟩ := HTL.out T k i g
            obtain ⟨p, f1, f2⟩ := e3 (by rw [HPS.out, ← HNL.out]; exact hN2)
            rw [HPS.out, hp1] at f1
            injection f1 with f1
            rw [HS9.out, f1]; exact f2)
          clear hp1 hS9 gc hN2
          go_wp2_with fail
          refine (spec_l1Read (s := p1) (by omega)).mono ?_; rw [← HS9.out]; rintro e w' ⟨rfl, rfl⟩
          go_wp2
          go_loopw [2, 18, 19] (fun vf vs vo wr => ∃ (d : Nat) (f : ByteArray) (S : Int), d ≤ 60 ∧ vf = .string f ∧ vs = .int .i64 S ∧ vo = .string (pRep d) ∧ -100 ≤ S + d ∧ S ≤ 1000000 ∧ Hid (RowN st f) ∧ Hid (∀ T k i, ItW st l kb ks bl y h0 T k i → d ≤ i - k ∧ f = hdAt st l kb ks T (k + d) ∧ S = (cntA st l kb ks bl T (letter T i) (plI st l kb ks bl T i) (k + d) (i - k - d) : Nat)) ∧ Hid (Below w1.heap.size w1 wr)) (fun _ _ o _ => 60 - tLen o)
          case atStart => exact ⟨0, h0, S9, by omega, rfl, rfl, rfl, by omega, by omega, HH0, Lib.hid (fun T k i g => ⟨Nat.zero_le _, g.from_, HS0.out T k i g⟩), Lib.hid (Below.refl _ _)⟩
          case round =>
            obtain ⟨d, f, S, hd, rfl, rfl, rfl, hS1, hS2, HF, HM, HB⟩ := hrel
            rename World => wr
            have hDs := pRep_size d
            have HPD := Lib.hid (pRep_succ d)
            have hDs' : (pRep d ++ (⟨#[112]⟩ : ByteArray)).size = d + 1 := by rw [← pRep_succ, pRep_size]
            obtain ⟨D, hD⟩ : ∃ u, u = pRep d := ⟨_, rfl⟩
            rw [← hD] at hDs HPD hDs' ⊢
            have HD := Lib.hid hD
            have s112 : (⟨#[112]⟩ : ByteArray).size = 1 := rfl
            have o1 : ¬ 9223372036854775807 < D.size + (⟨#[112]⟩ : ByteArray).size := by omega
            have o2 : ¬ 9223372036854775807 < D.size + C.size := by omega
            have hfz : f.size ≤ 16777216 := by rw [HF.out.2]; omega
            have hpr : RowN st (callHd st l kb ks ⟨#[112]⟩) := callHd_good HK.out _
            have hpz : (callHd st l kb ks ⟨#[112]⟩).size ≤ 16777216 := by rw [hpr.2]; omega
            have hfp := rowN_fits HF.out hpr
            have HFP := Lib.hid (HF.out.times hpr)
            clear hD hpr
            by_cases hlt : d < 60
            · have hIl : (D.size : Int) < 60 := by omega
              have K2 := K1.up HB.out
              have J2 := J1.up HB.out
              have HHr := Lib.hid (HH1.out.up HB.out)
              have k0 := K2.cell 0; have k1 := K2.cell 1; have k2 := K2.cell 2; have j0 := J2.cell 0; have j1 := J2.cell 1
              simp only [List.getElem?_cons_zero, List.getElem?_cons_succ] at k0 k1 k2 j0 j1
              obtain ⟨q, hq⟩ : ∃ u, u = plA st l kb ks bl f C := ⟨_, rfl⟩
              have HQ := Lib.hid hq
              clear hq
              go_wp2_with fail
              refine (spec_l10Place (s := C) hn HHr.out HK.out hcap HF.out hb).mono ?_; rw [← HQ.out]; rintro e w3 ⟨rfl, hb3⟩
              have HB3 := Lib.hid (below_go HB.out hb3)
              have K3 := K2.up hb3
              have J3 := J2.up hb3
              clear k0 k1 k2 j0 j1
              have k0 := K3.cell 0; have k1 := K3.cell 1; have k2 := K3.cell 2; have j0 := J3.cell 0; have j1 := J3.cell 1
              simp only [List.getElem?_cons_zero, List.getElem?_cons_succ] at k0 k1 k2 j0 j1
              by_cases hqP : (q : Int) = P0
              · have hbe : ((q : Int) == P0) = true := by rw [beq_iff_eq]; exact hqP
                by_cases hS0 : S = 0
                · have hbs : (S == 0) = true := by rw [beq_iff_eq]; exact hS0
                  have HFIN := Lib.hid (show WdQ st l kb ks bl y h0 (D ++ C) true from ⟨fun T k i g => by
                    obtain ⟨a1, a2, a3⟩ := HM.out T k i g
                    have hC := (HIT.out T k i g).2.1
                    have hP := HPV.out T k i g
                    have hq := HQ.out
                    rw [a2, hC] at hq
                    have hdk : d = i - k := by
                      rcases Nat.lt_or_ge d (i - k) with z | z
                      · have e1 := g.front z
                        rw [← hq, if_pos (by omega)] at e1
                        omega
                      · omega
                    refine ⟨rfl, ?_⟩
                    rw [HD.out, hC, hdk], fun T k g => (NPL.out T k g).elim⟩)
                  have HCC2 := Lib.hid (show calT (D ++ C) from by rw [HD.out]; exact calT_app (calT_pRep d) HCC.out)
                  have hDC : (D ++ C).size = d + 1 := by rw [ByteArray.size_append]; omega
                  clear hqP hS0
                  go_wp2
                  go_ret2
                  exact WordR.mk (D ++ C) true rfl (by omega) (fun _ => ⟨HCC2.out, by omega⟩) HFIN.out (below_go B1 HB3.out)
                · have hbs : (S == 0) = false := by rw [beq_eq_false_iff_ne]; exact hS0
                  have HM2 := Lib.hid (show ∀ T k i, ItW st l kb ks bl y h0 T k i → d + 1 ≤ i - k ∧ timesS f (callHd st l kb ks ⟨#[112]⟩) = hdAt st l kb ks T (k + (d + 1)) ∧ (S - 1) = (cntA st l kb ks bl T (letter T i) (plI st l kb ks bl T i) (k + (d + 1)) (i - k - (d + 1)) : Nat) from fun T k i g => by
                    obtain ⟨a1, a2, a3⟩ := HM.out T k i g
                    have hC := (HIT.out T k i g).2.1
                    have hP := HPV.out T k i g
                    have hq := HQ.out
                    rw [a2, hC] at hq
                    have hlt : d < i - k := by
                      rcases Nat.lt_or_ge d (i - k) with z | z
                      · exact z
                      · have : i - k - d = 0 := by omega
                        rw [this, cntA_zero] at a3
                        exact absurd a3 hS0
                    have e1 := g.front hlt
                    have e2 := g.step hlt
                    rw [← hq] at e1
                    refine ⟨by omega, by rw [a2]; exact e2.symm, ?_⟩
                    rw [if_pos (by omega)] at e1
                    omega)
                  clear hqP
                  go_wp2_with fail
                  refine (spec_l8Head (s := ⟨#[112]⟩) hn (HHr.out.up hb3) HK.out hcap).mono ?_; rintro e w4 ⟨rfl, hb4⟩
                  have HB4 := Lib.hid (below_go HB3.out hb4)
                  clear hb4
                  go_wp2_with fail
                  refine (spec_l1Times hfz hpz hfp).mono ?_; rintro e w' ⟨rfl, rfl⟩
                  go_wp2
                  go_roundw
                  case rel => exact ⟨d + 1, _, (S - 1), by omega, rfl, by go_num, by rw [HPD.out], by omega, by omega, HFP, HM2, HB4⟩
                  case measure => simp [tLen, hDs']; omega
              · have hbe : ((q : Int) == P0) = false := by rw [beq_eq_false_iff_ne]; exact hqP
                have HM2 := Lib.hid (show ∀ T k i, ItW st l kb ks bl y h0 T k i → d + 1 ≤ i - k ∧ timesS f (callHd st l kb ks ⟨#[112]⟩) = hdAt st l kb ks T (k + (d + 1)) ∧ S = (cntA st l kb ks bl T (letter T i) (plI st l kb ks bl T i) (k + (d + 1)) (i - k - (d + 1)) : Nat) from fun T k i g => by
                  obtain ⟨a1, a2, a3⟩ := HM.out T k i g
                  have hC := (HIT.out T k i g).2.1
                  have hP := HPV.out T k i g
                  have hq := HQ.out
                  rw [a2, hC] at hq
                  have hlt : d < i - k := by
                    rcases Nat.lt_or_ge d (i - k) with z | z
                    · exact z
                    · exfalso
                      have e : k + d = i := by have := g.ki; omega
                      rw [e] at hq
                      exact hqP (by rw [hP, hq]; rfl)
                  have e1 := g.front hlt
                  have e2 := g.step hlt
                  rw [← hq] at e1
                  refine ⟨by omega, by rw [a2]; exact e2.symm, ?_⟩
                  rw [if_neg (by omega)] at e1
                  omega)
                clear hqP
                go_wp2_with fail
                refine (spec_l8Head (s := ⟨#[112]⟩) hn (HHr.out.up hb3) HK.out hcap).mono ?_; rintro e w4 ⟨rfl, hb4⟩
                have HB4 := Lib.hid (below_go HB3.out hb4)
                clear hb4
                go_wp2_with fail
                refine (spec_l1Times hfz hpz hfp).mono ?_; rintro e w' ⟨rfl, rfl⟩
                go_wp2
                go_roundw
                case rel => exact ⟨d + 1, _, S, by omega, rfl, by rfl, by rw [HPD.out], by omega, by omega, HFP, HM2, HB4⟩
                case measure => simp [tLen, hDs']; omega
            · have hIl : ¬ (D.size : Int) < 60 := by omega
              have HFIN := Lib.hid (show WdQ st l kb ks bl y h0 ⟨#[]⟩ false from ⟨fun T k i g => by
                have := (HM.out T k i g).1
                have h2 := g.done.2.2
                omega, fun T k g => (NPL.out T k g).elim⟩)
              go_wp2
              go_ret2
              exact WordR.mk ⟨#[]⟩ false rfl (by decide) (fun e => by cases e) HFIN.out (below_go B1 HB.out)
        · have hbN : ((N : Int) == 2) = false := by rw [beq_eq_false_iff_ne]; omega
          have HS0 := Lib.hid (show ∀ T k i, ItW st l kb ks bl y h0 T k i → (0 : Int) = (cntA st l kb ks bl T (letter T i) (plI st l kb ks bl T i) k (i - k) : Nat) from fun T k i g => by
            obtain ⟨_, _, _, _, e3⟩ := HTL.out T k i g
            have := e3 (by rw [HPS.out, ← HNL.out]; exact hN2)
            rw [cnI] at this
            rw [this]; rfl)
          clear gc hN2
          go_wp2
          go_loopw [2, 18, 19] (fun vf vs vo wr => ∃ (d : Nat) (f : ByteArray) (S : Int), d ≤ 60 ∧ vf = .string f ∧ vs = .int .i64 S ∧ vo = .string (pRep d) ∧ -100 ≤ S + d ∧ S ≤ 1000000 ∧ Hid (RowN st f) ∧ Hid (∀ T k i, ItW st l kb ks bl y h0 T k i → d ≤ i - k ∧ f = hdAt st l kb ks T (k + d) ∧ S = (cntA st l kb ks bl T (letter T i) (plI st l kb ks bl T i) (k + d) (i - k - d) : Nat)) ∧ Hid (Below w1.heap.size w1 wr)) (fun _ _ o _ => 60 - tLen o)
          case atStart => exact ⟨0, h0, 0, by omega, rfl, rfl, rfl, by omega, by omega, HH0, Lib.hid (fun T k i g => ⟨Nat.zero_le _, g.from_, HS0.out T k i g⟩), Lib.hid (Below.refl _ _)⟩
          case round =>
            obtain ⟨d, f, S, hd, rfl, rfl, rfl, hS1, hS2, HF, HM, HB⟩ := hrel
            rename World => wr
            have hDs := pRep_size d
            have HPD := Lib.hid (pRep_succ d)
            have hDs' : (pRep d ++ (⟨#[112]⟩ : ByteArray)).size = d + 1 := by rw [← pRep_succ, pRep_size]
            obtain ⟨D, hD⟩ : ∃ u, u = pRep d := ⟨_, rfl⟩
            rw [← hD] at hDs HPD hDs' ⊢
            have HD := Lib.hid hD
            have s112 : (⟨#[112]⟩ : ByteArray).size = 1 := rfl
            have o1 : ¬ 9223372036854775807 < D.size + (⟨#[112]⟩ : ByteArray).size := by omega
            have o2 : ¬ 9223372036854775807 < D.size + C.size := by omega
            have hfz : f.size ≤ 16777216 := by rw [HF.out.2]; omega
            have hpr : RowN st (callHd st l kb ks ⟨#[112]⟩) := callHd_good HK.out _
            have hpz : (callHd st l kb ks ⟨#[112]⟩).size ≤ 16777216 := by rw [hpr.2]; omega
            have hfp := rowN_fits HF.out hpr
            have HFP := Lib.hid (HF.out.times hpr)
            clear hD hpr
            by_cases hlt : d < 60
            · have hIl : (D.size : Int) < 60 := by omega
              have K2 := K1.up HB.out
              have J2 := J1.up HB.out
              have HHr := Lib.hid (HH1.out.up HB.out)
              have k0 := K2.cell 0; have k1 := K2.cell 1; have k2 := K2.cell 2; have j0 := J2.cell 0; have j1 := J2.cell 1
              simp only [List.getElem?_cons_zero, List.getElem?_cons_succ] at k0 k1 k2 j0 j1
              obtain ⟨q, hq⟩ : ∃ u, u = plA st l kb ks bl f C := ⟨_, rfl⟩
              have HQ := Lib.hid hq
              clear hq
              go_wp2_with fail
              refine (spec_l10Place (s := C) hn HHr.out HK.out hcap HF.out hb).mono ?_; rw [← HQ.out]; rintro e w3 ⟨rfl, hb3⟩
              have HB3 := Lib.hid (below_go HB.out hb3)
              have K3 := K2.up hb3
              have J3 := J2.up hb3
              clear k0 k1 k2 j0 j1
              have k0 := K3.cell 0; have k1 := K3.cell 1; have k2 := K3.cell 2; have j0 := J3.cell 0; have j1 := J3.cell 1
              simp only [List.getElem?_cons_zero, List.getElem?_cons_succ] at k0 k1 k2 j0 j1
              by_cases hqP : (q : Int) = P0
              · have hbe : ((q : Int) == P0) = true := by rw [beq_iff_eq]; exact hqP
                by_cases hS0 : S = 0
                · have hbs : (S == 0) = true := by rw [beq_iff_eq]; exact hS0
                  have HFIN := Lib.hid (show WdQ st l kb ks bl y h0 (D ++ C) true from ⟨fun T k i g => by
                    obtain ⟨a1, a2, a3⟩ := HM.out T k i g
                    have hC := (HIT.out T k i g).2.1
                    have hP := HPV.out T k i g
                    have hq := HQ.out
                    rw [a2, hC] at hq
                    have hdk : d = i - k := by
                      rcases Nat.lt_or_ge d (i - k) with z | z
                      · have e1 := g.front z
                        rw [← hq, if_pos (by omega)] at e1
                        omega
                      · omega
                    refine ⟨rfl, ?_⟩
                    rw [HD.out, hC, hdk], fun T k g => (NPL.out T k g).elim⟩)
                  have HCC2 := Lib.hid (show calT (D ++ C) from by rw [HD.out]; exact calT_app (calT_pRep d) HCC.out)
                  have hDC : (D ++ C).size = d + 1 := by rw [ByteArray.size_append]; omega
                  clear hqP hS0
                  go_wp2
                  go_ret2
                  exact WordR.mk (D ++ C) true rfl (by omega) (fun _ => ⟨HCC2.out, by omega⟩) HFIN.out (below_go B1 HB3.out)
                · have hbs : (S == 0) = false := by rw [beq_eq_false_iff_ne]; exact hS0
                  have HM2 := Lib.hid (show ∀ T k i, ItW st l kb ks bl y h0 T k i → d + 1 ≤ i - k ∧ timesS f (callHd st l kb ks ⟨#[112]⟩) = hdAt st l kb ks T (k + (d + 1)) ∧ (S - 1) = (cntA st l kb ks bl T (letter T i) (plI st l kb ks bl T i) (k + (d + 1)) (i - k - (d + 1)) : Nat) from fun T k i g => by
                    obtain ⟨a1, a2, a3⟩ := HM.out T k i g
                    have hC := (HIT.out T k i g).2.1
                    have hP := HPV.out T k i g
                    have hq := HQ.out
                    rw [a2, hC] at hq
                    have hlt : d < i - k := by
                      rcases Nat.lt_or_ge d (i - k) with z | z
                      · exact z
                      · have : i - k - d = 0 := by omega
                        rw [this, cntA_zero] at a3
                        exact absurd a3 hS0
                    have e1 := g.front hlt
                    have e2 := g.step hlt
                    rw [← hq] at e1
                    refine ⟨by omega, by rw [a2]; exact e2.symm, ?_⟩
                    rw [if_pos (by omega)] at e1
                    omega)
                  clear hqP
                  go_wp2_with fail
                  refine (spec_l8Head (s := ⟨#[112]⟩) hn (HHr.out.up hb3) HK.out hcap).mono ?_; rintro e w4 ⟨rfl, hb4⟩
                  have HB4 := Lib.hid (below_go HB3.out hb4)
                  clear hb4
                  go_wp2_with fail
                  refine (spec_l1Times hfz hpz hfp).mono ?_; rintro e w' ⟨rfl, rfl⟩
                  go_wp2
                  go_roundw
                  case rel => exact ⟨d + 1, _, (S - 1), by omega, rfl, by go_num, by rw [HPD.out], by omega, by omega, HFP, HM2, HB4⟩
                  case measure => simp [tLen, hDs']; omega
              · have hbe : ((q : Int) == P0) = false := by rw [beq_eq_false_iff_ne]; exact hqP
                have HM2 := Lib.hid (show ∀ T k i, ItW st l kb ks bl y h0 T k i → d + 1 ≤ i - k ∧ timesS f (callHd st l kb ks ⟨#[112]⟩) = hdAt st l kb ks T (k + (d + 1)) ∧ S = (cntA st l kb ks bl T (letter T i) (plI st l kb ks bl T i) (k + (d + 1)) (i - k - (d + 1)) : Nat) from fun T k i g => by
                  obtain ⟨a1, a2, a3⟩ := HM.out T k i g
                  have hC := (HIT.out T k i g).2.1
                  have hP := HPV.out T k i g
                  have hq := HQ.out
                  rw [a2, hC] at hq
                  have hlt : d < i - k := by
                    rcases Nat.lt_or_ge d (i - k) with z | z
                    · exact z
                    · exfalso
                      have e : k + d = i := by have := g.ki; omega
                      rw [e] at hq
                      exact hqP (by rw [hP, hq]; rfl)
                  have e1 := g.front hlt
                  have e2 := g.step hlt
                  rw [← hq] at e1
                  refine ⟨by omega, by rw [a2]; exact e2.symm, ?_⟩
                  rw [if_neg (by omega)] at e1
                  omega)
                clear hqP
                go_wp2_with fail
                refine (spec_l8Head (s := ⟨#[112]⟩) hn (HHr.out.up hb3) HK.out hcap).mono ?_; rintro e w4 ⟨rfl, hb4⟩
                have HB4 := Lib.hid (below_go HB3.out hb4)
                clear hb4
                go_wp2_with fail
                refine (spec_l1Times hfz hpz hfp).mono ?_; rintro e w' ⟨rfl, rfl⟩
                go_wp2
                go_roundw
                case rel => exact ⟨d + 1, _, S, by omega, rfl, by rfl, by rw [HPD.out], by omega, by omega, HFP, HM2, HB4⟩
                case measure => simp [tLen, hDs']; omega
            · have hIl : ¬ (D.size : Int) < 60 := by omega
              have HFIN := Lib.hid (show WdQ st l kb ks bl y h0 ⟨#[]⟩ false from ⟨fun T k i g => by
                have := (HM.out T k i g).1
                have h2 := g.done.2.2
                omega, fun T k g => (NPL.out T k g).elim⟩)
              go_wp2
              go_ret2
              exact WordR.mk ⟨#[]⟩ false rfl (by decide) (fun e => by cases e) HFIN.out (below_go B1 HB.out)
      · -- plain leads
        have hpx : ((y.extract 0 1).toList == [112]) = true := hp
        have NIT := Lib.hid (fun T k i (g : ItW st l kb ks bl y h0 T k i) => show False from by have := (HIT.out T k i g).2.2.2; rw [hp] at this; cases this)
        have HLV := Lib.hid (fun T k (g : PlW y T k) => show l1V R = ((T.size - k : Nat) : Int) ∧ 1 ≤ T.size - k ∧ T.size - k ≤ 60 from by
          have h1 := (HPL.out T k g).2.2.2
          rw [← hR] at h1
          have h2 := g.done
          exact ⟨l1V_dec h1 h2.2.2.2, h2.2.2⟩)
        obtain ⟨V, hV⟩ : ∃ u, u = l1V R := ⟨_, rfl⟩
        rw [← hV] at HLV hlv
        have HV := Lib.hid hV
        clear hp hV
        go_in
        go_wp2_with fail
        refine (spec_l8Call (s := y.extract 0 1)).mono ?_; rw [HCL.out]; rintro e w' ⟨rfl, rfl⟩
        go_wp2_with fail
        rw [← hR]
        refine (spec_l1Read (s := R) (by omega)).mono ?_; rw [← HV.out]; rintro e w' ⟨rfl, rfl⟩
        go_wp2
        go_loopw [14, 15] (fun v i wr => ∃ d : Nat, d ≤ 61 ∧ ((d : Int) ≤ V ∨ d = 0) ∧ v = .string (pRep d) ∧ i = .int .i64 d ∧ ((w.alloc (.cells ⟨[.string nm, .int .i64 st, .slice A n c]⟩ 25)).alloc (.cells ⟨[.string kb, .string ks]⟩ 27)) = wr) (fun _ i _ => 61 - (intOf i).toNat)
        case atStart => exact ⟨0, by omega, Or.inr rfl, rfl, rfl, rfl⟩
        case round =>
          obtain ⟨d, hd, hdV, rfl, rfl, rfl⟩ := hrel
          have hps := pRep_size d
          have HPS := Lib.hid (pRep_succ d)
          obtain ⟨D, hD⟩ : ∃ u, u = pRep d := ⟨_, rfl⟩
          rw [← hD] at hps HPS ⊢
          have HD := Lib.hid hD
          have s112 : (⟨#[112]⟩ : ByteArray).size = 1 := rfl
          have o1 : ¬ 9223372036854775807 < D.size + (⟨#[112]⟩ : ByteArray).size := by omega
          clear hD
          by_cases h1 : (d : Int) < V
          · by_cases h2 : d ≤ 60
            · have h2I : (d : Int) ≤ 60 := by omega
              clear hps hdV
              go_wp2
              go_roundw
              case rel => exact ⟨d + 1, by omega, Or.inl (by omega), by rw [HPS.out], by go_num, trivial⟩
              case measure => simp [intOf]; omega
            · have h2I : ¬ (d : Int) ≤ 60 := by omega
              have hV0 : (0 : Int) < V := by omega
              have hd61 : D.size = 61 := by omega
              clear hps hdV
              go_wp2
              go_ret2
              exact WordR.mk D true rfl (by omega) (fun _ => ⟨by rw [HD.out]; exact calT_pRep d, by omega⟩) ⟨fun T k i g => (NIT.out T k i g).elim, fun T k g => by have := HLV.out T k g; omega⟩ b0
          · have hdd : (V ≤ 0 ∧ d = 0) ∨ (0 < V ∧ (d : Int) = V) := by omega
            clear hdV
            rcases hdd with ⟨hV0, hd0⟩ | ⟨hV0, hdE⟩
            · have hV1 : ¬ (0 : Int) < V := by omega
              go_wp2
              go_ret2
              exact WordR.mk D false rfl (by omega) (fun e => by cases e) ⟨fun T k i g => (NIT.out T k i g).elim, fun T k g => by have := HLV.out T k g; omega⟩ b0
            · have hdm := Lib.hid hdE
              clear hdE
              go_wp2
              go_ret2
              exact WordR.mk D true rfl (by omega) (fun _ => ⟨by rw [HD.out]; exact calT_pRep d, by have := hdm.out; omega⟩) ⟨fun T k i g => (NIT.out T k i g).elim, fun T k g => ⟨rfl, by have h3 := HLV.out T k g; have h4 := hdm.out; rw [HD.out]; congr 1; omega⟩⟩ b0
end Go.Proofs.YtidolgonmimicaaGreatDoor
/- The walk of the reference's ReadCalling. -/
namespace Go.Proofs.YtidolgonmimicaaGreatDoor
set_option linter.unusedVariables false
set_option linter.unusedSimpArgs false
open Go.ChangeShapes Go.WideShapes Go.ChangeAt Go.RowKit Go.Deep
theorem spl_len (c : UInt8) : ∀ l, (spl c l).length ≤ l.length + 1
  | [] => by simp [spl]
  | x :: l => by
    have ih := spl_len c l
    rw [spl]
    split
    · simp; omega
    · rcases hs : spl c l with _ | ⟨a, b⟩
      · simp
      · rw [hs] at ih
        simp at ih ⊢; omega
/-- What a reader of callings answers. -/
def ReadR (gd : Bool) (st : Nat) (l : List ByteArray) (kb ks : ByteArray) (bl : Nat) (s : ByteArray) (w : World) (e : Ending) (w' : World) : Prop :=
  ∃ (x : ByteArray) (ok : Bool), e = .returned (.tuple #[.string x, .bool ok]) ∧ RdP gd st l kb ks bl s x ok ∧ Below w.heap.size w w'
theorem ReadR.mk {gd : Bool} {st : Nat} {l : List ByteArray} {kb ks : ByteArray} {bl : Nat} {s : ByteArray} {w w' : World} {e : Ending} (x : ByteArray) (ok : Bool) (he : e = .returned (.tuple #[.string x, .bool ok])) (h1 : RdP gd st l kb ks bl s x ok) (h2 : Below w.heap.size w w') : ReadR gd st l kb ks bl s w e w' := ⟨x, ok, he, h1, h2⟩
theorem RdP.no {gd : Bool} {st : Nat} {l : List ByteArray} {kb ks : ByteArray} {bl : Nat} {s : ByteArray} (h : ¬ (gd = true ∧ s.size ≤ 200 ∧ ∃ T, goodT T = true ∧ calS st l kb ks bl T = s)) : RdP gd st l kb ks bl s ⟨#[]⟩ false := ⟨(fun e => by cases e), fun _ => ⟨rfl, h⟩⟩
theorem bytes_neW {y s : ByteArray} (h : ¬ y = s) : (y.toList == s.toList) = false := by
  rw [beq_eq_false_iff_ne]
  intro e
  rw [ByteArray.toList_eq, ByteArray.toList_eq] at e
  exact h (baX e)
set_option maxHeartbeats 4000000 in
set_option maxRecDepth 100000 in
theorem spec_ReadCalling {A : Option Addr} {n c st : Nat} {nm : ByteArray} {l : List ByteArray} {kb ks s : ByteArray} {bl : Nat} {w : World} (hn : l.length = n) (h : Strs w A l) (hz : n ≤ 1048576) (hs : ∀ s ∈ l, s.size ≤ 16777216) (hnm : nm.size ≤ 16777216) (h9 : st ≤ 1000) (hcap : n ≤ c) (hkb : kb.size ≤ 16777216) (hks : ks.size ≤ 16777216) (hsz : s.size ≤ 16777216) (hb : bl ≤ 100) :
    Calls Tryz.prog 9 #[.agg #[.string nm, .int .i64 st, .slice A n c], .agg #[.string kb, .string ks], .string s, .int .i64 bl] w fun e w' => ReadR (askB nm st l kb ks bl) st l kb ks bl s w e w' := by
  have b0 : Below w.heap.size w ((w.alloc (.cells ⟨[.string nm, .int .i64 st, .slice A n c]⟩ 25)).alloc (.cells ⟨[.string kb, .string ks]⟩ 27)) := by (repeat' (first | (with_reducible exact Below.refl _ _) | (with_reducible assumption) | (with_reducible refine below_drewN ?_ _) | (with_reducible refine Below.drew ?_) | (with_reducible refine below_alloc ?_ _) | (with_reducible refine Below.alloc ?_ ?_ _) | (with_reducible refine Below.setCell ?_ ?_ _) | (with_reducible refine below_go ?_ (by with_reducible assumption)) | (with_reducible refine below_then (by with_reducible assumption) ?_ ?_) | go_size))
  have K0 := (Blk.at_ w 25 [.string nm, .int .i64 st, .slice A n c] (b := w.heap.size) rfl).alloc (.cells ⟨[.string kb, .string ks]⟩ 27)
  have J0 := Blk.at_ (w.alloc (.cells ⟨[.string nm, .int .i64 st, .slice A n c]⟩ 25)) 27 [.string kb, .string ks] (b := w.heap.size + 1) (by simp)
  have H0 := h.up b0
  have HS := Lib.hid hs
  obtain ⟨gd, hgd⟩ : ∃ u, u = askB nm st l kb ks bl := ⟨_, rfl⟩
  rw [← hgd]
  have HGD := Lib.hid hgd
  clear hgd
  go_in
  go_wp2_with fail
  refine (spec_l10Asked (nm := nm) (st := st) hn H0 hz hs hnm h9 hkb hks hb).mono ?_; rw [← HGD.out]; rintro e w1 ⟨rfl, hb1⟩
  have K1 := K0.up hb1
  have J1 := J0.up hb1
  have HH1 := Lib.hid (H0.up hb1)
  have B1 := below_go b0 hb1
  clear K0 J0 H0 h b0 hb1
  rcases gd
  · go_wp2
    go_ret2
    exact ReadR.mk ⟨#[]⟩ false rfl (RdP.no (fun q => by cases q.1)) B1
  · by_cases hs2 : s.size ≤ 200
    · have hI : ¬ (200 : Int) < (s.size : Int) := by omega
      have hk : goodK nm (st : Int) l kb ks = true := (Bool.and_eq_true_iff.1 HGD.out.symm).1
      have HK := Lib.hid hk
      have h38 := (goodK_all hk).1
      have HRR := Lib.hid (rowN_rounds h38.1 h38.2)
      have k0 := K1.cell 0; have k1 := K1.cell 1; have k2 := K1.cell 2; have j0 := J1.cell 0; have j1 := J1.cell 1
      simp only [List.getElem?_cons_zero, List.getElem?_cons_succ] at k0 k1 k2 j0 j1
      clear hk
      go_wp2_with fail
      refine (spec_l1Rounds h38.2).mono ?_; rintro e w' ⟨rfl, rfl⟩
      go_wp2_with fail
      refine (spec_l1Split (s := s) (c := 32) (by omega) rfl).mono ?_; rintro e w2 ⟨A2, c2, rfl, ho2, hb2⟩
      have K2 := K1.up hb2
      have J2 := J1.up hb2
      have HH2 := Lib.hid (HH1.out.up hb2)
      have B2 := below_go B1 hb2
      have R2 := Lib.hid ho2.recs
      have HWZ := Lib.hid (splB_size (c := 32) s)
      have hNle : (splB 32 s).length ≤ 201 := by have := spl_len 32 s.data.toList; rw [splB, List.length_map]; rw [← sz_list] at this; omega
      have HLen := Lib.hid (rfl : (splB 32 s).length = (splB 32 s).length)
      have HE := Lib.hid (fun (x f : ByteArray) (q : Nat) (g : RdQ st l kb ks bl s q x f) (hq : q = (splB 32 s).length) (T : ByteArray) (hT : goodT T = true) (hc : calS st l kb ks bl T = s) => g.end_ h38.1 h38.2 hq hT hc)
      have HWD := Lib.hid (fun (x f y z : ByteArray) (ok : Bool) (q : Nat) (g : RdQ st l kb ks bl s q x f) (hy : (splB 32 s)[q]? = some y) (hw : WdQ st l kb ks bl y f z ok) (T : ByteArray) (hT : goodT T = true) (hc : calS st l kb ks bl T = s) => g.word h38.1 h38.2 hy hw hT hc)
      have HST := Lib.hid (fun (x f y z : ByteArray) (ok : Bool) (q : Nat) (g : RdQ st l kb ks bl s q x f) (hy : (splB 32 s)[q]? = some y) (hw : WdQ st l kb ks bl y f z ok) => g.step h38.1 h38.2 hy hw)
      obtain ⟨W, hW⟩ : ∃ u, u = splB 32 s := ⟨_, rfl⟩
      rw [← hW] at R2 HWZ HE HWD HST HLen hNle ⊢
      obtain ⟨N, hN⟩ : ∃ u, u = W.length := ⟨_, rfl⟩
      rw [← hN] at HE hNle ⊢
      have HNL := Lib.hid hN
      clear hW hN ho2 hb2 k0 k1 k2 j0 j1 K1 J1
      go_wp2
      go_loopw [10, 11, 32] (fun vt vf i wr => ∃ (q : Nat) (x f : ByteArray), q ≤ N ∧ vt = .string x ∧ vf = .string f ∧ i = .int .i64 q ∧ x.size ≤ 60 ∧ Hid (calT x) ∧ Hid (RowN st f) ∧ Hid (RdQ st l kb ks bl s q x f) ∧ Hid (Below w2.heap.size w2 wr)) (fun _ _ i _ => N - (intOf i).toNat)
      case atStart => exact ⟨0, ⟨#[]⟩, roundsS st, Nat.zero_le _, rfl, rfl, rfl, by decide, Lib.hid calT_nil, HRR, Lib.hid RdQ.start, Lib.hid (Below.refl _ _)⟩
      case round =>
        obtain ⟨q, x, f, hq, rfl, rfl, rfl, hx60, HX, HF, HQ, HB⟩ := hrel
        rename World => wr
        have K3 := K2.up HB.out
        have J3 := J2.up HB.out
        have HHr := Lib.hid (HH2.out.up HB.out)
        have k0 := K3.cell 0; have k1 := K3.cell 1; have k2 := K3.cell 2; have j0 := J3.cell 0; have j1 := J3.cell 1
        simp only [List.getElem?_cons_zero, List.getElem?_cons_succ] at k0 k1 k2 j0 j1
        by_cases hlt : q < N
        · have hIq : (q : Int) < (N : Int) := by omega
          obtain ⟨b1, o1, y, hA, _, hy, hcy⟩ := (R2.out.below HB.out (Nat.le_refl _)).at_str (k := q) (by rw [← HNL.out]; exact hlt)
          subst hA
          have hy2 : y.size ≤ 1000 := Nat.le_trans (HWZ.out y (List.mem_of_getElem? hy)) (by omega)
          have HY := Lib.hid hy
          clear hy
          go_wp2_with fail
          refine (spec_l10Word (h0 := f) (y := y) hn HHr.out HK.out hcap HF.out hy2 hb).mono ?_; intro e w3 hw
          obtain ⟨z, ok, rfl, hz61, hok, hWQ, hb3⟩ := hw
          have HWQ := Lib.hid hWQ
          have HB3 := Lib.hid (below_go HB.out hb3)
          have K4 := K3.up hb3
          have J4 := J3.up hb3
          have HH4 := Lib.hid (HHr.out.up hb3)
          clear k0 k1 k2 j0 j1 hWQ hb3
          have k0 := K4.cell 0; have k1 := K4.cell 1; have k2 := K4.cell 2; have j0 := J4.cell 0; have j1 := J4.cell 1
          simp only [List.getElem?_cons_zero, List.getElem?_cons_succ] at k0 k1 k2 j0 j1
          rcases ok
          · have HNO := Lib.hid (show RdP true st l kb ks bl s ⟨#[]⟩ false from RdP.no (fun qq => by
              obtain ⟨_, _, T, hT, hc⟩ := qq
              have := (HWD.out _ _ _ _ _ _ HQ.out HY.out HWQ.out T hT hc).1
              cases this))
            go_wp2
            go_ret2
            exact ReadR.mk ⟨#[]⟩ false rfl HNO.out (below_go B2 HB3.out)
          · have hok2 := hok rfl
            have HZC := Lib.hid hok2.1
            have hz1 := hok2.2
            clear hok hok2
            by_cases hxz : x.size + z.size ≤ 60
            · have hIx : ¬ (60 : Int) < (x.size : Int) + (z.size : Int) := by omega
              have hgz := goodT_of HZC.out hz1 (by omega)
              have HGZ := Lib.hid hgz
              have hhr : RowN st (hdAt st l kb ks z z.size) := hdAt_good h38.1 h38.2 l kb ks z z.size
              have hfz : f.size ≤ 16777216 := by rw [HF.out.2]; omega
              have hhz : (hdAt st l kb ks z z.size).size ≤ 16777216 := by rw [hhr.2]; omega
              have hft := rowN_fits HF.out hhr
              have HFN := Lib.hid (HF.out.times hhr)
              have HXN := Lib.hid (calT_app HX.out HZC.out)
              have HQN := Lib.hid (HST.out _ _ _ _ _ _ HQ.out HY.out HWQ.out)
              have hxn : (x ++ z).size = x.size + z.size := ByteArray.size_append
              have o1 : ¬ 9223372036854775807 < x.size + z.size := by omega
              clear hgz hhr
              go_wp2_with fail
              refine (spec_l9End (t := z) hn HH4.out HK.out HGZ.out hcap).mono ?_; rintro e w4 ⟨rfl, hb4⟩
              have HB4 := Lib.hid (below_go HB3.out hb4)
              clear hb4
              go_wp2_with fail
              refine (spec_l1Times hfz hhz hft).mono ?_; rintro e w' ⟨rfl, rfl⟩
              go_wp2
              go_roundw
              case rel => exact ⟨q + 1, x ++ z, _, by omega, rfl, rfl, by go_num, by omega, HXN, HFN, HQN, HB4⟩
              case measure => simp [intOf]; omega
            · have hIx : (60 : Int) < (x.size : Int) + (z.size : Int) := by omega
              have HNO := Lib.hid (show RdP true st l kb ks bl s ⟨#[]⟩ false from RdP.no (fun qq => by
                obtain ⟨_, _, T, hT, hc⟩ := qq
                have := (HWD.out _ _ _ _ _ _ HQ.out HY.out HWQ.out T hT hc).2.1
                rw [ByteArray.size_append] at this
                omega))
              go_wp2
              go_ret2
              exact ReadR.mk ⟨#[]⟩ false rfl HNO.out (below_go B2 HB3.out)
        · obtain rfl : q = N := by omega
          have hIq : ¬ (q : Int) < (q : Int) := by omega
          go_wp2_with fail
          refine (spec_l9Good (t := x) (by omega)).mono ?_; rintro e w' ⟨rfl, rfl⟩
          rcases hgx : goodT x
          · have HNO := Lib.hid (show RdP true st l kb ks bl s ⟨#[]⟩ false from RdP.no (fun qq => by
              obtain ⟨_, _, T, hT, hc⟩ := qq
              have := HE.out _ _ _ HQ.out rfl T hT hc
              rw [this, hgx] at hT; cases hT))
            go_wp2
            go_ret2
            exact ReadR.mk ⟨#[]⟩ false rfl HNO.out (below_go B2 HB.out)
          · have HGX := Lib.hid hgx
            clear hgx
            go_wp2_with fail
            refine (spec_l10Calling (t := x) (bl := bl) hn HHr.out HK.out HGX.out hcap hb).mono ?_; rintro e w4 ⟨rfl, hb4⟩
            obtain ⟨V, hV⟩ : ∃ u, u = calS st l kb ks bl x := ⟨_, rfl⟩
            rw [← hV]
            have HV := Lib.hid hV
            clear hV
            by_cases hVs : V = s
            · have HYES := Lib.hid (show RdP true st l kb ks bl s x true from ⟨fun _ => ⟨rfl, hs2, HGX.out, by rw [← HV.out, hVs], fun T hT hc => HE.out _ _ _ HQ.out rfl T hT hc⟩, fun e => by cases e⟩)
              have hbe : (V.toList == s.toList) = true := by rw [hVs]; simp
              clear hVs
              go_wp2
              go_ret2
              exact ReadR.mk x true rfl HYES.out (below_go (below_go B2 HB.out) hb4)
            · have HNO := Lib.hid (show RdP true st l kb ks bl s ⟨#[]⟩ false from RdP.no (fun qq => by
                obtain ⟨_, _, T, hT, hc⟩ := qq
                have e := HE.out _ _ _ HQ.out rfl T hT hc
                rw [e, ← HV.out] at hc
                exact hVs hc))
              have hbe := bytes_neW hVs
              clear hVs
              go_wp2
              go_ret2
              exact ReadR.mk ⟨#[]⟩ false rfl HNO.out (below_go (below_go B2 HB.out) hb4)
    · have hI : (200 : Int) < (s.size : Int) := by omega
      go_wp2
      go_ret2
      exact ReadR.mk ⟨#[]⟩ false rfl (RdP.no (fun q => hs2 q.2.1)) B1
end Go.Proofs.YtidolgonmimicaaGreatDoor
/- The walk of impl.callingTouch: the touch that a calling tells. -/
namespace Go.Proofs.YtidolgonmimicaaGreatDoor
set_option linter.unusedVariables false
set_option linter.unusedSimpArgs false
open Go.ChangeShapes Go.WideShapes Go.ChangeAt Go.RowKit Go.Deep
theorem lit_strs10 (w : World) (t : TypeId) (l : List ByteArray) : Strs (w.alloc (.cells ⟨l.map Value.string⟩ t)) (some ⟨w.heap.size, 0, none⟩) l := by
  refine ⟨strE_len, by rw [flatMap_len strE_len], fun hn => ⟨w.heap.size, 0, rfl, by simp, fun j u hu => ?_⟩⟩
  have h := Box.new w (l.map Value.string) t
  rw [Nat.zero_add]
  refine h j u ?_
  rw [← hu]
  congr 1
  exact (flatMap_one Value.string l).symm
theorem rep_p : ∀ c, (⟨(Lib.repeatL [112] c).toArray⟩ : ByteArray) = pRep c := by
  intro c
  have h : Lib.repeatL [112] c = List.replicate c 112 := by
    induction c with
    | zero => rfl
    | succ c ih => rw [Lib.repeatL, ih, List.replicate_succ]; rfl
  rw [h]; rfl
section
variable {st : Nat} {l : List ByteArray} {kb ks : ByteArray} {bl : Nat}
theorem RdQ.call (h3 : 3 ≤ st) (h8 : st ≤ 8) {s x h y C f : ByteArray} {q d : Nat} (g : RdQ st l kb ks bl s q x h) (hy : (splB 32 s)[q]? = some y) (hM : ∀ T k i, ItW st l kb ks bl y h T k i → d = i - k ∧ C = letter T i ∧ f = hdAt st l kb ks T i) (hno : ∀ T k, ¬ PlW y T k) : RdQ st l kb ks bl s (q + 1) (x ++ (pRep d ++ C)) (timesS f (callHd st l kb ks C)) := fun T hT hs => by
  have hc := calS_cut (l := l) (kb := kb) (ks := ks) (bl := bl) h3 h8 hT
  rw [hs] at hc
  rw [hc] at hy
  have hql := (List.getElem?_eq_some_iff.1 hy).1
  rcases g T hT hs with ⟨k, hk, rfl, rfl⟩ | ⟨e, _⟩
  · rcases hk.next hy with ⟨i, i1, i2, i3, i4, i5, i6⟩ | ⟨p1, p2, p3, p4⟩
    · have hi : ItW st l kb ks bl y (hdAt st l kb ks T k) T k i := ⟨hT, i1, i2, i3, i4, i5, rfl⟩
      obtain ⟨e1, e2, e3⟩ := hM T k i hi
      obtain ⟨d1, d2, d3⟩ := hi.done
      rw [e1, e2, e3]
      exact Or.inl ⟨i + 1, i6, d2, rfl⟩
    · exact absurd ⟨hT, p2, p1, p3⟩ (hno T k)
  · omega
theorem RdQ.plain (h3 : 3 ≤ st) (h8 : st ≤ 8) {s x h y z f : ByteArray} {q : Nat} (g : RdQ st l kb ks bl s q x h) (hy : (splB 32 s)[q]? = some y) (hno : ∀ T k i, ¬ ItW st l kb ks bl y h T k i) (hM : ∀ T k, PlW y T k → z = pRep (T.size - k)) : RdQ st l kb ks bl s (q + 1) (x ++ z) f := fun T hT hs => by
  have hc := calS_cut (l := l) (kb := kb) (ks := ks) (bl := bl) h3 h8 hT
  rw [hs] at hc
  rw [hc] at hy
  have hql := (List.getElem?_eq_some_iff.1 hy).1
  rcases g T hT hs with ⟨k, hk, rfl, rfl⟩ | ⟨e, _⟩
  · rcases hk.next hy with ⟨i, i1, i2, i3, i4, i5, i6⟩ | ⟨p1, p2, p3, p4⟩
    · exact absurd (⟨hT, i1, i2, i3, i4, i5, rfl⟩ : ItW st l kb ks bl y (hdAt st l kb ks T k) T k i) (hno T k i)
    · have hp : PlW y T k := ⟨hT, p2, p1, p3⟩
      rw [hM T k hp]
      exact Or.inr ⟨p4, hp.done.2.1⟩
  · omega
theorem RdQ.no (h3 : 3 ≤ st) (h8 : st ≤ 8) {s x h y : ByteArray} {q : Nat} (g : RdQ st l kb ks bl s q x h) (hy : (splB 32 s)[q]? = some y) (h1 : ∀ T k i, ItW st l kb ks bl y h T k i → x.size = k → False) (h2 : ∀ T k, PlW y T k → False) : ∀ T, goodT T = true → calS st l kb ks bl T = s → False := fun T hT hs => by
  have hc := calS_cut (l := l) (kb := kb) (ks := ks) (bl := bl) h3 h8 hT
  rw [hs] at hc
  rw [hc] at hy
  have hql := (List.getElem?_eq_some_iff.1 hy).1
  rcases g T hT hs with ⟨k, hk, rfl, rfl⟩ | ⟨e, _⟩
  · rcases hk.next hy with ⟨i, i1, i2, i3, i4, i5, i6⟩ | ⟨p1, p2, p3, p4⟩
    · exact h1 T k i ⟨hT, i1, i2, i3, i4, i5, rfl⟩ (by rw [ByteArray.size_extract]; omega)
    · exact h2 T k ⟨hT, p2, p1, p3⟩
  · omega
end
/-- What callingTouch answers. -/
def TouR (st : Nat) (l : List ByteArray) (kb ks : ByteArray) (bl : Nat) (s : ByteArray) (w : World) (e : Ending) (w' : World) : Prop :=
  ∃ x : ByteArray, e = .returned (.string x) ∧ x.size ≤ 30000 ∧ (∀ T, goodT T = true → calS st l kb ks bl T = s → T = x) ∧ Below w.heap.size w w'
theorem TouR.mk {st : Nat} {l : List ByteArray} {kb ks : ByteArray} {bl : Nat} {s : ByteArray} {w w' : World} {e : Ending} (x : ByteArray) (he : e = .returned (.string x)) (h1 : x.size ≤ 30000) (h2 : ∀ T, goodT T = true → calS st l kb ks bl T = s → T = x) (h3 : Below w.heap.size w w') : TouR st l kb ks bl s w e w' := ⟨x, he, h1, h2, h3⟩
set_option maxHeartbeats 8000000 in
set_option maxRecDepth 100000 in
theorem impl_callingTouch {A : Option Addr} {n c st : Nat} {nm : ByteArray} {l : List ByteArray} {kb ks : ByteArray} {s : ByteArray} {bl : Nat} {m : Int} {w : World} (hn : l.length = n) (h : Strs w A l) (hk : goodK nm (st : Int) l kb ks = true) (hsz : s.size ≤ 200) (hb : bl ≤ 100) (hm : w.cell? ⟨0, 0, none⟩ = some (.int .i64 m)) (hmw : 0 < w.heap.size) :
    Calls Tryz.prog 26 #[.agg #[.string nm, .int .i64 st, .slice A n c], .agg #[.string kb, .string ks], .string s, .int .i64 bl] w fun e w' => TouR st l kb ks bl s w e w' := by
  have b0 : Below w.heap.size w ((w.alloc (.cells ⟨[.string nm, .int .i64 st, .slice A n c]⟩ 25)).alloc (.cells ⟨[.string kb, .string ks]⟩ 27)) := by (repeat' (first | (with_reducible exact Below.refl _ _) | (with_reducible assumption) | (with_reducible refine below_drewN ?_ _) | (with_reducible refine Below.drew ?_) | (with_reducible refine below_alloc ?_ _) | (with_reducible refine Below.alloc ?_ ?_ _) | (with_reducible refine Below.setCell ?_ ?_ _) | (with_reducible refine below_go ?_ (by with_reducible assumption)) | (with_reducible refine below_then (by with_reducible assumption) ?_ ?_) | go_size))
  have K0 := (Blk.at_ w 25 [.string nm, .int .i64 st, .slice A n c] (b := w.heap.size) rfl).alloc (.cells ⟨[.string kb, .string ks]⟩ 27)
  have J0 := Blk.at_ (w.alloc (.cells ⟨[.string nm, .int .i64 st, .slice A n c]⟩ 25)) 27 [.string kb, .string ks] (b := w.heap.size + 1) (by simp)
  have HCM := Lib.hid (fun (u : World) (hu : Below w.heap.size w u) => (hu.cell (p := ⟨0, 0, none⟩) hmw).trans hm)
  have h38 := (goodK_all hk).1
  have HK := Lib.hid hk
  have HC8 := Lib.hid (fun s => (callHd_good hk s : RowN st (callHd st l kb ks s)))
  have HRR := Lib.hid (rowN_rounds h38.1 h38.2)
  have H0 := h.up b0
  have hl := splB_lib 32 s
  have HWZ := Lib.hid (splB_size (c := 32) s)
  have hNle : (splB 32 s).length ≤ 201 := by have := spl_len 32 s.data.toList; rw [splB, List.length_map]; rw [← sz_list] at this; omega
  have HE := Lib.hid (fun (x f : ByteArray) (q : Nat) (g : RdQ st l kb ks bl s q x f) (hq : q = (splB 32 s).length) (T : ByteArray) (hT : goodT T = true) (hc : calS st l kb ks bl T = s) => g.end_ h38.1 h38.2 hq hT hc)
  have HNQ := Lib.hid (fun (x f y : ByteArray) (q : Nat) (g : RdQ st l kb ks bl s q x f) (hy : (splB 32 s)[q]? = some y) (h1 : ∀ T k i, ItW st l kb ks bl y f T k i → x.size = k → False) (h2 : ∀ T k, PlW y T k → False) => g.no h38.1 h38.2 hy h1 h2)
  have HCQ := Lib.hid (fun (x f y C f2 : ByteArray) (q d : Nat) (g : RdQ st l kb ks bl s q x f) (hy : (splB 32 s)[q]? = some y) (hM : ∀ T k i, ItW st l kb ks bl y f T k i → d = i - k ∧ C = letter T i ∧ f2 = hdAt st l kb ks T i) (hno : ∀ T k, ¬ PlW y T k) => g.call h38.1 h38.2 hy hM hno)
  have HPQ := Lib.hid (fun (x f y z f2 : ByteArray) (q : Nat) (g : RdQ st l kb ks bl s q x f) (hy : (splB 32 s)[q]? = some y) (hno : ∀ T k i, ¬ ItW st l kb ks bl y f T k i) (hM : ∀ T k, PlW y T k → z = pRep (T.size - k)) => g.plain (f := f2) h38.1 h38.2 hy hno hM)
  have HSPL : Hid (∀ u : World, Below w.heap.size w u → Calls Tryz.prog 56 #[.string s, .string { data := #[32] }] u fun e w' => e = .returned (.slice (some ⟨u.heap.size, 0, none⟩) (splB 32 s).length (splB 32 s).length) ∧ Strs w' (some ⟨u.heap.size, 0, none⟩) (splB 32 s) ∧ Below u.heap.size u w') := Lib.hid (fun u hu => by
    refine (Tryz.strings_Split s { data := #[32] } m u (by omega) (HCM.out u hu) (by decide)).mono ?_
    rw [hl.1, hl.2]
    rintro e w' ⟨rfl, rfl⟩
    refine ⟨rfl, lit_strs10 u _ _, ?_⟩
    (repeat' (first | (with_reducible exact Below.refl _ _) | (with_reducible assumption) | (with_reducible refine below_drewN ?_ _) | (with_reducible refine Below.drew ?_) | (with_reducible refine below_alloc ?_ _) | (with_reducible refine Below.alloc ?_ ?_ _) | (with_reducible refine Below.setCell ?_ ?_ _) | (with_reducible refine below_go ?_ (by with_reducible assumption)) | (with_reducible refine below_then (by with_reducible assumption) ?_ ?_) | go_size)))
  clear hl hm
  obtain ⟨W, hW⟩ : ∃ u, u = splB 32 s := ⟨_, rfl⟩
  rw [← hW] at HWZ HE HNQ HCQ HPQ hNle HSPL
  obtain ⟨N, hN⟩ : ∃ u, u = W.length := ⟨_, rfl⟩
  rw [← hN] at HE hNle HSPL
  have HNL := Lib.hid hN
  clear hW hN
  have k1 := K0.cell 1
  simp only [List.getElem?_cons_zero, List.getElem?_cons_succ] at k1
  go_in
  go_wp2_with fail
  refine (impl_rounds h38.2).mono ?_; rintro e w' ⟨rfl, rfl⟩
  have k0 := K0.cell 0; have k2 := K0.cell 2; have j0 := J0.cell 0; have j1 := J0.cell 1
  simp only [List.getElem?_cons_zero, List.getElem?_cons_succ] at k0 k2 j0 j1
  go_wp2_with fail
  refine (impl_callHead (c := c) (s := ⟨#[112]⟩) hn H0 HK.out).mono ?_; rintro e w1 ⟨rfl, hb1⟩
  have B1 := below_go b0 hb1
  go_wp2_with fail
  refine (HSPL.out _ B1).mono ?_; rintro e w2 ⟨rfl, hR2, hb2⟩
  have R2 := Lib.hid hR2
  have B2 := below_go B1 hb2
  have K2 := (K0.up hb1).up hb2
  have J2 := (J0.up hb1).up hb2
  have HH2 := Lib.hid ((H0.up hb1).up hb2)
  obtain ⟨A2, hA2⟩ : ∃ A : Option Addr, A = some ⟨w1.heap.size, 0, none⟩ := ⟨_, rfl⟩
  rw [← hA2] at R2 ⊢
  have HHP := Lib.hid (HC8.out ⟨#[112]⟩)
  obtain ⟨PH, hPH⟩ : ∃ u, u = callHd st l kb ks ⟨#[112]⟩ := ⟨_, rfl⟩
  rw [← hPH] at HHP ⊢
  have HPH := Lib.hid hPH
  clear hA2 hPH hR2 hb1 hb2 K0 J0 H0 k0 k1 k2 j0 j1 HSPL h
  go_wp2
  go_loopw [9, 10, 28] (fun vt vf i wr => ∃ (q : Nat) (x f : ByteArray), q ≤ N ∧ vt = .string x ∧ vf = .string f ∧ i = .int .i64 q ∧ x.size ≤ 100 * q + 60 ∧ Hid (RowN st f) ∧ Hid (RdQ st l kb ks bl s q x f) ∧ Hid (Below w2.heap.size w2 wr)) (fun _ _ i _ => N - (intOf i).toNat)
  case atStart => exact ⟨0, ⟨#[]⟩, roundsS st, Nat.zero_le _, rfl, rfl, rfl, by decide, HRR, Lib.hid RdQ.start, Lib.hid (Below.refl _ _)⟩
  case round =>
    obtain ⟨q, x, f0, hq, rfl, rfl, rfl, hxz, HF0, HQ, HB⟩ := hrel
    rename World => wr
    by_cases hlt : q < N
    · have hIq : (q : Int) < (N : Int) := by omega
      obtain ⟨b1, o1, y, hA, _, hy, hcy⟩ := (R2.out.below HB.out (Nat.le_refl _)).at_str (k := q) (by rw [← HNL.out]; exact hlt)
      subst hA
      have hy2 : y.size ≤ 1000 := Nat.le_trans (HWZ.out y (List.mem_of_getElem? hy)) (by omega)
      have HY := Lib.hid hy
      have HIT := Lib.hid (fun T k i (g : ItW st l kb ks bl y f0 T k i) => ci_it h38.1 h38.2 g)
      have HPL := Lib.hid (fun T k (g : PlW y T k) => ci_pl g)
      have hnb := ciN_bd y
      have hcb := ciC_bd y
      have hcell := HCM.out _ (below_go B2 HB.out)
      have hCZ : (ciL y).size ≤ 1 := by
        rw [ciL]; split
        · decide
        · rw [ByteArray.size_extract]; omega
      clear hy
      go_wp2_with fail
      refine (impl_callingItem (y := y) (m := m) hy2 hcell).mono ?_; rintro e w3 ⟨rfl, hb3⟩
      have HB3 := Lib.hid (below_go HB.out hb3)
      obtain ⟨C, hC⟩ : ∃ u, u = ciL y := ⟨_, rfl⟩
      obtain ⟨P0, hP0⟩ : ∃ u, u = ciN y := ⟨_, rfl⟩
      obtain ⟨C0, hC0⟩ : ∃ u, u = ciC y := ⟨_, rfl⟩
      obtain ⟨ok, hok⟩ : ∃ u, u = ciOk y := ⟨_, rfl⟩
      rw [← hP0] at hnb
      rw [← hC0] at hcb
      rw [← hC] at hCZ
      rw [← hC, ← hP0, ← hC0, ← hok] at HIT HPL ⊢
      clear hC hP0 hC0 hok hb3 hcell hcy
      rcases ok
      · have HNO := Lib.hid (HNQ.out _ _ _ _ HQ.out HY.out (fun T k i g _ => by have := (HIT.out T k i g).1; cases this) (fun T k g => by have := (HPL.out T k g).1; cases this))
        go_wp2
        go_ret
        exact TouR.mk ⟨#[]⟩ rfl (by decide) (fun T hT hc => (HNO.out T hT hc).elim) (below_go B2 HB3.out)
      · rcases hcl : isCl C
        · have HNO := Lib.hid (HNQ.out _ _ _ _ HQ.out HY.out (fun T k i g _ => by have := (HIT.out T k i g).2.2.2.2.1; rw [hcl] at this; cases this) (fun T k g => by have := (HPL.out T k g).2.2.2.1; rw [hcl] at this; cases this))
          have HCL := Lib.hid hcl
          clear hcl
          go_wp2_with fail
          refine (impl_isCall (s := C)).mono ?_; rw [HCL.out]; rintro e w' ⟨rfl, rfl⟩
          go_wp2
          go_ret
          exact TouR.mk ⟨#[]⟩ rfl (by decide) (fun T hT hc => (HNO.out T hT hc).elim) (below_go B2 HB3.out)
        · have HCL := Lib.hid hcl
          clear hcl
          rcases hp : isP C
          · -- a call
            have hpx : (C.toList == [112]) = false := hp
            have NPL := Lib.hid (fun T k (g : PlW y T k) => show False from by have := (HPL.out T k g).2.2.2.2; rw [hp] at this; cases this)
            have HIV := Lib.hid (fun T k i (g : ItW st l kb ks bl y f0 T k i) => show P0 = (plI st l kb ks bl T i : Nat) ∧ C0 = (cnI st l kb ks bl T i k : Nat) ∧ C = letter T i from by
              obtain ⟨_, a2, a3, a4, _⟩ := HIT.out T k i g
              exact ⟨a2, a3, a4⟩)
            have HCC := Lib.hid (HC8.out C)
            clear hp HIT HPL
            go_wp2_with fail
            refine (impl_isCall (s := C)).mono ?_; rw [HCL.out]; rintro e w' ⟨rfl, rfl⟩
            go_wp2
            go_loopw [9, 10, 16] (fun vo vf vs wt => ∃ (d : Nat) (X f : ByteArray) (S : Int), vo = .string X ∧ vf = .string f ∧ vs = .int .i64 S ∧ Hid (X = x ++ pRep d) ∧ X.size = x.size + d ∧ (d = 0 ∨ X.size < 60) ∧ -100 ≤ S + d ∧ S ≤ 100 ∧ Hid (RowN st f) ∧ Hid (∀ T k i, ItW st l kb ks bl y f0 T k i → d ≤ i - k ∧ f = hdAt st l kb ks T (k + d) ∧ S = (cntA st l kb ks bl T (letter T i) (plI st l kb ks bl T i) (k + d) (i - k - d) : Nat)) ∧ Hid (Below w2.heap.size w2 wt)) (fun vo _ _ _ => 60 - tLen vo)
            case atStart => exact ⟨0, x, f0, C0, rfl, rfl, rfl, Lib.hid (by rw [pRep_zero]; exact (spec_app_empty x).symm), by omega, Or.inl rfl, by omega, by omega, HF0, Lib.hid (fun T k i g => ⟨Nat.zero_le _, g.from_, (HIV.out T k i g).2.1⟩), HB3⟩
            case round =>
              obtain ⟨d, X, f, S, rfl, rfl, rfl, HX, hXs, hX60, hS1, hS2, HF, HM, HBt⟩ := hrel
              rename World => wt
              have K3 := K2.up HBt.out
              have J3 := J2.up HBt.out
              have HHt := Lib.hid (HH2.out.up HBt.out)
              have k0 := K3.cell 0; have k1 := K3.cell 1; have k2 := K3.cell 2; have j0 := J3.cell 0; have j1 := J3.cell 1
              simp only [List.getElem?_cons_zero, List.getElem?_cons_succ] at k0 k1 k2 j0 j1
              have s112 : (⟨#[112]⟩ : ByteArray).size = 1 := rfl
              have hX1 : (X ++ (⟨#[112]⟩ : ByteArray)).size = X.size + 1 := by rw [ByteArray.size_append]; rfl
              have hXC : (X ++ C).size = X.size + C.size := ByteArray.size_append
              have o1 : ¬ 9223372036854775807 < X.size + (⟨#[112]⟩ : ByteArray).size := by omega
              have o2 : ¬ 9223372036854775807 < X.size + C.size := by omega
              have hfz : f.size ≤ 16777216 := by rw [HF.out.2]; omega
              have hpz : PH.size ≤ 16777216 := by rw [HHP.out.2]; omega
              have hcz : (callHd st l kb ks C).size ≤ 16777216 := by rw [HCC.out.2]; omega
              have hfp := rowN_fits HF.out HHP.out
              have hfc := rowN_fits HF.out HCC.out
              have HFP := Lib.hid (HF.out.times HHP.out)
              have HFC := Lib.hid (HF.out.times HCC.out)
              have HPO := Lib.hid (fun u : World => show Calls Tryz.prog 40 #[.string (timesS f (callHd st l kb ks C)), .int .i64 bl] u (fun e w' => e = .returned (.int .i64 (plA st l kb ks bl f C : Nat)) ∧ u = w') from impl_placeOf HFC.out hb)
              obtain ⟨p, hpp⟩ : ∃ u, u = plA st l kb ks bl f C := ⟨_, rfl⟩
              rw [← hpp] at HPO
              have HP := Lib.hid hpp
              clear hpp
              go_wp2_with fail
              refine (impl_callHead (c := c) (s := C) hn HHt.out HK.out).mono ?_; rintro e w3 ⟨rfl, hb3⟩
              have HBa := Lib.hid (below_go HBt.out hb3)
              clear hb3 k0 k1 k2 j0 j1 K3 J3 HHt
              go_wp2_with fail
              refine (impl_times hfz hcz hfc).mono ?_; rintro e w4 ⟨rfl, hb4⟩
              have HB4 := Lib.hid (below_go HBa.out hb4)
              clear hb4
              have HTD : Hid (timesS f (callHd st l kb ks C) = timesS f (callHd st l kb ks C)) := Lib.hid rfl
              obtain ⟨F2, hF2⟩ : ∃ u, u = timesS f (callHd st l kb ks C) := ⟨_, rfl⟩
              rw [← hF2] at HPO HFC ⊢
              have HF2 := Lib.hid hF2
              clear hF2 HTD
              go_wp2_with fail
              refine (HPO.out _).mono ?_; rintro e w' ⟨rfl, rfl⟩
              by_cases hqP : (p : Int) = P0
              · have hbe : ((p : Int) == P0) = true := by rw [beq_iff_eq]; exact hqP
                by_cases hS0 : S = 0
                · have hbs : (S == 0) = true := by rw [beq_iff_eq]; exact hS0
                  have HRN := Lib.hid (show RdQ st l kb ks bl s (q + 1) (X ++ C) F2 from by
                    have hfin := HCQ.out _ _ _ C f _ d HQ.out HY.out (fun T k i g => by
                      obtain ⟨a1, a2, a3⟩ := HM.out T k i g
                      obtain ⟨hP, _, hC⟩ := HIV.out T k i g
                      have hq := HP.out
                      rw [a2, hC] at hq
                      have hdk : d = i - k := by
                        rcases Nat.lt_or_ge d (i - k) with z | z
                        · have e1 := g.front z
                          rw [← hq, if_pos (by omega)] at e1
                          omega
                        · omega
                      refine ⟨hdk, hC, ?_⟩
                      rw [a2, hdk, show k + (i - k) = i by have := g.ki; omega]) NPL.out
                    rw [← HF2.out, ← ByteArray.append_assoc, ← HX.out] at hfin
                    exact hfin)
                  clear hqP hS0
                  go_wp2
                  go_roundw
                  case rel => exact ⟨q + 1, X ++ C, F2, by omega, rfl, rfl, by go_num, by omega, HFC, HRN, HB4⟩
                  case measure => simp [intOf]; omega
                · have hbs : (S == 0) = false := by rw [beq_eq_false_iff_ne]; exact hS0
                  have HM2 := Lib.hid (show ∀ T k i, ItW st l kb ks bl y f0 T k i → d + 1 ≤ i - k ∧ timesS f PH = hdAt st l kb ks T (k + (d + 1)) ∧ (S - 1) = (cntA st l kb ks bl T (letter T i) (plI st l kb ks bl T i) (k + (d + 1)) (i - k - (d + 1)) : Nat) from fun T k i g => by
                    obtain ⟨a1, a2, a3⟩ := HM.out T k i g
                    obtain ⟨hP, _, hC⟩ := HIV.out T k i g
                    have hq := HP.out
                    rw [a2, hC] at hq
                    have hlt : d < i - k := by
                      rcases Nat.lt_or_ge d (i - k) with z | z
                      · exact z
                      · have : i - k - d = 0 := by omega
                        rw [this, cntA_zero] at a3
                        exact absurd a3 hS0
                    have e1 := g.front hlt
                    have e2 := g.step hlt
                    rw [← hq] at e1
                    refine ⟨by omega, by rw [a2, HPH.out]; exact e2.symm, ?_⟩
                    rw [if_pos (by omega)] at e1
                    omega)
                  clear hqP
                  go_wp2_with fail
                  refine (impl_times hfz hpz hfp).mono ?_; rintro e w5 ⟨rfl, hb5⟩
                  have HB5 := Lib.hid (below_go HB4.out hb5)
                  clear hb5
                  by_cases h60 : 60 ≤ X.size + 1
                  · have hI60 : (60 : Int) ≤ ((X ++ (⟨#[112]⟩ : ByteArray)).size : Int) := by omega
                    have hI60' : (60 : Int) ≤ (X.size : Int) + ((⟨#[112]⟩ : ByteArray).size : Int) := by omega
                    have hI61 : (60 : Int) ≤ (X.size : Int) + 1 := by omega
                    have HNO := Lib.hid (HNQ.out _ _ _ _ HQ.out HY.out (fun T k i g hx => by
                      have a1 := (HM2.out T k i g).1
                      have a2 := g.lt
                      have a3 := (goodT_t g.good).2.1
                      omega) NPL.out)
                    clear h60
                    go_wp2
                    go_ret
                    exact TouR.mk ⟨#[]⟩ rfl (by decide) (fun T hT hc => (HNO.out T hT hc).elim) (below_go B2 HB5.out)
                  · have hI60 : ¬ (60 : Int) ≤ ((X ++ (⟨#[112]⟩ : ByteArray)).size : Int) := by omega
                    have hI60' : ¬ (60 : Int) ≤ (X.size : Int) + ((⟨#[112]⟩ : ByteArray).size : Int) := by omega
                    have hI61 : ¬ (60 : Int) ≤ (X.size : Int) + 1 := by omega
                    go_wp2
                    go_roundw
                    case rel => exact ⟨d + 1, X ++ ⟨#[112]⟩, _, (S - 1), rfl, rfl, by go_num, Lib.hid (by rw [HX.out, ByteArray.append_assoc, ← pRep_succ]), by omega, Or.inr (by omega), by omega, by omega, HFP, HM2, HB5⟩
                    case measure => simp [tLen, hX1]; omega
              · have hbe : ((p : Int) == P0) = false := by rw [beq_eq_false_iff_ne]; exact hqP
                have HM2 := Lib.hid (show ∀ T k i, ItW st l kb ks bl y f0 T k i → d + 1 ≤ i - k ∧ timesS f PH = hdAt st l kb ks T (k + (d + 1)) ∧ S = (cntA st l kb ks bl T (letter T i) (plI st l kb ks bl T i) (k + (d + 1)) (i - k - (d + 1)) : Nat) from fun T k i g => by
                  obtain ⟨a1, a2, a3⟩ := HM.out T k i g
                  obtain ⟨hP, _, hC⟩ := HIV.out T k i g
                  have hq := HP.out
                  rw [a2, hC] at hq
                  have hlt : d < i - k := by
                    rcases Nat.lt_or_ge d (i - k) with z | z
                    · exact z
                    · exfalso
                      have e : k + d = i := by have := g.ki; omega
                      rw [e] at hq
                      exact hqP (by rw [hP, hq]; rfl)
                  have e1 := g.front hlt
                  have e2 := g.step hlt
                  rw [← hq] at e1
                  refine ⟨by omega, by rw [a2, HPH.out]; exact e2.symm, ?_⟩
                  rw [if_neg (by omega)] at e1
                  omega)
                clear hqP
                go_wp2_with fail
                refine (impl_times hfz hpz hfp).mono ?_; rintro e w5 ⟨rfl, hb5⟩
                have HB5 := Lib.hid (below_go HB4.out hb5)
                clear hb5
                by_cases h60 : 60 ≤ X.size + 1
                · have hI60 : (60 : Int) ≤ ((X ++ (⟨#[112]⟩ : ByteArray)).size : Int) := by omega
                  have hI60' : (60 : Int) ≤ (X.size : Int) + ((⟨#[112]⟩ : ByteArray).size : Int) := by omega
                  have hI61 : (60 : Int) ≤ (X.size : Int) + 1 := by omega
                  have HNO := Lib.hid (HNQ.out _ _ _ _ HQ.out HY.out (fun T k i g hx => by
                    have a1 := (HM2.out T k i g).1
                    have a2 := g.lt
                    have a3 := (goodT_t g.good).2.1
                    omega) NPL.out)
                  clear h60
                  go_wp2
                  go_ret
                  exact TouR.mk ⟨#[]⟩ rfl (by decide) (fun T hT hc => (HNO.out T hT hc).elim) (below_go B2 HB5.out)
                · have hI60 : ¬ (60 : Int) ≤ ((X ++ (⟨#[112]⟩ : ByteArray)).size : Int) := by omega
                  have hI60' : ¬ (60 : Int) ≤ (X.size : Int) + ((⟨#[112]⟩ : ByteArray).size : Int) := by omega
                  have hI61 : ¬ (60 : Int) ≤ (X.size : Int) + 1 := by omega
                  go_wp2
                  go_roundw
                  case rel => exact ⟨d + 1, X ++ ⟨#[112]⟩, _, S, rfl, rfl, rfl, Lib.hid (by rw [HX.out, ByteArray.append_assoc, ← pRep_succ]), by omega, Or.inr (by omega), by omega, by omega, HFP, HM2, HB5⟩
                  case measure => simp [tLen, hX1]; omega
          · -- plain leads
            have hpx : (C.toList == [112]) = true := hp
            have NIT := Lib.hid (fun T k i (g : ItW st l kb ks bl y f0 T k i) => show False from by have := (HIT.out T k i g).2.2.2.2.2; rw [hp] at this; cases this)
            obtain ⟨P, rfl⟩ := Int.eq_ofNat_of_zero_le hnb.1
            have HRN := Lib.hid (HPQ.out x f0 y (pRep P) f0 q HQ.out HY.out (fun T k i g => NIT.out T k i g) (fun T k g => by
              have := (HPL.out T k g).2.1
              rw [show P = T.size - k by omega]))
            have HREP : Hid (∀ u : World, Calls Tryz.prog 59 #[.string { data := #[112] }, .int .i64 (P : Int)] u fun e w' => e = .returned (.string (pRep P)) ∧ Below u.heap.size u w') := Lib.hid (fun u => by
              have := Tryz.strings_Repeat { data := #[112] } P u (by omega) (by show 1 * P ≤ _; omega)
              rwa [show (⟨(Lib.repeatL ({ data := #[112] } : ByteArray).data.toList P).toArray⟩ : ByteArray) = pRep P from rep_p P] at this)
            have hps := pRep_size P
            obtain ⟨Z, hZ⟩ : ∃ u, u = pRep P := ⟨_, rfl⟩
            rw [← hZ] at HREP HRN hps
            have hxZ : (x ++ Z).size = x.size + Z.size := ByteArray.size_append
            have o1 : ¬ 9223372036854775807 < x.size + Z.size := by omega
            clear hp hZ HIT HPL
            go_wp2_with fail
            refine (impl_isCall (s := C)).mono ?_; rw [HCL.out]; rintro e w' ⟨rfl, rfl⟩
            go_wp2_with fail
            refine (HREP.out _).mono ?_; rintro e w4 ⟨rfl, hb4⟩
            have HB4 := Lib.hid (below_go HB3.out hb4)
            go_wp2
            go_roundw
            case rel => exact ⟨q + 1, x ++ Z, f0, by omega, rfl, rfl, by go_num, by omega, HF0, HRN, HB4⟩
            case measure => simp [intOf]; omega
    · obtain rfl : q = N := by omega
      have hIq : ¬ (q : Int) < (q : Int) := by omega
      go_wp2
      go_ret
      exact TouR.mk x rfl (by omega) (fun T hT hc => HE.out _ _ _ HQ.out rfl T hT hc) (below_go B2 HB.out)
end Go.Proofs.YtidolgonmimicaaGreatDoor
/- The walks of CallingText and ReadCalling, the program's side. -/
namespace Go.Proofs.YtidolgonmimicaaGreatDoor
set_option linter.unusedVariables false
set_option linter.unusedSimpArgs false
open Go.ChangeShapes Go.WideShapes Go.ChangeAt Go.RowKit Go.Deep
set_option maxHeartbeats 2000000 in
theorem impl_CallingText {A : Option Addr} {n c st : Nat} {nm : ByteArray} {l : List ByteArray} {kb ks t : ByteArray} {bl : Nat} {w : World} (hn : l.length = n) (h : Strs w A l) (hz : n ≤ 1048576) (hs : ∀ s ∈ l, s.size ≤ 16777216) (hnm : nm.size ≤ 16777216) (h9 : st ≤ 1000) (hkb : kb.size ≤ 16777216) (hks : ks.size ≤ 16777216) (ht : t.size ≤ 16777216) (hb : bl ≤ 100) :
    Calls Tryz.prog 5 #[.agg #[.string nm, .int .i64 st, .slice A n c], .agg #[.string kb, .string ks], .string t, .int .i64 bl] w fun e w' => e = .returned (.tuple #[.string (clV nm st l kb ks bl t), .bool (clOk nm st l kb ks bl t)]) ∧ Below w.heap.size w w' := by
  have b0 : Below w.heap.size w ((w.alloc (.cells ⟨[.string nm, .int .i64 st, .slice A n c]⟩ 25)).alloc (.cells ⟨[.string kb, .string ks]⟩ 27)) := by (repeat' (first | (with_reducible exact Below.refl _ _) | (with_reducible assumption) | (with_reducible refine below_drewN ?_ _) | (with_reducible refine Below.drew ?_) | (with_reducible refine below_alloc ?_ _) | (with_reducible refine Below.alloc ?_ ?_ _) | (with_reducible refine Below.setCell ?_ ?_ _) | (with_reducible refine below_go ?_ (by with_reducible assumption)) | (with_reducible refine below_then (by with_reducible assumption) ?_ ?_) | go_size))
  have K0 := (Blk.at_ w 25 [.string nm, .int .i64 st, .slice A n c] (b := w.heap.size) rfl).alloc (.cells ⟨[.string kb, .string ks]⟩ 27)
  have J0 := Blk.at_ (w.alloc (.cells ⟨[.string nm, .int .i64 st, .slice A n c]⟩ 25)) 27 [.string kb, .string ks] (b := w.heap.size + 1) (by simp)
  have HQ : Hid (clOk nm st l kb ks bl t = ((goodK nm (st : Int) l kb ks && inB (bl : Int) 1 (st : Int)) && goodT t)) := Lib.hid rfl
  have HG : Hid (goodF nm st l kb ks t = (goodK nm (st : Int) l kb ks && goodT t)) := Lib.hid rfl
  have HT := Lib.hid (@clV_t nm st l kb ks bl t)
  have HF := Lib.hid (@clV_f nm st l kb ks bl t)
  have hI : I64 (st : Int) := ⟨by omega, by omega⟩
  have H0 := h.up b0
  go_in
  go_wp2_with fail
  refine (impl_goodFor (nm := nm) (st := (st : Int)) hn H0 hz hs hnm hI hkb hks ht).mono ?_; rintro e w1 ⟨rfl, hb1⟩
  have K1 := K0.up hb1
  have J1 := J0.up hb1
  have H1 := H0.up hb1
  have B1 := below_go b0 hb1
  clear K0 J0 H0 h b0 hb1
  have k0 := K1.cell 0; have k1 := K1.cell 1; have k2 := K1.cell 2; have j0 := J1.cell 0; have j1 := J1.cell 1
  simp only [List.getElem?_cons_zero, List.getElem?_cons_succ] at k0 k1 k2 j0 j1
  rcases hg : goodF nm st l kb ks t
  · have e1 := Lib.hid (show clOk nm st l kb ks bl t = false by
      rw [HQ.out]
      rw [HG.out] at hg
      rcases h1 : goodK nm (st : Int) l kb ks
      · rfl
      · rw [h1, Bool.true_and] at hg
        rw [hg, Bool.and_false])
    go_wp2
    go_ret2
    rw [HF.out e1.out, e1.out]
    exact ⟨rfl, B1⟩
  · have hgg := hg
    rw [HG.out, Bool.and_eq_true] at hgg
    have HK := Lib.hid hgg.1
    have HTT := Lib.hid hgg.2
    clear hgg hg
    go_wp2_with fail
    refine (impl_isBell (st : Int) (bl : Int) _).mono ?_; rintro e w' ⟨rfl, rfl⟩
    rcases hq : inB (bl : Int) 1 (st : Int)
    · have e1 := Lib.hid (show clOk nm st l kb ks bl t = false by rw [HQ.out, hq, Bool.and_false, Bool.false_and])
      go_wp2
      go_ret2
      rw [HF.out e1.out, e1.out]
      exact ⟨rfl, B1⟩
    · have e1 := Lib.hid (show clOk nm st l kb ks bl t = true by rw [HQ.out, hq, HK.out, HTT.out]; rfl)
      go_wp2_with fail
      refine (impl_callingText (t := t) (bl := bl) hn H1 HK.out HTT.out hb).mono ?_; rintro e w2 ⟨rfl, hb2⟩
      go_wp2
      go_ret2
      rw [HT.out e1.out, e1.out]
      exact ⟨rfl, below_go B1 hb2⟩
set_option maxHeartbeats 4000000 in
theorem impl_ReadCalling {A : Option Addr} {n c st : Nat} {nm : ByteArray} {l : List ByteArray} {kb ks s : ByteArray} {bl : Nat} {m : Int} {w : World} (hn : l.length = n) (h : Strs w A l) (hz : n ≤ 1048576) (hs : ∀ s ∈ l, s.size ≤ 16777216) (hnm : nm.size ≤ 16777216) (h9 : st ≤ 1000) (hkb : kb.size ≤ 16777216) (hks : ks.size ≤ 16777216) (hsz : s.size ≤ 16777216) (hb : bl ≤ 100) (hm : w.cell? ⟨0, 0, none⟩ = some (.int .i64 m)) (hmw : 0 < w.heap.size) :
    Calls Tryz.prog 8 #[.agg #[.string nm, .int .i64 st, .slice A n c], .agg #[.string kb, .string ks], .string s, .int .i64 bl] w fun e w' => ReadR (askB nm st l kb ks bl) st l kb ks bl s w e w' := by
  have b0 : Below w.heap.size w ((w.alloc (.cells ⟨[.string nm, .int .i64 st, .slice A n c]⟩ 25)).alloc (.cells ⟨[.string kb, .string ks]⟩ 27)) := by (repeat' (first | (with_reducible exact Below.refl _ _) | (with_reducible assumption) | (with_reducible refine below_drewN ?_ _) | (with_reducible refine Below.drew ?_) | (with_reducible refine below_alloc ?_ _) | (with_reducible refine Below.alloc ?_ ?_ _) | (with_reducible refine Below.setCell ?_ ?_ _) | (with_reducible refine below_go ?_ (by with_reducible assumption)) | (with_reducible refine below_then (by with_reducible assumption) ?_ ?_) | go_size))
  have K0 := (Blk.at_ w 25 [.string nm, .int .i64 st, .slice A n c] (b := w.heap.size) rfl).alloc (.cells ⟨[.string kb, .string ks]⟩ 27)
  have J0 := Blk.at_ (w.alloc (.cells ⟨[.string nm, .int .i64 st, .slice A n c]⟩ 25)) 27 [.string kb, .string ks] (b := w.heap.size + 1) (by simp)
  have H0 := h.up b0
  have HM := Lib.hid (fun (u : World) (hu : Below w.heap.size w u) => (hu.cell (p := ⟨0, 0, none⟩) hmw).trans hm)
  have hI : I64 (st : Int) := ⟨by omega, by omega⟩
  have HQ : Hid (askB nm st l kb ks bl = (goodK nm (st : Int) l kb ks && inB (bl : Int) 1 (st : Int))) := Lib.hid rfl
  obtain ⟨gd, hgd⟩ : ∃ u, u = askB nm st l kb ks bl := ⟨_, rfl⟩
  rw [← hgd] at HQ ⊢
  clear hgd
  go_in
  go_wp2_with fail
  refine (impl_GoodCalls (nm := nm) (st := (st : Int)) hn H0 hz hs hnm hI hkb hks).mono ?_; rintro e w1 ⟨rfl, hb1⟩
  have K1 := K0.up hb1
  have J1 := J0.up hb1
  have HH1 := Lib.hid (H0.up hb1)
  have B1 := below_go b0 hb1
  have hcell := HM.out _ B1
  have hmw1 : 0 < w1.heap.size := Nat.lt_of_lt_of_le hmw B1.size
  clear K0 J0 H0 h b0 hb1
  have k0 := K1.cell 0; have k1 := K1.cell 1; have k2 := K1.cell 2; have j0 := J1.cell 0; have j1 := J1.cell 1
  simp only [List.getElem?_cons_zero, List.getElem?_cons_succ] at k0 k1 k2 j0 j1
  rcases hk : goodK nm (st : Int) l kb ks
  · have HN := Lib.hid (show gd = false by rw [HQ.out, hk]; rfl)
    go_wp2
    go_ret2
    exact ReadR.mk ⟨#[]⟩ false rfl (RdP.no (fun q => by rw [HN.out] at q; cases q.1)) B1
  · have HK := Lib.hid hk
    go_wp2_with fail
    refine (impl_isBell (st : Int) (bl : Int) _).mono ?_; rintro e w' ⟨rfl, rfl⟩
    rcases hq : inB (bl : Int) 1 (st : Int)
    · have HN := Lib.hid (show gd = false by rw [HQ.out, hk, hq]; rfl)
      go_wp2
      go_ret2
      exact ReadR.mk ⟨#[]⟩ false rfl (RdP.no (fun q => by rw [HN.out] at q; cases q.1)) B1
    · have HY := Lib.hid (show gd = true by rw [HQ.out, hk, hq]; rfl)
      clear hk
      by_cases hs2 : s.size ≤ 200
      · have hI2 : ¬ (200 : Int) < (s.size : Int) := by omega
        go_wp2_with fail
        refine (impl_callingTouch (s := s) (bl := bl) (m := m) hn HH1.out HK.out hs2 hb hcell hmw1).mono ?_; intro e w2 hw
        obtain ⟨x, rfl, hx, hE, hb2⟩ := hw
        have HE := Lib.hid hE
        have K2 := K1.up hb2
        have J2 := J1.up hb2
        have HH2 := Lib.hid (HH1.out.up hb2)
        have B2 := below_go B1 hb2
        clear hb2 hE k0 k1 k2 j0 j1 K1 J1 HH1 hcell hmw1
        have k0 := K2.cell 0; have k1 := K2.cell 1; have k2 := K2.cell 2; have j0 := J2.cell 0; have j1 := J2.cell 1
        simp only [List.getElem?_cons_zero, List.getElem?_cons_succ] at k0 k1 k2 j0 j1
        go_wp2_with fail
        refine (impl_GoodTouch (t := x) (by omega)).mono ?_; rintro e w' ⟨rfl, rfl⟩
        rcases hgx : goodT x
        · have HNO := Lib.hid (show RdP gd st l kb ks bl s ⟨#[]⟩ false from RdP.no (fun qq => by
            obtain ⟨_, _, T, hT, hc⟩ := qq
            have := HE.out T hT hc
            rw [this, hgx] at hT; cases hT))
          go_wp2
          go_ret2
          exact ReadR.mk ⟨#[]⟩ false rfl HNO.out B2
        · have HGX := Lib.hid hgx
          clear hgx
          go_wp2_with fail
          refine (impl_callingText (t := x) (bl := bl) hn HH2.out HK.out HGX.out hb).mono ?_; rintro e w4 ⟨rfl, hb4⟩
          obtain ⟨V, hV⟩ : ∃ u, u = calS st l kb ks bl x := ⟨_, rfl⟩
          rw [← hV]
          have HV := Lib.hid hV
          clear hV
          by_cases hVs : V = s
          · have HYES := Lib.hid (show RdP gd st l kb ks bl s x true from ⟨fun _ => ⟨HY.out, hs2, HGX.out, by rw [← HV.out, hVs], fun T hT hc => HE.out T hT hc⟩, fun e => by cases e⟩)
            have hbe : (V.toList == s.toList) = true := by rw [hVs]; simp
            have hbl : V.toList = s.toList := by rw [hVs]
            clear hVs
            go_wp2
            go_ret2
            exact ReadR.mk x true rfl HYES.out (below_go B2 hb4)
          · have HNO := Lib.hid (show RdP gd st l kb ks bl s ⟨#[]⟩ false from RdP.no (fun qq => by
              obtain ⟨_, _, T, hT, hc⟩ := qq
              have e := HE.out T hT hc
              rw [e, ← HV.out] at hc
              exact hVs hc))
            have hbe := bytes_neW hVs
            have hbl : ¬ V.toList = s.toList := by rwa [beq_eq_false_iff_ne] at hbe
            clear hVs
            go_wp2
            go_ret2
            exact ReadR.mk ⟨#[]⟩ false rfl HNO.out (below_go B2 hb4)
      · have hI2 : (200 : Int) < (s.size : Int) := by omega
        go_wp2
        go_ret2
        exact ReadR.mk ⟨#[]⟩ false rfl (RdP.no (fun q => hs2 q.2.1)) B1
end Go.Proofs.YtidolgonmimicaaGreatDoor
/- The walks through the generator's cursor. -/
namespace Go.Proofs.YtidolgonmimicaaGreatDoor
set_option linter.unusedVariables false
set_option linter.unusedSimpArgs false
open Go.ChangeShapes Go.WideShapes Go.ChangeAt Go.RowKit Go.Deep
/-- Block p is a cursor over n bytes with address A, at most a steps on. -/
def Cur (w : World) (p : Nat) (A : Option Addr) (n c a : Nat) : Prop := ∃ (k : Nat) (s : Int), Blk w p 36 [.slice A n c, .int .i64 k, .int .u64 s] ∧ k ≤ a ∧ 0 ≤ s ∧ s ≤ 18446744073709551615
/-- The bytes that a cursor reads, as they stood in world w0. -/
def Src (w0 : World) (A : Option Addr) (n : Nat) : Prop := ∃ l : List Int, l.length = n ∧ n ≤ 9223372036854775807 ∧ (∀ x ∈ l, 0 ≤ x ∧ x ≤ 255) ∧ Recs byteE 1 w0 A l
theorem Cur.mono {w : World} {p : Nat} {A : Option Addr} {n c a b : Nat} (h : Cur w p A n c a) (hb : a ≤ b) : Cur w p A n c b := by
  obtain ⟨k, s, h1, h2, h3⟩ := h
  exact ⟨k, s, h1, by omega, h3⟩
theorem Cur.lt {w : World} {p : Nat} {A : Option Addr} {n c a : Nat} (h : Cur w p A n c a) : p < w.heap.size := by
  obtain ⟨k, s, h1, _⟩ := h
  exact h1.lt
theorem Cur.grown {w w' : World} {p : Nat} {A : Option Addr} {n c a : Nat} {row : Option Nat} (h : Cur w p A n c a) (hg : w.grownBy w' row) (hne : some p ≠ row) : Cur w' p A n c a := by
  obtain ⟨k, s, h1, h2⟩ := h
  exact ⟨k, s, h1.grown hg hne, h2⟩
theorem Cur.up {w w' : World} {p : Nat} {A : Option Addr} {n c a : Nat} (h : Cur w p A n c a) (hb : Below w.heap.size w w') : Cur w' p A n c a := h.grown (grown_of_below hb) (by simp)
theorem Recs.at_byte {w : World} {A : Option Addr} {l : List Int} {k : Nat} (h : Recs byteE 1 w A l) (hk : k < l.length) : ∃ b off x, A = some ⟨b, off, none⟩ ∧ b < w.heap.size ∧ l[k]? = some x ∧ w.cell? ⟨b, off + k, none⟩ = some (.int .u8 x) := by
  obtain ⟨b, off, hA, hb, hc⟩ := h.cells (by omega)
  obtain ⟨x, hx⟩ := some_of_lt hk
  exact ⟨b, off, x, hA, hb, hx, by simpa using hc k x 0 _ hx rfl⟩
theorem u64_bd (x : Int) : 0 ≤ IntKind.u64.wrap x ∧ IntKind.u64.wrap x ≤ 18446744073709551615 := by rw [IntKind.wrap_u64]; omega
theorem and255 {x : Int} (h0 : 0 ≤ x) (h1 : x ≤ 18446744073709551615) : 0 ≤ bits .and .u64 x 255 ∧ bits .and .u64 x 255 ≤ 255 := by
  obtain ⟨n, rfl⟩ := Int.eq_ofNat_of_zero_le h0
  have e : bits .and .u64 (n : Int) ((255 : Nat) : Int) = ((n &&& 255 : Nat) : Int) := bits_and_u64_nat n 255 (by omega) (by omega)
  have h := Nat.and_le_right (n := n) (m := 255)
  rw [show ((255 : Int)) = ((255 : Nat) : Int) from rfl, e]
  omega
set_option maxRecDepth 100000 in
theorem cur_next {A : Option Addr} {n c a p : Nat} {w0 w : World} (hS : Src w0 A n) (hb : Below w0.heap.size w0 w) (hp : w0.heap.size ≤ p) (hc : Cur w p A n c a) (ha : a ≤ 16777216) :
    Calls Tryz.prog 38 #[.pointer (some ⟨p, 0, none⟩)] w fun e w' => ∃ x : Int, e = .returned (.int .i64 x) ∧ 0 ≤ x ∧ x ≤ 255 ∧ Cur w' p A n c (a + 1) ∧ w.grownBy w' (some p) := by
  obtain ⟨l, rfl, hn, hlb, hR⟩ := hS
  obtain ⟨k, s, K, hk, s0, s1⟩ := hc
  have k0 := K.cell 0; have k1 := K.cell 1; have k2 := K.cell 2
  have f1 := K.frozen 1; have f2 := K.frozen 2
  simp only [List.getElem?_cons_zero, List.getElem?_cons_succ] at k0 k1 k2
  have HK := Lib.hid K
  clear K
  by_cases hlt : k < l.length
  · have hI : (k : Int) < (l.length : Int) := by omega
    have hJ : (k : Int) + 1 ≤ (l.length : Int) := by omega
    obtain ⟨b, o, x, rfl, _, hx, hcx⟩ := (hR.below hb (Nat.le_refl _)).at_byte hlt
    have hxb := hlb x (List.mem_of_getElem? hx)
    have gx : IntKind.i64.wrap x = x := wrap_id (by omega)
    clear hx hR hlb
    go_in
    go_wp2
    go_quiet (fail)
    go_wp2
    go_quiet (fail)
    go_wp2
    go_quiet (fail)
    go_wp2
    go_ret
    refine ⟨_, rfl, hxb.1, hxb.2, ⟨k + 1, _, ((HK.out.drewN _).set_ 1 _).set_ 2 _, by omega, (u64_bd _).1, (u64_bd _).2⟩, ?_⟩
    exact grownBy_trans (grownBy_trans (grown_any (below_drewN (Below.refl _ _) _) _) (only_set _ (p := ⟨p, 1, none⟩) _)) (grownBy_trans (only_set _ (p := ⟨p, 2, none⟩) _) (grown_any (below_drewN (Below.refl _ _) _) _))
  · have hI : ¬ (k : Int) < (l.length : Int) := by omega
    have hJ : ¬ (k : Int) + 1 ≤ (l.length : Int) := by omega
    clear hR hlb
    go_in
    go_wp2
    go_quiet (fail)
    go_wp2
    go_quiet (fail)
    go_wp2
    obtain ⟨T, hT⟩ : ∃ T, T = IntKind.u64.wrap (IntKind.u64.wrap (IntKind.u64.wrap (s * 6364136223846793005)) + 1442695040888963407) := ⟨_, rfl⟩
    have hTb : 0 ≤ T ∧ T ≤ 18446744073709551615 := by rw [hT]; exact u64_bd _
    rw [← hT]
    clear hT
    have hA := and255 (x := T / 1099511627776) (by omega) (by omega)
    obtain ⟨v, hv⟩ : ∃ v, v = bits BinOp.and IntKind.u64 (T / 1099511627776) 255 := ⟨_, rfl⟩
    rw [← hv] at hA ⊢
    clear hv
    have hwv : wrap64 v = v := by unfold wrap64; omega
    rw [hwv]
    clear hwv
    go_ret
    refine ⟨_, rfl, hA.1, hA.2, ⟨k + 1, _, ((HK.out.drewN _).set_ 1 _).set_ 2 _, by omega, hTb.1, hTb.2⟩, ?_⟩
    exact grownBy_trans (grownBy_trans (grown_any (below_drewN (Below.refl _ _) _) _) (only_set _ (p := ⟨p, 1, none⟩) _)) (grownBy_trans (only_set _ (p := ⟨p, 2, none⟩) _) (grown_any (below_drewN (Below.refl _ _) _) _))
theorem grown_below {w0 w w' : World} {p : Nat} (hb : Below w0.heap.size w0 w) (hp : w0.heap.size ≤ p) (hg : w.grownBy w' (some p)) : Below w0.heap.size w0 w' := hb.grown hg hb.size fun k hk => by injection hk with hk; omega
/-- A number below n, or 0. -/
def upTo (n x : Int) : Prop := 0 ≤ x ∧ (x < n ∨ x = 0)
set_option maxRecDepth 100000 in
theorem cur_pick {A : Option Addr} {n c a p : Nat} {N : Int} {w0 w : World} (hS : Src w0 A n) (hb : Below w0.heap.size w0 w) (hp : w0.heap.size ≤ p) (hc : Cur w p A n c a) (ha : a ≤ 16777216) (hN : N ≤ 200) (hN0 : -1000 ≤ N) :
    Calls Tryz.prog 13 #[.pointer (some ⟨p, 0, none⟩), .int .i64 N] w fun e w' => ∃ x : Int, e = .returned (.int .i64 x) ∧ upTo N x ∧ Cur w' p A n c (a + 1) ∧ w.grownBy w' (some p) := by
  by_cases h1 : N ≤ 1
  · go_in
    go_wp2
    go_ret
    exact ⟨0, rfl, ⟨Int.le_refl _, .inr rfl⟩, hc.mono (by omega), grown_any (Below.refl _ _) _⟩
  · go_in
    go_wp2_with fail
    refine (cur_next hS hb hp hc ha).mono ?_; rintro e w1 ⟨x, rfl, x0, x1, hc1, hg1⟩
    have hm : x.tmod N = x % N := Int.tmod_eq_emod_of_nonneg x0
    have m0 := Int.emod_nonneg x (show N ≠ 0 by omega)
    have m1 := Int.emod_lt_of_pos x (show 0 < N by omega)
    have hN1 : ¬ N = 0 := by omega
    go_wp2
    go_ret
    exact ⟨_, rfl, ⟨by omega, .inl (by omega)⟩, hc1, hg1⟩
theorem cur_one {A : Option Addr} {n c a p : Nat} {N : Int} {w0 w : World} (hS : Src w0 A n) (hb : Below w0.heap.size w0 w) (hp : w0.heap.size ≤ p) (hc : Cur w p A n c a) (ha : a ≤ 16777216) (hN : N ≤ 200) (hN0 : -1000 ≤ N) :
    Calls Tryz.prog 23 #[.pointer (some ⟨p, 0, none⟩), .int .i64 N] w fun e w' => ∃ b : Bool, e = .returned (.bool b) ∧ Cur w' p A n c (a + 1) ∧ w.grownBy w' (some p) := by
  go_in
  go_wp2_with fail
  refine (cur_pick hS hb hp hc ha hN hN0).mono ?_; rintro e w1 ⟨x, rfl, _, hc1, hg1⟩
  go_wp2
  go_ret
  exact ⟨_, rfl, hc1, hg1⟩
theorem lit_ints (w : World) (t : TypeId) (l : List Int) : Ints (w.alloc (.cells ⟨l.map fun x => Value.int .i64 x⟩ t)) (some ⟨w.heap.size, 0, none⟩) l := by
  refine ⟨intE_len, by rw [flatMap_len intE_len], fun hn => ⟨w.heap.size, 0, rfl, by simp, fun j u hu => ?_⟩⟩
  have h := Box.new w (l.map fun x => Value.int .i64 x) t
  rw [Nat.zero_add]
  refine h j u ?_
  rw [← hu]
  congr 1
  exact (flatMap_one (fun x => Value.int .i64 x) l).symm
theorem cur_among {A B : Option Addr} {n c a p m d : Nat} {l : List Int} {w0 w : World} (hS : Src w0 A n) (hb : Below w0.heap.size w0 w) (hp : w0.heap.size ≤ p) (hc : Cur w p A n c a) (ha : a ≤ 16777216) (hm : l.length = m) (hl : Ints w B l) (hm0 : 0 < m) (hm1 : m ≤ 200) (hne : ∀ b o, B = some ⟨b, o, none⟩ → b ≠ p) :
    Calls Tryz.prog 34 #[.pointer (some ⟨p, 0, none⟩), .slice B m d] w fun e w' => ∃ x ∈ l, e = .returned (.int .i64 x) ∧ Cur w' p A n c (a + 1) ∧ w.grownBy w' (some p) := by
  subst hm
  go_in
  go_wp2_with fail
  refine (cur_pick hS hb hp hc ha (by omega) (by omega)).mono ?_; rintro e w1 ⟨x, rfl, ⟨x0, x1⟩, hc1, hg1⟩
  obtain ⟨k, rfl⟩ := Int.eq_ofNat_of_zero_le x0
  have hk : k < l.length := by omega
  obtain ⟨b, o, y, rfl, hbb, hy, hcy⟩ := hl.at_int hk
  have hcz : w1.cell? ⟨b, o + k, none⟩ = some (.int .i64 y) := (hg1.cell_far ⟨b, o + k, none⟩ hbb (fun e => hne b o rfl (by injection e))).trans hcy
  have HY := Lib.hid hy
  clear hy hl hcy x1
  go_wp2
  go_ret
  exact ⟨y, List.mem_of_getElem? HY.out, rfl, hc1, hg1⟩
end Go.Proofs.YtidolgonmimicaaGreatDoor
/- The walk through the generator of times. -/
namespace Go.Proofs.YtidolgonmimicaaGreatDoor
set_option linter.unusedVariables false
set_option linter.unusedSimpArgs false
open Go.ChangeShapes Go.WideShapes Go.ChangeAt Go.RowKit Go.Deep
theorem wpList_append_rec2 {P : Program} {α : Type} {e : α → List Value} {s bytes : Nat} {t E : TypeId} {z : Value} (he : ElemOk P t E z s bytes) {ops : Array Oper} {rest : List Oper} {o : Oper} {a : Act} {Q : Exit → Act → World → Prop} {W : World}
    (hgd : o.guard = none) (S X : Operand) (ho : o.op = .call { callee := .builtin .append, args := #[S, X], argTypes := #[t, t] })
    {base : Nat} {A : Option Addr} {n c : Nat} {l : List α} (hs : a.eval S = .slice A n c) (hown : Owned e s E W base A n c l) (x : α) {b cx : Nat} (hx : a.eval X = .slice (some ⟨b, 0, none⟩) 1 cx)
    (hnew : Box W b (e x)) (h1 : ∀ u ∈ e x, u.oneCell' = true) (hn : n ≤ 16777216) (hby : bytes ≤ 4096) (hbase : base ≤ W.heap.size)
    (h : ∀ A' c' w', Owned e s E w' base A' (n + 1) c' (l ++ [x]) → W.grownBy w' (Value.slice A n c).ownBlock → (∀ k, (Value.slice A' (n + 1) c').ownBlock = some k → (Value.slice A n c).ownBlock = some k ∨ W.heap.size ≤ k) → wpList P ops Q rest (a.put o.dst (.slice A' (n + 1) c')) w') :
    wpList P ops Q (o :: rest) a W := by
  obtain ⟨i0, hi, hz0, hz1, hz2⟩ := info_parts he.info
  refine wpList_append_lies W hgd S X t ho base E i0 z s bytes he.under hi hz0 hz1 hz2 he.zs he.pos _ n _ hs hown.2.2 ⟨b, 0, none⟩ 1 cx (e x) hx (by rw [hown.1]; omega)
    (fun j u hu => by rw [Go.WideShapes.add_plain, Nat.zero_add]; exact hnew j u hu) h1 (by omega) (by unfold maxLen; omega) ?_ hbase W.heap.size rfl ?_
  · exact Nat.le_trans (Nat.mul_le_mul (show n + 1 ≤ 16777217 by omega) hby) (by decide)
  · intro g cap w' hown' hg hl _
    have ho' : Owned e s E w' base (some ⟨g, 0, none⟩) (n + 1) cap (l ++ [x]) := ⟨hown.1, by simp [hown.2.1], by simpa using hown'⟩
    refine h _ _ w' ho' hg fun k hk => ?_
    injection hk with hk
    dsimp only at hk
    subst hk
    rcases hl with hl | hl
    · exact .inl hl
    · exact .inr (by omega)
theorem grow_own {w u v : World} {r row : Option Nat} (h : w.grownBy u r) (hg : u.grownBy v row) (hrow : ∀ k, row = some k → w.heap.size ≤ k) : w.grownBy v r :=
  ⟨hg.os.trans h.os, hg.tape.trans h.tape, hg.output.trans h.output, Nat.le_trans h.size hg.size, fun i hi hne => (hg.block i (Nat.lt_of_lt_of_le hi h.size) (fun e => by have := hrow i e.symm; omega)).trans (h.block i hi hne)⟩
/-- Two lists that are being made, in blocks of their own; but for block p nothing that stood before has turned. -/
structure TL (w wr : World) (p : Nat) (A1 : Option Addr) (n1 c1 : Nat) (l1 : List Int) (A2 : Option Addr) (n2 c2 : Nat) (l2 : List Int) : Prop where
  own1 : Owned intE 1 3 wr w.heap.size A1 n1 c1 l1
  own2 : Owned intE 1 3 wr w.heap.size A2 n2 c2 l2
  two : ∀ k, (Value.slice A1 n1 c1).ownBlock = some k → (Value.slice A2 n2 c2).ownBlock ≠ some k
  gr : w.grownBy wr (some p)
section
variable {w wr wv : World} {p : Nat} {A1 A2 A' : Option Addr} {n1 c1 n2 c2 c' : Nat} {l1 l2 : List Int} {x : Int}
theorem TL.grown (h : TL w wr p A1 n1 c1 l1 A2 n2 c2 l2) (hp : p < w.heap.size) (hg : wr.grownBy wv (some p)) : TL w wv p A1 n1 c1 l1 A2 n2 c2 l2 :=
  ⟨h.own1.kept hg (fun k hk e => by have := (h.own1.blk hk).1; injection e with e; omega), h.own2.kept hg (fun k hk e => by have := (h.own2.blk hk).1; injection e with e; omega), h.two, grownBy_trans h.gr hg⟩
theorem TL.alloc (h : TL w wr p A1 n1 c1 l1 A2 n2 c2 l2) (o : Obj) : TL w (wr.alloc o) p A1 n1 c1 l1 A2 n2 c2 l2 :=
  ⟨h.own1.alloc o, h.own2.alloc o, h.two, grownBy_trans h.gr (World.grownBy_alloc _ _ _)⟩
theorem TL.app1 (h : TL w wr p A1 n1 c1 l1 A2 n2 c2 l2) (ho : Owned intE 1 3 wv w.heap.size A' (n1 + 1) c' (l1 ++ [x])) (hg : wr.grownBy wv (Value.slice A1 n1 c1).ownBlock)
    (hl : ∀ k, (Value.slice A' (n1 + 1) c').ownBlock = some k → (Value.slice A1 n1 c1).ownBlock = some k ∨ wr.heap.size ≤ k) : TL w wv p A' (n1 + 1) c' (l1 ++ [x]) A2 n2 c2 l2 :=
  ⟨ho, h.own2.kept hg (fun k hk e => h.two k e hk), fun k hk hk2 => by
    rcases hl k hk with h1 | h1
    · exact h.two k h1 hk2
    · have := (h.own2.blk hk2).2; omega, grow_own h.gr hg (fun k e => (h.own1.blk e).1)⟩
theorem TL.app2 (h : TL w wr p A1 n1 c1 l1 A2 n2 c2 l2) (ho : Owned intE 1 3 wv w.heap.size A' (n2 + 1) c' (l2 ++ [x])) (hg : wr.grownBy wv (Value.slice A2 n2 c2).ownBlock)
    (hl : ∀ k, (Value.slice A' (n2 + 1) c').ownBlock = some k → (Value.slice A2 n2 c2).ownBlock = some k ∨ wr.heap.size ≤ k) : TL w wv p A1 n1 c1 l1 A' (n2 + 1) c' (l2 ++ [x]) :=
  ⟨h.own1.kept hg (fun k hk e => h.two k hk e), ho, fun k hk hk2 => by
    rcases hl k hk2 with h1 | h1
    · exact h.two k hk h1
    · have := (h.own1.blk hk).2; omega, grow_own h.gr hg (fun k e => (h.own2.blk e).1)⟩
end
theorem Cur.app {wr wv : World} {p : Nat} {A B : Option Addr} {n c a m d base : Nat} {l : List Int} (h : Cur wr p A n c a) (ho : Owned intE 1 3 wr base B m d l) (hp : p < base) (hg : wr.grownBy wv (Value.slice B m d).ownBlock) : Cur wv p A n c a :=
  h.grown hg (fun e => by have := (ho.blk e.symm).1; omega)
end Go.Proofs.YtidolgonmimicaaGreatDoor
/- The walk through the list of all changes, the reference's side. -/
namespace Go.Proofs.YtidolgonmimicaaGreatDoor
set_option linter.unusedVariables false
set_option linter.unusedSimpArgs false
open Go.ChangeShapes Go.WideShapes Go.ChangeAt Go.RowKit Go.Deep
theorem ins_at {α : Type} {M : List α} {y : α} {q : Nat} (h : q ≤ M.length) : (M.take q ++ y :: M.drop q)[q]? = some y := by
  rw [List.getElem?_append_right (by rw [List.length_take]; omega), List.length_take, Nat.min_eq_left h, Nat.sub_self, List.getElem?_cons_zero]
theorem ins_before {α : Type} {M : List α} {y : α} {q : Nat} (h : q < M.length) : (M.take (q + 1) ++ y :: M.drop (q + 1))[q]? = M[q]? := by
  rw [List.getElem?_append_left (by rw [List.length_take]; omega), List.getElem?_take, if_pos (by omega)]
theorem ins_set {α : Type} {M : List α} {y z : α} {q : Nat} (h : q ≤ M.length) : (M.take q ++ y :: M.drop q).set q z = M.take q ++ z :: M.drop q := by
  rw [List.set_append_right _ _ (by rw [List.length_take]; omega), List.length_take, Nat.min_eq_left h, Nat.sub_self, List.set_cons_zero]
theorem ins_down {α : Type} {M : List α} {y z : α} {q : Nat} (hz : M[q]? = some z) : (M.take (q + 1) ++ y :: M.drop (q + 1)).set (q + 1) z = M.take q ++ z :: M.drop q := by
  have h := (List.getElem?_eq_some_iff.1 hz).1
  rw [ins_set (by omega), take_succ_some hz, List.append_assoc]
  congr 1
  rw [List.drop_eq_getElem_cons h, (List.getElem?_eq_some_iff.1 hz).2]; rfl
theorem ins_len {α : Type} {M : List α} {y : α} {q : Nat} (h : q ≤ M.length) : (M.take q ++ y :: M.drop q).length = M.length + 1 := by
  rw [List.length_append, List.length_cons, List.length_take, List.length_drop]; omega
theorem ins_perm {α : Type} {M : List α} {y : α} {q : Nat} : (M.take q ++ y :: M.drop q).Perm (M ++ [y]) := by
  refine (List.perm_middle).trans ?_
  rw [List.take_append_drop]
  exact (List.perm_append_singleton y M).symm
theorem filt_hit {f : ByteArray → Bool} {g : List Int → ByteArray} {T : List (List Int)} {j : Nat} {r : List Int} (hr : T[j]? = some r) (h : f (g r) = true) : ((T.take (j + 1)).map g).filter f = ((T.take j).map g).filter f ++ [g r] := by
  rw [take_succ_some hr, List.map_append, List.filter_append]
  simp [h]
theorem filt_miss {f : ByteArray → Bool} {g : List Int → ByteArray} {T : List (List Int)} {j : Nat} {r : List Int} (hr : T[j]? = some r) (h : f (g r) = false) : ((T.take (j + 1)).map g).filter f = ((T.take j).map g).filter f := by
  rw [take_succ_some hr, List.map_append, List.filter_append]
  simp [h]
set_option maxHeartbeats 2000000 in
set_option maxRecDepth 100000 in
theorem spec_l2All {n : Nat} {w : World} (hn : n ≤ 8) :
    Calls Tryz.prog 64 #[.int .i64 n] w fun e w' => ∃ A c L, e = .returned (.slice A L.length c) ∧ Owned strE 1 9 w' w.heap.size A L.length c L ∧ L.Perm (chsRaw n) ∧ Below w.heap.size w w' := by
  have hlen := fromK_le (k := n) hn 1
  have HR := Lib.hid (fromK_row n 1)
  have HC : Hid (chsRaw n = ((fromK 1 n).map ofPl).filter fun c => goodChange n c) := Lib.hid rfl
  go_in
  go_wp2_with fail
  refine (spec_l2From n n 1 w hn hn (by omega) (Nat.le_refl _)).mono ?_; rintro e w1 ⟨vs, A1, c1, rfl, L1, hb1⟩
  obtain ⟨T, hT⟩ : ∃ T, T = fromK 1 n := ⟨_, rfl⟩
  rw [← hT] at hlen HR HC L1 ⊢
  clear hT
  go_wp2
  go_loopw [3, 11] (fun v i wr => ∃ (j : Nat) (M : List ByteArray) (A' : Option Addr) (c' : Nat), j ≤ T.length ∧ i = .int .i64 j ∧ v = .slice A' M.length c' ∧ M.length ≤ j ∧ Hid (M.Perm (((T.take j).map ofPl).filter fun c => goodChange n c)) ∧ Hid (Owned strE 1 9 wr w1.heap.size A' M.length c' M) ∧ Below w1.heap.size w1 wr) (fun _ i _ => T.length - (intOf i).toNat)
  case atStart => exact ⟨0, [], none, 0, Nat.zero_le _, rfl, rfl, Nat.le_refl _, Lib.hid (by simp), Lib.hid (Owned.nil strE_len _ _ _), Below.refl _ _⟩
  case round =>
    obtain ⟨j, M, A', c', hj, rfl, rfl, hm, HP, HO, hb⟩ := hrel
    rename World => wo
    by_cases hlt : j < T.length
    · obtain ⟨b3, o3, v, r, rfl, hbb, hr, hv, hc, ho⟩ := (L1.up hb).at_ hlt
      have hrr := HR.out r (List.mem_of_getElem? hr)
      have hrb : ∀ x ∈ r, 0 ≤ x ∧ x ≤ 9 := fun x hx => by have := hrr.2 x hx; omega
      have hrl : r.length ≤ 8 := by omega
      have hsz := hb.size
      have hos := ofPl_size hrl
      have HRr := Lib.hid hr
      clear hr hv hrr
      go_wp2_with fail
      refine (spec_l2Of rfl ho.recs hrl hrb).mono ?_; rintro e w2 ⟨rfl, hb2⟩
      obtain ⟨s, hs⟩ : ∃ s, s = ofPl r := ⟨_, rfl⟩
      rw [← hs] at hos ⊢
      have HS := Lib.hid hs
      clear hs ho hc hrb
      go_wp2_with fail
      refine (spec_l2Change (by omega) (by unfold I64; omega)).mono ?_; rintro e w' ⟨rfl, rfl⟩
      have hbt := hb.trans (hb2.mono hsz)
      have hsz2 := hb2.size
      rcases hg : goodChange n s
      · have e1 := Lib.hid (filt_miss (f := fun c => goodChange n c) (g := ofPl) HRr.out (by rw [← HS.out]; exact hg))
        go_wp2
        go_roundw
        case rel => exact ⟨j + 1, M, A', c', by omega, by go_num, rfl, by omega, Lib.hid (by rw [e1.out]; exact HP.out), Lib.hid (HO.out.up hb2), hbt⟩
        case measure => simp [intOf]; omega
      · have e1 := Lib.hid (filt_hit (f := fun c => goodChange n c) (g := ofPl) HRr.out (by rw [← HS.out]; exact hg))
        have HO2 := Lib.hid (HO.out.up hb2)
        go_wp2_with (first | (at_builtin; go_must ((refine wpList_append_rec Tryz.elStr rfl (.tmp 23) (.tmp 25) rfl rfl (HO2.out.alloc _) s rfl (Box.at_ _ [.string s] _ ?_) (strE_one _) ?_ (by decide) ?_ ?_; (focus (first | omega | (simp only [World.size_alloc]; done) | (simp only [World.size_alloc]; omega) | (simp; done) | (simp; omega))); (focus (first | omega | (simp only [World.size_alloc]; done) | (simp only [World.size_alloc]; omega) | (simp; done) | (simp; omega))); (focus (first | omega | (simp only [World.size_alloc]; done) | (simp only [World.size_alloc]; omega) | (simp; done) | (simp; omega))); intro A3 c3 w3 ho3 hg3 hb3))))
        have hb3' : Below w1.heap.size w1 w3 := (hbt.alloc (by omega) _).trans hb3
        have h0 : Hid (Owned strE 1 9 w3 w1.heap.size A3 (M.length + 1) c3 (M.take M.length ++ s :: M.drop M.length)) := Lib.hid (by rw [List.take_of_length_le (Nat.le_refl _), List.drop_length]; exact ho3)
        clear ho3 hg3
        go_loopw [7] (fun k wr => ∃ (q : Nat) (y : ByteArray), q ≤ M.length ∧ k = .int .i64 q ∧ Hid (Owned strE 1 9 wr w1.heap.size A3 (M.length + 1) c3 (M.take q ++ y :: M.drop q)) ∧ Below w1.heap.size w1 wr) (fun k _ => (intOf k).toNat)
        case atStart => exact ⟨M.length, s, Nat.le_refl _, rfl, h0, hb3'⟩
        case round =>
          obtain ⟨q, y, hq, rfl, HQ, hbq⟩ := hrel
          obtain ⟨g, rfl, _, lg, hcell, hfz⟩ := HQ.out.at_ (by omega)
          have cy := hcell q y 0 _ (ins_at hq) rfl
          have fq := hfz q
          have pt := Lib.hid (HQ.out.put (j := 0) (x := s) (u := .string s) (ins_at hq) (by decide) rfl)
          simp only [Nat.mul_one, Nat.add_zero] at cy
          have PT : Hid (Owned strE 1 9 (wr.setCell ⟨g, q, none⟩ (.string s)) w1.heap.size (some ⟨g, 0, none⟩) (M.length + 1) c3 (M.take q ++ s :: M.drop q)) := Lib.hid (by have h := pt.out.1; simp only [Nat.mul_one, Nat.add_zero] at h; rw [ins_set hq] at h; exact h)
          have PB : Below w1.heap.size w1 (wr.setCell ⟨g, q, none⟩ (.string s)) := hbq.setCell (HQ.out.at_own).1 _
          have il := Lib.hid (ins_len (y := s) hq)
          have EP : Hid ((M.take q ++ s :: M.drop q).Perm (((T.take (j + 1)).map ofPl).filter fun c => goodChange n c)) := Lib.hid (by rw [e1.out, ← HS.out]; exact ins_perm.trans (HP.out.append_right [s]))
          rcases q with _ | q
          · clear hcell hfz pt
            go_wp2
            go_roundw
            case rel => exact ⟨j + 1, M.take 0 ++ s :: M.drop 0, _, c3, by omega, by go_num, by rw [il.out], by rw [il.out]; omega, EP, by rw [il.out]; exact PT, PB⟩
            case measure => simp [intOf]; omega
          · obtain ⟨z, hz⟩ := some_of_lt (l := M) (k := q) (by omega)
            have cz := hcell q z 0 _ ((ins_before (by omega)).trans hz) rfl
            simp only [Nat.mul_one, Nat.add_zero] at cz
            have HZ := Lib.hid (ins_down (y := y) hz)
            clear hcell hfz pt hz
            rcases hgt : less s z
            · obtain ⟨l1, l2⟩ := less_no hgt
              rcases l2 with l2 | ⟨l2, l3⟩
              all_goals
                go_wp2
                go_roundw
                case rel => exact ⟨j + 1, M.take (q + 1) ++ s :: M.drop (q + 1), _, c3, by omega, by go_num, by rw [il.out], by rw [il.out]; omega, EP, by rw [il.out]; exact PT, PB⟩
                case measure => simp [intOf]; omega
            · obtain ⟨l1, l2, l3⟩ := less_yes hgt
              have PZ := Lib.hid (HQ.out.put (j := 0) (x := z) (u := .string z) (ins_at hq) (by decide) rfl)
              have PZ2 : Hid (Owned strE 1 9 (wr.setCell ⟨g, q + 1, none⟩ (.string z)) w1.heap.size (some ⟨g, 0, none⟩) (M.length + 1) c3 (M.take q ++ z :: M.drop q)) := Lib.hid (by have h := PZ.out.1; simp only [Nat.mul_one, Nat.add_zero] at h; rw [HZ.out] at h; exact h)
              have PZ3 : Below w1.heap.size w1 (wr.setCell ⟨g, q + 1, none⟩ (.string z)) := hbq.setCell (HQ.out.at_own).1 _
              clear PZ
              go_wp2
              go_roundw
              case rel => exact ⟨q, z, by omega, rfl, PZ2, PZ3⟩
              case measure => simp [intOf]
    · obtain rfl : j = T.length := by omega
      go_wp2
      go_ret
      have h := HP.out
      rw [List.take_of_length_le (Nat.le_refl _), ← HC.out] at h
      exact ⟨_, _, M, rfl, HO.out.base_le hb1.size, h, below_go hb1 hb⟩
end Go.Proofs.YtidolgonmimicaaGreatDoor
/- The walks through the generators of changes for extents. -/
namespace Go.Proofs.YtidolgonmimicaaGreatDoor
set_option linter.unusedVariables false
set_option linter.unusedSimpArgs false
open Go.ChangeShapes Go.WideShapes Go.ChangeAt Go.RowKit Go.Deep
theorem cur_fresh (w : World) (A : Option Addr) (n c : Nat) : Cur (w.alloc (.cells #[.slice A n c, .int .i64 0, .int .u64 0] 36)) w.heap.size A n c 0 :=
  ⟨0, 0, Blk.at_ w 36 [.slice A n c, .int .i64 0, .int .u64 0] rfl, Nat.le_refl _, by omega, by omega⟩
theorem Src.over {w w' : World} {A : Option Addr} {n : Nat} (h : Src w A n) (hb : Below w.heap.size w w') : Src w' A n := by
  obtain ⟨l, h1, h2, h3, h4⟩ := h
  exact ⟨l, h1, h2, h3, h4.up hb⟩
theorem chs_small {n : Nat} {L : List ByteArray} (hn : n ≤ 8) (h : L.Perm (chsRaw n)) : L.length ≤ 34 ∧ ∀ s ∈ L, s.size ≤ 8 := by
  constructor
  · rw [h.length_eq, chsRaw]
    refine Nat.le_trans (List.length_filter_le _ _) ?_
    rw [List.length_map]; exact fromK_le hn 1
  · intro s hs
    have h1 := (h.mem_iff).1 hs
    rw [chsRaw, List.mem_filter] at h1
    rcases q : sizeOk n s
    · have := h1.2; rw [goodChange_size q] at this; cases this
    · have := sizeOk_t q; omega
end Go.Proofs.YtidolgonmimicaaGreatDoor
/- The walks through the generators of changes and methods. -/
namespace Go.Proofs.YtidolgonmimicaaGreatDoor
set_option linter.unusedVariables false
set_option linter.unusedSimpArgs false
open Go.ChangeShapes Go.WideShapes Go.ChangeAt Go.RowKit Go.Deep
theorem lit_strs2 (w : World) (t : TypeId) (l : List ByteArray) : Strs (w.alloc (.cells ⟨l.map Value.string⟩ t)) (some ⟨w.heap.size, 0, none⟩) l := by
  refine ⟨strE_len, by rw [flatMap_len strE_len], fun hn => ⟨w.heap.size, 0, rfl, by simp, fun j u hu => ?_⟩⟩
  have h := Box.new w (l.map Value.string) t
  rw [Nat.zero_add]
  refine h j u ?_
  rw [← hu]
  congr 1
  exact (flatMap_one Value.string l).symm
theorem cur_of {A B : Option Addr} {n c a p m d : Nat} {l : List ByteArray} {w0 w : World} (hS : Src w0 A n) (hb : Below w0.heap.size w0 w) (hp : w0.heap.size ≤ p) (hc : Cur w p A n c a) (ha : a ≤ 16777216) (hm : l.length = m) (hl : Strs w B l) (hm0 : 0 < m) (hm1 : m ≤ 200) (hne : ∀ b o, B = some ⟨b, o, none⟩ → b ≠ p) :
    Calls Tryz.prog 33 #[.pointer (some ⟨p, 0, none⟩), .slice B m d] w fun e w' => ∃ x ∈ l, e = .returned (.string x) ∧ Cur w' p A n c (a + 1) ∧ w.grownBy w' (some p) := by
  subst hm
  go_in
  go_wp2_with fail
  refine (cur_pick hS hb hp hc ha (by omega) (by omega)).mono ?_; rintro e w1 ⟨x, rfl, ⟨x0, x1⟩, hc1, hg1⟩
  obtain ⟨k, rfl⟩ := Int.eq_ofNat_of_zero_le x0
  have hk : k < l.length := by omega
  obtain ⟨b, o, y, rfl, hbb, hy, hcy⟩ := hl.at_str hk
  have hcz : w1.cell? ⟨b, o + k, none⟩ = some (.string y) := (hg1.cell_far ⟨b, o + k, none⟩ hbb (fun e => hne b o rfl (by injection e))).trans hcy
  have HY := Lib.hid hy
  clear hy hl hcy x1
  go_wp2
  go_ret
  exact ⟨y, List.mem_of_getElem? HY.out, rfl, hc1, hg1⟩
theorem chsRaw_pos : ∀ n : Nat, n < 9 → 3 ≤ n → 1 ≤ (chsRaw n).length := by decide +kernel
set_option maxRecDepth 100000 in
theorem cur_change {A : Option Addr} {n c a p N : Nat} {w0 w : World} (hS : Src w0 A n) (hb : Below w0.heap.size w0 w) (hp : w0.heap.size ≤ p) (hc : Cur w p A n c a) (ha : a ≤ 16777216) (hN : N ≤ 8) (hN3 : 3 ≤ N) :
    Calls Tryz.prog 35 #[.pointer (some ⟨p, 0, none⟩), .int .i64 N] w fun e w' => ∃ x, e = .returned (.string x) ∧ goodChange N x = true ∧ x.size ≤ 8 ∧ Cur w' p A n c (a + 1) ∧ w.grownBy w' (some p) := by
  have hpw := hc.lt
  go_in
  go_wp2_with fail
  refine (spec_l2All hN).mono ?_; rintro e w1 ⟨A1, c1, L, rfl, ho1, hperm, hb1⟩
  have hsm := chs_small hN hperm
  have hlen := hsm.1
  have hpos : 1 ≤ L.length := by rw [hperm.length_eq]; exact chsRaw_pos N (by omega) hN3
  have HSM := Lib.hid hsm.2
  have HPM := Lib.hid (fun x (hx : x ∈ L) => show goodChange N x = true from by
    have h1 := (hperm.mem_iff).1 hx
    rw [chsRaw, List.mem_filter] at h1
    exact h1.2)
  clear hperm hsm
  go_wp2_with fail
  refine (cur_pick hS (grown_below hb hp (grown_any hb1 _)) hp (hc.up hb1) ha (by omega) (by omega)).mono ?_; rintro e w2 ⟨x, rfl, ⟨x0, x1⟩, hc2, hg2⟩
  obtain ⟨k, rfl⟩ := Int.eq_ofNat_of_zero_le x0
  have hk : k < L.length := by omega
  obtain ⟨b, o, y, rfl, hbb, hy, hcy⟩ := (ho1.past hg2 hpw).recs.at_str hk
  have HY := Lib.hid (List.mem_of_getElem? hy)
  clear hy x1
  go_wp2
  go_ret
  exact ⟨y, rfl, HPM.out y HY.out, HSM.out y HY.out, hc2, grownBy_trans (grown_any hb1 _) hg2⟩
theorem goodM_of {nm : ByteArray} {st : Nat} {L : List ByteArray} (h1 : nameOk nm = true) (h2 : 3 ≤ st) (h3 : st ≤ 8) (h4 : 1 ≤ L.length) (h5 : L.length ≤ 40) (h6 : ∀ x ∈ L, goodChange st x = true) : goodM nm st L = true := by
  have e1 : inB (st : Int) 3 8 = true := by simp [inB]; omega
  have e2 : inB (L.length : Int) 1 40 = true := by simp [inB]; omega
  have e3 : allCh st L = true := by
    rw [allCh, List.all_eq_true]
    intro k hk
    obtain ⟨x, hx⟩ := some_of_lt (List.mem_range.1 hk)
    rw [okCh_at hx]
    exact h6 x (List.mem_of_getElem? hx)
  rw [goodM, h1, e1, e2, e3]; rfl
theorem hunt_one : ∀ n : Nat, n < 9 → 3 ≤ n → n % 2 = 0 → goodChange n ⟨#[45]⟩ = true ∧ goodChange n (⟨#[49]⟩ ++ dig1 n) = true ∧ goodChange n ⟨#[49, 50]⟩ = true := by decide +kernel
theorem hunt_two : ∀ n : Nat, n < 9 → 5 ≤ n → n % 2 = 1 → goodChange n (dig1 n) = true ∧ goodChange n ⟨#[49]⟩ = true ∧ goodChange n (⟨#[49, 50]⟩ ++ dig1 n) = true := by decide +kernel
set_option maxHeartbeats 2000000 in
set_option maxRecDepth 100000 in
theorem spec_l4Hunting {N : Nat} {s : ByteArray} {w : World} (hN : N ≤ 8) (hN4 : 4 ≤ N) (hs : goodChange N s = true) :
    Calls Tryz.prog 50 #[.int .i64 N, .string s] w fun e w' => ∃ A' c' L, e = .returned (.slice A' (2 * N) c') ∧ Owned strE 1 9 w' w.heap.size A' (2 * N) c' L ∧ (∀ x ∈ L, goodChange N x = true) ∧ Below w.heap.size w w' := by
  have HS := Lib.hid hs
  have hd1 : (dig1 (N : Int)).size = 1 := rfl
  clear hs
  rcases Nat.mod_two_eq_zero_or_one N with hpar | hpar
  · have HH := Lib.hid (hunt_one N (by omega) (by omega) hpar)
    have hI : ¬ ((N : Int) % 2 = 1) := by omega
    have hpe : ((N : Int) % 2 == 1) = false := by simpa using hI
    go_in
    go_wp2_with fail
    refine (spec_l1Num_1 (by omega) (by omega)).mono ?_; rintro e w1 ⟨rfl, hb1⟩
    go_wp2
    go_loopw [7, 8] (fun v i wr => ∃ (k : Nat) (A' : Option Addr) (c' : Nat) (O : List ByteArray), k ≤ N ∧ i = .int .i64 k ∧ v = .slice A' (2 * k) c' ∧ Hid (∀ x ∈ O, goodChange N x = true) ∧ Hid (Owned strE 1 9 wr w.heap.size A' (2 * k) c' O) ∧ Below w.heap.size w wr) (fun _ i _ => N - (intOf i).toNat)
    case atStart => exact ⟨0, none, 0, [], Nat.zero_le _, rfl, rfl, Lib.hid (fun s hs => by cases hs), Lib.hid (Owned.nil strE_len _ _ _), hb1⟩
    case round =>
      obtain ⟨k, A2, c2, O, hk, rfl, rfl, HZ, HO, hbr⟩ := hrel
      rename World => wr
      have hszr := hbr.size
      by_cases hlt : k < N
      · have HG2 := Lib.hid (show ∀ x ∈ O ++ [⟨#[45]⟩, ⟨#[49]⟩ ++ dig1 N], goodChange N x = true from fun x hx => by
          rcases List.mem_append.1 hx with hx | hx
          · exact HZ.out x hx
          · simp only [List.mem_cons, List.not_mem_nil, or_false] at hx
            rcases hx with rfl | rfl
            · exact HH.out.1
            · exact HH.out.2.1)
        have hl2 := lit_strs2 wr 9 [⟨#[45]⟩, ⟨#[49]⟩ ++ dig1 N]
        go_wp2_with (first | (at_builtin; go_must ((refine wpList_append_recs Tryz.elStr strE_one rfl (.tmp 22) (.tmp 25) rfl rfl (HO.out.alloc _) rfl hl2 rfl ?_ (by decide) ?_ ?_; (focus (first | omega | (simp only [World.size_alloc]; done) | (simp only [World.size_alloc]; omega) | (simp; done) | (simp; omega))); (simp; omega); intro A3 c3 w6 ho6 hg6 hl6; have hb6 : Below w.heap.size w w6 := (hbr.alloc hszr _).trans (grown_base hg6 (by simp; omega) (fun z hz => (HO.out.range z hz).1))))))
        go_roundw
        case rel => exact ⟨k + 1, A3, c3, O ++ [⟨#[45]⟩, ⟨#[49]⟩ ++ dig1 N], by omega, by go_num, by go_num, HG2, Lib.hid ho6, hb6⟩
        case measure => simp [intOf]; omega
      · obtain rfl : k = N := by omega
        obtain ⟨g, rfl, g0, g1, gc, gf⟩ := HO.out.at_ (by omega)
        have hOl := HO.out.len
        obtain ⟨y, hy⟩ := some_of_lt (l := O) (k := 2 * k - 1) (by omega)
        have c0 := gc (2 * k - 1) y 0 _ hy rfl
        have f0 := gf (2 * k - 1)
        simp only [Nat.mul_one, Nat.add_zero] at c0
        have pt := HO.out.put (k := 2 * k - 1) (j := 0) (x := s) (u := .string s) hy (by decide) rfl
        simp only [Nat.mul_one, Nat.add_zero] at pt
        have HPT := Lib.hid pt
        have HGS := Lib.hid (show ∀ x ∈ O.set (2 * k - 1) s, goodChange k x = true from fun x hx => by
          rcases List.mem_or_eq_of_mem_set hx with hx | hx
          · exact HZ.out x hx
          · rw [hx]; exact HS.out)
        have hJ : (2 : Int) * (k : Int) - 1 = ((2 * k - 1 : Nat) : Int) := by omega
        have hJ2 : ((2 * k : Nat) : Int) - 1 = ((2 * k - 1 : Nat) : Int) := by omega
        have hJ3 : ((2 * k - 1 : Nat) : Int) < ((2 * k : Nat) : Int) := by omega
        clear gc gf hy pt
        go_wp2
        go_ret
        exact ⟨_, _, O.set (2 * k - 1) s, rfl, HPT.out.1, HGS.out, hbr.grown HPT.out.2 hszr (fun z hz => by injection hz with hz; omega)⟩
  · have HH := Lib.hid (hunt_two N (by omega) (by omega) hpar)
    have hI : (N : Int) % 2 = 1 := by omega
    have hpe : ((N : Int) % 2 == 1) = true := by simpa using hI
    go_in
    go_wp2_with fail
    refine (spec_l1Num_1 (by omega) (by omega)).mono ?_; rintro e w1 ⟨rfl, hb1⟩
    go_wp2_with fail
    refine (spec_l1Num_1 (by omega) (by omega)).mono ?_; rintro e w2 ⟨rfl, hb2⟩
    have hB2 := below_go hb1 hb2
    go_wp2
    go_loopw [7, 8] (fun v i wr => ∃ (k : Nat) (A' : Option Addr) (c' : Nat) (O : List ByteArray), k ≤ N ∧ i = .int .i64 k ∧ v = .slice A' (2 * k) c' ∧ Hid (∀ x ∈ O, goodChange N x = true) ∧ Hid (Owned strE 1 9 wr w.heap.size A' (2 * k) c' O) ∧ Below w.heap.size w wr) (fun _ i _ => N - (intOf i).toNat)
    case atStart => exact ⟨0, none, 0, [], Nat.zero_le _, rfl, rfl, Lib.hid (fun s hs => by cases hs), Lib.hid (Owned.nil strE_len _ _ _), hB2⟩
    case round =>
      obtain ⟨k, A2, c2, O, hk, rfl, rfl, HZ, HO, hbr⟩ := hrel
      rename World => wr
      have hszr := hbr.size
      by_cases hlt : k < N
      · have HG2 := Lib.hid (show ∀ x ∈ O ++ [dig1 N, ⟨#[49]⟩], goodChange N x = true from fun x hx => by
          rcases List.mem_append.1 hx with hx | hx
          · exact HZ.out x hx
          · simp only [List.mem_cons, List.not_mem_nil, or_false] at hx
            rcases hx with rfl | rfl
            · exact HH.out.1
            · exact HH.out.2.1)
        have hl2 := lit_strs2 wr 9 [dig1 N, ⟨#[49]⟩]
        go_wp2_with (first | (at_builtin; go_must ((refine wpList_append_recs Tryz.elStr strE_one rfl (.tmp 22) (.tmp 25) rfl rfl (HO.out.alloc _) rfl hl2 rfl ?_ (by decide) ?_ ?_; (focus (first | omega | (simp only [World.size_alloc]; done) | (simp only [World.size_alloc]; omega) | (simp; done) | (simp; omega))); (simp; omega); intro A3 c3 w6 ho6 hg6 hl6; have hb6 : Below w.heap.size w w6 := (hbr.alloc hszr _).trans (grown_base hg6 (by simp; omega) (fun z hz => (HO.out.range z hz).1))))))
        go_roundw
        case rel => exact ⟨k + 1, A3, c3, O ++ [dig1 N, ⟨#[49]⟩], by omega, by go_num, by go_num, HG2, Lib.hid ho6, hb6⟩
        case measure => simp [intOf]; omega
      · obtain rfl : k = N := by omega
        obtain ⟨g, rfl, g0, g1, gc, gf⟩ := HO.out.at_ (by omega)
        have hOl := HO.out.len
        obtain ⟨y, hy⟩ := some_of_lt (l := O) (k := 2 * k - 1) (by omega)
        have c0 := gc (2 * k - 1) y 0 _ hy rfl
        have f0 := gf (2 * k - 1)
        simp only [Nat.mul_one, Nat.add_zero] at c0
        have pt := HO.out.put (k := 2 * k - 1) (j := 0) (x := s) (u := .string s) hy (by decide) rfl
        simp only [Nat.mul_one, Nat.add_zero] at pt
        have HPT := Lib.hid pt
        have HGS := Lib.hid (show ∀ x ∈ O.set (2 * k - 1) s, goodChange k x = true from fun x hx => by
          rcases List.mem_or_eq_of_mem_set hx with hx | hx
          · exact HZ.out x hx
          · rw [hx]; exact HS.out)
        have hJ : (2 : Int) * (k : Int) - 1 = ((2 * k - 1 : Nat) : Int) := by omega
        have hJ2 : ((2 * k : Nat) : Int) - 1 = ((2 * k - 1 : Nat) : Int) := by omega
        have hJ3 : ((2 * k - 1 : Nat) : Int) < ((2 * k : Nat) : Int) := by omega
        clear gc gf hy pt
        go_wp2
        go_ret
        exact ⟨_, _, O.set (2 * k - 1) s, rfl, HPT.out.1, HGS.out, hbr.grown HPT.out.2 hszr (fun z hz => by injection hz with hz; omega)⟩
end Go.Proofs.YtidolgonmimicaaGreatDoor
