/- Texts 5 of 8 that the claim leans on: plain laws and the walks' contracts, in order. -/
import Derived.Test.YtidolgonmimicaaGreatMCuts4
import Derived.Shelf.Spec.SearchS
import Derived.Ground.Names2Prog
import Derived.Test.YtidolgonmimicaaGreatProg
import Derived.Shelf.Strings.OnBuilder
import Derived.Shelf.Strings.BuilderF
import Derived.Shelf.Strings.BuilderK
import Derived.Shelf.LaysM
import Derived.Shelf.Strings.Repeat
set_option linter.unusedVariables false
set_option linter.unusedSimpArgs false
namespace Go.Proofs.YtidolgonmimicaaGreat
open Go.ChangeShapes Go.WideShapes Go.ChangeAt Go.RowKit Go.Deep
set_option maxHeartbeats 4000000 in
set_option maxRecDepth 100000 in
theorem spec_l13Cut {A : Option Addr} {n c st : Nat} {nm : ByteArray} {l : List ByteArray} {kb ks p : ByteArray} {N : Nat} {w : World} (hn : l.length = n) (h : Strs w A l) (hz : n ≤ 1048576) (hs : ∀ s ∈ l, s.size ≤ 16777216) (hnm : nm.size ≤ 16777216) (h9 : st ≤ 1000) (hk : goodK nm (st : Int) l kb ks = true) (hp : preT p) (hN : N ≤ 1000) (hcap : n ≤ c) :
    Calls Tryz.prog 152 #[.agg #[.string nm, .int .i64 st, .slice A n c], .agg #[.string kb, .string ks], .int .i64 (N : Int), .string p] w fun e w' => CutR (cutF st l kb ks N p) w e w' := by
  have h38 := (goodK_all hk).1
  have hGM := (goodK_t hk).1
  have hp60 := hp.1
  have HLT : Hid (ltV nm st l = nodupB (leadL st l)) := Lib.hid (by rw [ltV, hGM, Bool.true_and])
  have b0 : Below w.heap.size w (((w.alloc (.cells ⟨[.string nm, .int .i64 st, .slice A n c]⟩ 25)).alloc (.cells ⟨[.string kb, .string ks]⟩ 27)).alloc (.cells #[.string ⟨#[]⟩, .int .i64 0, .int .i64 0] 29)) := by (repeat' (first | (with_reducible exact Below.refl _ _) | (with_reducible assumption) | (with_reducible refine below_drewN ?_ _) | (with_reducible refine Below.drew ?_) | (with_reducible refine below_alloc ?_ _) | (with_reducible refine Below.alloc ?_ ?_ _) | (with_reducible refine Below.setCell ?_ ?_ _) | (with_reducible refine below_go ?_ (by with_reducible assumption)) | (with_reducible refine below_then (by with_reducible assumption) ?_ ?_) | go_size))
  have K0 := ((Blk.at_ w 25 [.string nm, .int .i64 st, .slice A n c] (b := w.heap.size) rfl).alloc (.cells ⟨[.string kb, .string ks]⟩ 27)).alloc (.cells #[.string ⟨#[]⟩, .int .i64 0, .int .i64 0] 29)
  have J0 := (Blk.at_ (w.alloc (.cells ⟨[.string nm, .int .i64 st, .slice A n c]⟩ 25)) 27 [.string kb, .string ks] (b := w.heap.size + 1) (by simp)).alloc (.cells #[.string ⟨#[]⟩, .int .i64 0, .int .i64 0] 29)
  have D0 := Blk.at_ ((w.alloc (.cells ⟨[.string nm, .int .i64 st, .slice A n c]⟩ 25)).alloc (.cells ⟨[.string kb, .string ks]⟩ 27)) 29 cut0 (b := w.heap.size + 1 + 1) (by simp)
  have HS := Lib.hid (h.up b0)
  clear h
  go_in
  go_wp2_with fail
  obtain ⟨w0, hw0⟩ : ∃ u, u = (((w.alloc (.cells #[.string nm, .int .i64 st, .slice A n c] 25)).alloc (.cells #[.string kb, .string ks] 27)).alloc (.cells #[.string ⟨#[]⟩, .int .i64 0, .int .i64 0] 29)) := ⟨_, rfl⟩
  rw [← hw0] at b0 K0 J0 D0 HS ⊢
  clear hw0
  obtain ⟨M, hM⟩ : ∃ u, u = w.heap.size := ⟨_, rfl⟩
  have fin : Hid (∀ (u : World) (x0 x1 x2 : Value), Below w.heap.size w u → M + 1 + 1 < u.heap.size → Below w.heap.size w (((u.setCell ⟨M + 1 + 1, 0, none⟩ x0).setCell ⟨M + 1 + 1, 1, none⟩ x1).setCell ⟨M + 1 + 1, 2, none⟩ x2)) := Lib.hid (fun u x0 x1 x2 hu hDu => by
    subst hM
    exact ((hu.setCell (p := ⟨_, 0, none⟩) (by simp; omega) _).setCell (p := ⟨_, 1, none⟩) (by simp; omega) _).setCell (p := ⟨_, 2, none⟩) (by simp; omega) _)
  rw [← hM] at K0 J0 D0 ⊢
  clear hM
  refine (spec_l13Heads (nm := nm) (t := p) hn HS.out hk hp hcap).mono ?_; rintro e w1 ⟨A1, c1, rfl, ho1, hb1⟩
  have HO := Lib.hid ho1
  have hcap1 := ho1.cap
  clear ho1
  obtain ⟨g, rfl, g0, g1, gc, _⟩ := HO.out.at_ (by omega)
  have HGC := Lib.hid (fun (j : Nat) (hj : j < p.size + 1) (u : World) (hu : Below w1.heap.size w1 u) => show u.cell? ⟨g, j, none⟩ = some (.string (hdAt st l kb ks p j)) from by
    have cg := gc j _ 0 _ (hdsL_at hj) rfl
    simp only [Nat.mul_one, Nat.add_zero] at cg
    exact (hu.cell (p := ⟨g, j, none⟩) g1).trans cg)
  have cg := HGC.out p.size (by omega) w1 (Below.refl _ _)
  have HRN := Lib.hid (fun j => hdAt_good h38.1 h38.2 l kb ks p j)
  have K1 := K0.up hb1
  have J1 := J0.up hb1
  have D1 := D0.up hb1
  have HS1 := Lib.hid (HS.out.up hb1)
  have B1 := below_go b0 hb1
  have hcL : (p.size : Int) < (p.size : Int) + 1 := by omega
  have hcM : (p.size : Int) ≤ (p.size : Int) + 1 := by omega
  have hcN : (p.size : Int) ≤ (c1 : Int) := by omega
  clear K0 J0 D0 HS hb1 gc
  have kc0 := K1.cell 0; have kc1 := K1.cell 1; have kc2 := K1.cell 2; have jc0 := J1.cell 0; have jc1 := J1.cell 1
  simp only [List.getElem?_cons_zero, List.getElem?_cons_succ] at kc0 kc1 kc2 jc0 jc1
  have hDlt := D1.lt
  have d0 := D1.cell 0; have d1 := D1.cell 1; have d2 := D1.cell 2
  simp only [List.getElem?_cons_zero, List.getElem?_cons_succ] at d0 d1 d2
  have f0 := D1.frozen 0; have f1 := D1.frozen 1; have f2 := D1.frozen 2
  have CL := Lib.hid (@cut_lead st N l kb ks p)
  have CLF := Lib.hid (@cut_lead' st N l kb ks p)
  have CO := Lib.hid (@cut_open st N l kb ks p)
  have COF := Lib.hid (@cut_open' st N l kb ks p)
  have CC := Lib.hid (@cut_clash st N l kb ks p)
  have CF := Lib.hid (@cut_free st N l kb ks p)
  by_cases hz0 : p.size = 0
  · have hpe := Lib.hid (size_zero hz0)
    have hbe : (p.toList == ([] : List UInt8)) = true := by rw [hpe.out, ByteArray.toList_eq]; rfl
    rcases hl : nodupB (leadL st l)
    · have e2 := Lib.hid ((CLF.out hz0 hl).trans (show some (p, (1 : Int), (0 : Int)) = some (⟨#[]⟩, 1, 0) by rw [hpe.out]))
      have HL := Lib.hid hl
      clear hl hz0
      go_wp2_with fail
      refine (spec_IsLeadTrue (nm := nm) hn HS1.out hz hs hnm h9).mono ?_; rw [HLT.out, HL.out]; rintro e w2 ⟨rfl, hb2⟩
      have B2 := below_go B1 hb2
      replace D1 := D1.up hb2
      clear d0 d1 d2 f0 f1 f2 B1 hDlt
      have hDlt := D1.lt
      have d0 := D1.cell 0; have d1 := D1.cell 1; have d2 := D1.cell 2
      simp only [List.getElem?_cons_zero, List.getElem?_cons_succ] at d0 d1 d2
      have f0 := D1.frozen 0; have f1 := D1.frozen 1; have f2 := D1.frozen 2
      have V := ((D1.set_ 0 (.string ⟨#[]⟩)).set_ 1 (.int .i64 1)).set_ 2 (.int .i64 0)
      have v0 := V.cell 0; have v1 := V.cell 1; have v2 := V.cell 2
      simp only [List.set_cons_zero, List.set_cons_succ, List.getElem?_cons_zero, List.getElem?_cons_succ] at v0 v1 v2
      clear V
      go_wp2_with fail
      refine bodyPost_ret (v := .tuple #[.agg #[.string ⟨#[]⟩, .int .i64 1, .int .i64 0], .bool true]) (by simp [results, Tryz.results152, go_sem, v0, v1, v2]) rfl ?_
      exact CutR.mk _ _ _ true rfl e2.out (by with_reducible (first | exact fin.out _ _ _ _ (by assumption) hDlt | exact below_drewN (fin.out _ _ _ _ (by assumption) hDlt) _ | exact (fin.out _ _ _ _ (by assumption) hDlt).drew))
    · have e2 := Lib.hid (CL.out hz0 hl)
      have HL := Lib.hid hl
      clear hl hz0
      go_wp2_with fail
      refine (spec_IsLeadTrue (nm := nm) hn HS1.out hz hs hnm h9).mono ?_; rw [HLT.out, HL.out]; rintro e w2 ⟨rfl, hb2⟩
      have B2 := below_go B1 hb2
      replace D1 := D1.up hb2
      clear d0 d1 d2 f0 f1 f2 B1 hDlt
      have hDlt := D1.lt
      have d0 := D1.cell 0; have d1 := D1.cell 1; have d2 := D1.cell 2
      simp only [List.getElem?_cons_zero, List.getElem?_cons_succ] at d0 d1 d2
      have f0 := D1.frozen 0; have f1 := D1.frozen 1; have f2 := D1.frozen 2
      have V := ((D1.set_ 0 (.string ⟨#[]⟩)).set_ 1 (.int .i64 1)).set_ 2 (.int .i64 0)
      have v0 := V.cell 0; have v1 := V.cell 1; have v2 := V.cell 2
      simp only [List.set_cons_zero, List.set_cons_succ, List.getElem?_cons_zero, List.getElem?_cons_succ] at v0 v1 v2
      clear V
      go_wp2_with fail
      refine bodyPost_ret (v := .tuple #[.agg #[.string ⟨#[]⟩, .int .i64 1, .int .i64 0], .bool false]) (by simp [results, Tryz.results152, go_sem, v0, v1, v2]) rfl ?_
      exact CutR.mk _ _ _ false rfl e2.out (by with_reducible (first | exact fin.out _ _ _ _ (by assumption) hDlt | exact below_drewN (fin.out _ _ _ _ (by assumption) hDlt) _ | exact (fin.out _ _ _ _ (by assumption) hDlt).drew))
  · have hne := ne_empty hz0
    by_cases hpn : p.size = N
    · have hI : ((p.size : Int) == (N : Int)) = true := by rw [hpn]; simp
      by_cases he : hdAt st l kb ks p p.size = roundsS st
      · have e2 := Lib.hid (CO.out hz0 hpn he)
        have hbe : ((hdAt st l kb ks p p.size).toList == (roundsS st).toList) = true := by rw [he]; simp
        clear he hpn hz0
        have V := ((D1.set_ 0 (.string p)).set_ 1 (.int .i64 3)).set_ 2 (.int .i64 0)
        have v0 := V.cell 0; have v1 := V.cell 1; have v2 := V.cell 2
        simp only [List.set_cons_zero, List.set_cons_succ, List.getElem?_cons_zero, List.getElem?_cons_succ] at v0 v1 v2
        clear V
        go_wp2_with (go_at_call 90; refine (spec_l1Rounds h38.2).mono ?_; rintro e w' ⟨rfl, rfl⟩)
        refine bodyPost_ret (v := .tuple #[.agg #[.string p, .int .i64 3, .int .i64 0], .bool false]) (by simp [results, Tryz.results152, go_sem, v0, v1, v2]) rfl ?_
        exact CutR.mk _ _ _ false rfl e2.out (by with_reducible (first | exact fin.out _ _ _ _ (by assumption) hDlt | exact below_drewN (fin.out _ _ _ _ (by assumption) hDlt) _ | exact (fin.out _ _ _ _ (by assumption) hDlt).drew))
      · have e2 := Lib.hid (COF.out hz0 hpn he)
        have hbe := bytes_ne he
        clear he hpn hz0
        have V := ((D1.set_ 0 (.string p)).set_ 1 (.int .i64 3)).set_ 2 (.int .i64 0)
        have v0 := V.cell 0; have v1 := V.cell 1; have v2 := V.cell 2
        simp only [List.set_cons_zero, List.set_cons_succ, List.getElem?_cons_zero, List.getElem?_cons_succ] at v0 v1 v2
        clear V
        go_wp2_with (go_at_call 90; refine (spec_l1Rounds h38.2).mono ?_; rintro e w' ⟨rfl, rfl⟩)
        refine bodyPost_ret (v := .tuple #[.agg #[.string p, .int .i64 3, .int .i64 0], .bool true]) (by simp [results, Tryz.results152, go_sem, v0, v1, v2]) rfl ?_
        exact CutR.mk _ _ _ true rfl e2.out (by with_reducible (first | exact fin.out _ _ _ _ (by assumption) hDlt | exact below_drewN (fin.out _ _ _ _ (by assumption) hDlt) _ | exact (fin.out _ _ _ _ (by assumption) hDlt).drew))
    · have hI : ((p.size : Int) == (N : Int)) = false := by rw [beq_eq_false_iff_ne]; omega
      have HZ := Lib.hid hz0
      have HPN := Lib.hid hpn
      have HCL := Lib.hid (fun (i : Nat) => show clsAt st l kb ks p p.size i = decide (0 < (meetL (leadL st l) ((leadL st l).map (timesS (timesS (turnS (hdAt st l kb ks p i)) (hdAt st l kb ks p p.size))))).length) from by
        have hf : RowN st (timesS (turnS (hdAt st l kb ks p i)) (hdAt st l kb ks p p.size)) := (turn_rowN (HRN.out i)).times (HRN.out p.size)
        rw [clsAt, Bool.eq_iff_iff, inL_iff, decide_eq_true_iff, ← meet_iff (leadL_row h38.1 h38.2 l) hf, List.length_pos_iff])
      have HB1 := Lib.hid B1
      have HK1 := Lib.hid K1
      have HD1 := Lib.hid D1
      clear hz0 hpn B1 K1 D1 J1 d0 d1 d2 f0 f1 f2
      go_wp2
      clear kc0 kc1 kc2 jc0 jc1
      go_loopw [51] (fun v wr => ∃ k : Nat, k ≤ p.size ∧ v = .int .i64 k ∧ Hid (∀ j, j < k → clsAt st l kb ks p p.size j = false) ∧ Hid (Below w1.heap.size w1 wr)) (fun v _ => p.size - (intOf v).toNat)
      case atStart => exact ⟨0, Nat.zero_le _, rfl, Lib.hid (fun j hj => absurd hj (by omega)), Lib.hid (Below.refl _ _)⟩
      case round =>
        obtain ⟨k, hk1, rfl, HLO, HBR⟩ := hrel
        rename World => wr
        have K1 := HK1.out.up HBR.out
        have D1 := HD1.out.up HBR.out
        have B1 := below_go HB1.out HBR.out
        have hDlt := D1.lt
        have d0 := D1.cell 0; have d1 := D1.cell 1; have d2 := D1.cell 2
        simp only [List.getElem?_cons_zero, List.getElem?_cons_succ] at d0 d1 d2
        have f0 := D1.frozen 0; have f1 := D1.frozen 1; have f2 := D1.frozen 2
        by_cases hlt : k < p.size
        · have hI2 : (k : Int) < (p.size : Int) := by omega
          have cgk := HGC.out k (by omega) wr HBR.out
          have hRk := HRN.out k
          have hRp := HRN.out p.size
          go_upto_region 11 with fail
          have C0 : Below wr.heap.size wr wr.drew := (Below.refl _ _).drew
          have CA : Hid (∀ u : World, Below wr.heap.size wr u → u.cell? ⟨M, 0, none⟩ = some (.string nm) ∧ u.cell? ⟨M, 1, none⟩ = some (.int .i64 st) ∧ u.cell? ⟨M, 2, none⟩ = some (.slice A n c)) := Lib.hid (fun u hu => by
            have L0 := K1.up hu
            exact ⟨by simpa using L0.cell 0, by simpa using L0.cell 1, by simpa using L0.cell 2⟩)
          have hhz : (hdAt st l kb ks p k).size ≤ 16777216 := by rw [hRk.2]; omega
          have hpz : (hdAt st l kb ks p p.size).size ≤ 16777216 := by rw [hRp.2]; omega
          refine wp_region_held_drew (S := fun u => u.cell? ⟨M, 0, none⟩ = some (.string nm) ∧ u.cell? ⟨M, 1, none⟩ = some (.int .i64 st) ∧ u.cell? ⟨M, 2, none⟩ = some (.slice A n c)) (by kernel_rfl) (CA.out _ C0) (fun hHeld => ?_)
          refine wpAnyH_take (i := 0) (oi := { dst := some 56, op := _, type := _, pos := _, after := _, guard := _ }) (v := ?_) rfl (by kernel_rfl) (by kernel_rfl) (by kernel_rfl) (fun _ _ _ h => h) (Or.inl ⟨by rfl, ?_⟩) (by assumption) ?_
          rotate_left
          · (intro w hSw; (try dsimp only at hSw); go_simp) <;> with_reducible rfl
          (try simp only [Act.put, List.setIfInBounds_toArray, List.set_cons_zero, List.set_cons_succ])
          refine wpAnyH_take (i := 1) (oi := { dst := some 57, op := _, type := _, pos := _, after := _, guard := _ }) (v := ?_) rfl (by kernel_rfl) (by kernel_rfl) (by kernel_rfl) (fun _ _ _ h => h) (Or.inl ⟨by rfl, ?_⟩) (by assumption) ?_
          rotate_left
          · (intro w hSw; (try dsimp only at hSw); go_simp) <;> with_reducible rfl
          (try simp only [Act.put, List.setIfInBounds_toArray, List.set_cons_zero, List.set_cons_succ])
          refine wpAnyH_take (i := 3) (oi := { dst := some 59, op := _, type := _, pos := _, after := _, guard := _ }) (v := ?_) rfl (by kernel_rfl) (by kernel_rfl) (by kernel_rfl) (fun _ _ _ h => h) (Or.inl ⟨by rfl, ?_⟩) (by assumption) ?_
          rotate_left
          · (intro w hSw; (try dsimp only at hSw); go_simp) <;> with_reducible rfl
          (try simp only [Act.put, List.setIfInBounds_toArray, List.set_cons_zero, List.set_cons_succ])
          refine wpAnyH_ready (rs := [2]) (by kernel_rfl) (by simp) ?_
          refine AllReadyH.cons (o := _) rfl (fun K hK => ?_) AllReadyH.nil
          go_simp
          refine (spec_l1Turn hRk.1).mono ?_; rintro e w3 ⟨rfl, hb3, hrt⟩
          have C1 := below_go C0 hb3
          rw [hRk.2] at hrt
          have hft := rowN_fits hrt hRp
          have htz : (turnS (hdAt st l kb ks p k)).size ≤ 16777216 := by rw [hrt.2]; omega
          try go_wp2_with fail
          refine hK.out _ _ (CA.out _ C1) (fun hHeld => ?_)
          clear hK K
          (try simp only [Act.put, List.setIfInBounds_toArray, List.set_cons_zero, List.set_cons_succ])
          refine wpAnyH_ready (rs := [4]) (by kernel_rfl) (by simp) ?_
          refine AllReadyH.cons (o := _) rfl (fun K hK => ?_) AllReadyH.nil
          go_simp
          refine (spec_l1Times htz hpz hft).mono ?_; rintro e w4 ⟨rfl, hw4⟩
          have CT : Below wr.heap.size wr w4 := by rw [← hw4]; exact C1
          have hRR := hrt.times hRp
          try go_wp2_with fail
          refine hK.out _ _ (CA.out _ CT) (fun hHeld => ?_)
          clear hK K
          (try simp only [Act.put, List.setIfInBounds_toArray, List.set_cons_zero, List.set_cons_succ])
          refine wpAnyH_ready (rs := [5]) (by kernel_rfl) (by simp) ?_
          refine AllReadyH.cons (o := _) rfl (fun K hK => ?_) AllReadyH.nil
          go_simp
          refine (spec_l11Shared (nm := nm) hn (HS1.out.up (HBR.out.trans (CT.mono HBR.out.size))) hz hs hnm h9 hGM hRR).mono ?_; rintro e w5 ⟨A5, m5, c5, rfl, ho5, hm5, hb5⟩
          have C2 := below_go CT hb5
          have HQ := Lib.hid (show clsAt st l kb ks p p.size k = decide (0 < m5) from by rw [HCL.out, ho5.len])
          clear ho5
          try go_wp2_with fail
          refine hK.out _ _ (CA.out _ C2) (fun hHeld => ?_)
          clear hK K
          (try simp only [Act.put, List.setIfInBounds_toArray, List.set_cons_zero, List.set_cons_succ])
          refine wpAnyH_take (i := 6) (oi := { dst := some 62, op := _, type := _, pos := _, after := _, guard := _ }) (v := ?_) rfl (by kernel_rfl) (by kernel_rfl) (by kernel_rfl) (fun _ _ _ h => h) (Or.inl ⟨by rfl, ?_⟩) (by assumption) ?_
          rotate_left
          · (intro w hSw; (try dsimp only at hSw); go_simp) <;> with_reducible rfl
          (try simp only [Act.put, List.setIfInBounds_toArray, List.set_cons_zero, List.set_cons_succ])
          refine wpAnyH_take (i := 7) (oi := { dst := some 63, op := _, type := _, pos := _, after := _, guard := _ }) (v := ?_) rfl (by kernel_rfl) (by kernel_rfl) (by kernel_rfl) (fun _ _ _ h => h) (Or.inl ⟨by rfl, ?_⟩) (by assumption) ?_
          rotate_left
          · (intro w hSw; (try dsimp only at hSw); go_simp) <;> with_reducible rfl
          (try simp only [Act.put, List.setIfInBounds_toArray, List.set_cons_zero, List.set_cons_succ])
          refine wpAnyH_done (by kernel_rfl) ?_ _
          (try simp only [Act.put, List.setIfInBounds_toArray, List.set_cons_zero, List.set_cons_succ])
          have B2 := below_go B1 C2
          rcases hq : clsAt st l kb ks p p.size k
          · have HL2 := Lib.hid (show ∀ j, j < k + 1 → clsAt st l kb ks p p.size j = false from fun j hj => by
              rcases Nat.lt_or_ge j k with z | z
              · exact HLO.out j z
              · obtain rfl : j = k := by omega
                exact hq)
            have HB2 := Lib.hid (HBR.out.trans (C2.mono HBR.out.size))
            have hm0 : ¬ 0 < m5 := by rw [HQ.out, decide_eq_false_iff_not] at hq; exact hq
            have hmI : ¬ (0 : Int) < (m5 : Int) := by omega
            clear hq
            go_wp2
            go_roundw
            case rel => exact ⟨k + 1, by omega, by go_num, HL2, HB2⟩
            case measure => simp [intOf]; omega
          · have e2 := Lib.hid (show cutF st l kb ks N p = some (p, 2, (k : Int)) from CC.out HZ.out HPN.out hlt HLO.out hq)
            have hm0 : 0 < m5 := by rw [HQ.out, decide_eq_true_iff] at hq; exact hq
            have hmI : (0 : Int) < (m5 : Int) := by omega
            have D1 := D1.up C2
            clear hq
            have hDlt := D1.lt
            have d0 := D1.cell 0; have d1 := D1.cell 1; have d2 := D1.cell 2
            simp only [List.getElem?_cons_zero, List.getElem?_cons_succ] at d0 d1 d2
            have f0 := D1.frozen 0; have f1 := D1.frozen 1; have f2 := D1.frozen 2
            have V := ((D1.set_ 0 (.string p)).set_ 1 (.int .i64 2)).set_ 2 (.int .i64 (k : Int))
            have v0 := V.cell 0; have v1 := V.cell 1; have v2 := V.cell 2
            simp only [List.set_cons_zero, List.set_cons_succ, List.getElem?_cons_zero, List.getElem?_cons_succ] at v0 v1 v2
            clear V
            go_wp2_with fail
            refine bodyPost_ret (v := .tuple #[.agg #[.string p, .int .i64 2, .int .i64 (k : Int)], .bool true]) (by simp [results, Tryz.results152, go_sem, v0, v1, v2]) rfl ?_
            exact CutR.mk _ _ _ true rfl e2.out (by with_reducible (first | exact fin.out _ _ _ _ (by assumption) hDlt | exact below_drewN (fin.out _ _ _ _ (by assumption) hDlt) _ | exact (fin.out _ _ _ _ (by assumption) hDlt).drew))
        · obtain rfl : k = p.size := by omega
          have hI2 : ¬ (p.size : Int) < (p.size : Int) := by omega
          have e2 := Lib.hid (CF.out HZ.out HPN.out HLO.out)
          have V := ((D1.set_ 0 (.string ⟨#[]⟩)).set_ 1 (.int .i64 0)).set_ 2 (.int .i64 0)
          have v0 := V.cell 0; have v1 := V.cell 1; have v2 := V.cell 2
          simp only [List.set_cons_zero, List.set_cons_succ, List.getElem?_cons_zero, List.getElem?_cons_succ] at v0 v1 v2
          clear V
          go_wp2_with fail
          refine bodyPost_ret (v := .tuple #[.agg #[.string ⟨#[]⟩, .int .i64 0, .int .i64 0], .bool false]) (by simp [results, Tryz.results152, go_sem, v0, v1, v2]) rfl ?_
          exact CutR.mk _ _ _ false rfl e2.out (by with_reducible (first | exact fin.out _ _ _ _ (by assumption) hDlt | exact below_drewN (fin.out _ _ _ _ (by assumption) hDlt) _ | exact (fin.out _ _ _ _ (by assumption) hDlt).drew))
theorem pfx_comm (N : Nat) (p : ByteArray) : pfxB N p = pfxB N p := rfl
set_option maxHeartbeats 4000000 in
set_option maxRecDepth 100000 in
theorem spec_l13IsCut {A : Option Addr} {n c st : Nat} {nm : ByteArray} {l : List ByteArray} {kb ks s : ByteArray} {N : Nat} {x y : Int} {w : World} (hn : l.length = n) (h : Strs w A l) (hz : n ≤ 1048576) (hs : ∀ s ∈ l, s.size ≤ 16777216) (hnm : nm.size ≤ 16777216) (h9 : st ≤ 1000) (hk : goodK nm (st : Int) l kb ks = true) (hN : N ≤ 60) (hsz : s.size ≤ 16777216) (hcap : n ≤ c) :
    Calls Tryz.prog 78 #[.agg #[.string nm, .int .i64 st, .slice A n c], .agg #[.string kb, .string ks], .int .i64 (N : Int), .agg #[.string s, .int .i64 x, .int .i64 y]] w fun e w' => e = .returned (.bool (jusB (cutF st l kb ks N) N (s, x, y))) ∧ Below w.heap.size w w' := by
  have b0 : Below w.heap.size w (((w.alloc (.cells ⟨[.string nm, .int .i64 st, .slice A n c]⟩ 25)).alloc (.cells ⟨[.string kb, .string ks]⟩ 27)).alloc (.cells #[.string s, .int .i64 x, .int .i64 y] 29)) := by (repeat' (first | (with_reducible exact Below.refl _ _) | (with_reducible assumption) | (with_reducible refine below_drewN ?_ _) | (with_reducible refine Below.drew ?_) | (with_reducible refine below_alloc ?_ _) | (with_reducible refine Below.alloc ?_ ?_ _) | (with_reducible refine Below.setCell ?_ ?_ _) | (with_reducible refine below_go ?_ (by with_reducible assumption)) | (with_reducible refine below_then (by with_reducible assumption) ?_ ?_) | go_size))
  have K1 := ((Blk.at_ w 25 [.string nm, .int .i64 st, .slice A n c] (b := w.heap.size) rfl).alloc (.cells ⟨[.string kb, .string ks]⟩ 27)).alloc (.cells #[.string s, .int .i64 x, .int .i64 y] 29)
  have J1 := (Blk.at_ (w.alloc (.cells ⟨[.string nm, .int .i64 st, .slice A n c]⟩ 25)) 27 [.string kb, .string ks] (b := w.heap.size + 1) (by simp)).alloc (.cells #[.string s, .int .i64 x, .int .i64 y] 29)
  have D1 := Blk.at_ ((w.alloc (.cells ⟨[.string nm, .int .i64 st, .slice A n c]⟩ 25)).alloc (.cells ⟨[.string kb, .string ks]⟩ 27)) 29 [.string s, .int .i64 x, .int .i64 y] (b := w.heap.size + 1 + 1) (by simp)
  have HS := Lib.hid (h.up b0)
  have HPF := Lib.hid (@jus_f (cutF st l kb ks N) N (s, x, y))
  clear h
  go_in
  go_wp2_with fail
  obtain ⟨w0, hw0⟩ : ∃ u, u = (((w.alloc (.cells #[.string nm, .int .i64 st, .slice A n c] 25)).alloc (.cells #[.string kb, .string ks] 27)).alloc (.cells #[.string s, .int .i64 x, .int .i64 y] 29)) := ⟨_, rfl⟩
  rw [← hw0] at b0 K1 J1 D1 HS ⊢
  clear hw0
  obtain ⟨M, hM⟩ : ∃ u, u = w.heap.size := ⟨_, rfl⟩
  rw [← hM] at K1 J1 D1 ⊢
  clear hM
  refine (spec_l13Prefix hsz (by omega)).mono ?_; rintro e w1 ⟨rfl, rfl⟩
  rcases hpf : pfxB N s
  · have e2 := Lib.hid (HPF.out hpf)
    go_wp2
    go_ret
    rw [e2.out]
    exact ⟨rfl, b0⟩
  · have HP := Lib.hid hpf
    clear hpf
    have kc0 := K1.cell 0; have kc1 := K1.cell 1; have kc2 := K1.cell 2; have jc0 := J1.cell 0; have jc1 := J1.cell 1
    simp only [List.getElem?_cons_zero, List.getElem?_cons_succ] at kc0 kc1 kc2 jc0 jc1
    have d0 := D1.cell 0; have d1 := D1.cell 1; have d2 := D1.cell 2
    simp only [List.getElem?_cons_zero, List.getElem?_cons_succ] at d0 d1 d2
    have hpp := pfx_pre HP.out hN
    have HJN := Lib.hid (fun hq => @jus_none (cutF st l kb ks N) N (s, x, y) hq)
    have HJS := Lib.hid (fun (t : ByteArray) (a b : Int) hq => @jus_some (cutF st l kb ks N) N s t x y a b HP.out hq (cut_fst s _ hq))
    obtain ⟨cu, hcu⟩ : ∃ u, u = cutF st l kb ks N s := ⟨_, rfl⟩
    have HCU := Lib.hid hcu
    clear hcu
    go_wp2_with fail
    refine (spec_l13Cut (nm := nm) hn HS.out hz hs hnm h9 hk hpp.1 (by omega) hcap).mono ?_; rw [← HCU.out]; intro e w2 hx
    obtain ⟨s2, x2, y2, rfl, hz2, hb2⟩ := hx
    have D2 := D1.up hb2
    have HZ2 := Lib.hid hz2
    clear hz2 d0 d1 d2 D1 kc0 kc1 kc2 jc0 jc1
    have d0 := D2.cell 0; have d1 := D2.cell 1; have d2 := D2.cell 2
    simp only [List.getElem?_cons_zero, List.getElem?_cons_succ] at d0 d1 d2
    have hDlt := D2.lt
    have hDne : ¬ M + 1 + 1 = w2.heap.size := by omega
    have D3 := D2.alloc (.cells #[.string s2, .int .i64 x2, .int .i64 y2] 29)
    have c0 := D3.cell 0; have c1 := D3.cell 1; have c2 := D3.cell 2
    simp only [List.getElem?_cons_zero, List.getElem?_cons_succ] at c0 c1 c2
    have b3 : Below w2.heap.size w2 (w2.alloc (.cells #[.string s2, .int .i64 x2, .int .i64 y2] 29)) := by (repeat' (first | (with_reducible exact Below.refl _ _) | (with_reducible assumption) | (with_reducible refine below_drewN ?_ _) | (with_reducible refine Below.drew ?_) | (with_reducible refine below_alloc ?_ _) | (with_reducible refine Below.alloc ?_ ?_ _) | (with_reducible refine Below.setCell ?_ ?_ _) | (with_reducible refine below_go ?_ (by with_reducible assumption)) | (with_reducible refine below_then (by with_reducible assumption) ?_ ?_) | go_size))
    have B3 := below_go (below_go b0 hb2) b3
    rcases cu with _ | ⟨t, a, b⟩
    · have e2 := Lib.hid (HJN.out HCU.out.symm)
      go_wp2
      go_ret
      rw [e2.out]
      exact ⟨rfl, B3⟩
    · have e3 := HZ2.out _ rfl
      injection e3 with e3 e4
      injection e4 with e4 e5
      subst e3 e4 e5
      have e2 := Lib.hid (HJS.out t a b HCU.out.symm)
      obtain rfl : t = s := cut_fst s _ HCU.out.symm
      rw [show ((x == a) && (y == b)) = ((a == x) && (b == y)) by rw [Bool.eq_iff_iff, Bool.and_eq_true, Bool.and_eq_true, beq_iff_eq, beq_iff_eq, beq_iff_eq, beq_iff_eq, eq_comm, eq_comm (a := y)]] at e2
      by_cases h1 : a = x
      · have i1 : (a == x) = true := beq_iff_eq.2 h1
        by_cases h2 : b = y
        · have i2 : (b == y) = true := beq_iff_eq.2 h2
          have I1 := Lib.hid i1; have I2 := Lib.hid i2
          subst h1 h2
          clear i1 i2
          go_wp2
          go_ret
          rw [e2.out, I1.out, I2.out]
          exact ⟨rfl, B3⟩
        · have i2 : (b == y) = false := beq_eq_false_iff_ne.2 h2
          have I1 := Lib.hid i1; have I2 := Lib.hid i2
          subst h1
          clear i1
          go_wp2
          go_ret
          rw [e2.out, I1.out, I2.out]
          exact ⟨rfl, B3⟩
      · have i1 : (a == x) = false := beq_eq_false_iff_ne.2 h1
        have I1 := Lib.hid i1
        go_wp2
        go_ret
        rw [e2.out, I1.out]
        exact ⟨rfl, B3⟩
set_option maxHeartbeats 4000000 in
set_option maxRecDepth 100000 in
theorem spec_IsCut {A : Option Addr} {n c st : Nat} {nm : ByteArray} {l : List ByteArray} {kb ks s : ByteArray} {N : Nat} {x y : Int} {w : World} (hn : l.length = n) (h : Strs w A l) (hz : n ≤ 1048576) (hs : ∀ s ∈ l, s.size ≤ 16777216) (hnm : nm.size ≤ 16777216) (h9 : st ≤ 1000) (hkb : kb.size ≤ 16777216) (hks : ks.size ≤ 16777216) (hN : N ≤ 1000) (hsz : s.size ≤ 16777216) (hcap : n ≤ c) :
    Calls Tryz.prog 11 #[.agg #[.string nm, .int .i64 st, .slice A n c], .agg #[.string kb, .string ks], .int .i64 (N : Int), .agg #[.string s, .int .i64 x, .int .i64 y]] w fun e w' => e = .returned (.tuple #[.bool (icV nm st l kb ks N (s, x, y)), .bool (askS nm st l kb ks N)]) ∧ Below w.heap.size w w' := by
  have HQ : Hid (icV nm st l kb ks N (s, x, y) = (askS nm st l kb ks N && jusB (cutF st l kb ks N) N (s, x, y))) := Lib.hid rfl
  have HT := Lib.hid (@askS_t nm st l kb ks N)
  have b0 : Below w.heap.size w (((w.alloc (.cells ⟨[.string nm, .int .i64 st, .slice A n c]⟩ 25)).alloc (.cells ⟨[.string kb, .string ks]⟩ 27)).alloc (.cells #[.string s, .int .i64 x, .int .i64 y] 29)) := by (repeat' (first | (with_reducible exact Below.refl _ _) | (with_reducible assumption) | (with_reducible refine below_drewN ?_ _) | (with_reducible refine Below.drew ?_) | (with_reducible refine below_alloc ?_ _) | (with_reducible refine Below.alloc ?_ ?_ _) | (with_reducible refine Below.setCell ?_ ?_ _) | (with_reducible refine below_go ?_ (by with_reducible assumption)) | (with_reducible refine below_then (by with_reducible assumption) ?_ ?_) | go_size))
  have K0 := ((Blk.at_ w 25 [.string nm, .int .i64 st, .slice A n c] (b := w.heap.size) rfl).alloc (.cells ⟨[.string kb, .string ks]⟩ 27)).alloc (.cells #[.string s, .int .i64 x, .int .i64 y] 29)
  have J0 := (Blk.at_ (w.alloc (.cells ⟨[.string nm, .int .i64 st, .slice A n c]⟩ 25)) 27 [.string kb, .string ks] (b := w.heap.size + 1) (by simp)).alloc (.cells #[.string s, .int .i64 x, .int .i64 y] 29)
  have D0 := Blk.at_ ((w.alloc (.cells ⟨[.string nm, .int .i64 st, .slice A n c]⟩ 25)).alloc (.cells ⟨[.string kb, .string ks]⟩ 27)) 29 [.string s, .int .i64 x, .int .i64 y] (b := w.heap.size + 1 + 1) (by simp)
  have H0 := h.up b0
  clear h
  go_in
  go_wp2_with fail
  refine (spec_l13Asked (nm := nm) hn H0 hz hs hnm h9 hkb hks hN).mono ?_; rintro e w1 ⟨rfl, hb1⟩
  have K1 := K0.up hb1
  have J1 := J0.up hb1
  have D1 := D0.up hb1
  have H1 := Lib.hid (H0.up hb1)
  have B1 := below_go b0 hb1
  clear K0 J0 D0 H0 b0 hb1
  rcases hg : askS nm st l kb ks N
  · have e2 := Lib.hid hg
    go_wp2
    go_ret2
    rw [HQ.out, e2.out]
    exact ⟨rfl, B1⟩
  · have e2 := Lib.hid hg
    obtain ⟨hk, hN1, hN6⟩ := HT.out hg
    clear hg
    have kc0 := K1.cell 0; have kc1 := K1.cell 1; have kc2 := K1.cell 2; have jc0 := J1.cell 0; have jc1 := J1.cell 1
    simp only [List.getElem?_cons_zero, List.getElem?_cons_succ] at kc0 kc1 kc2 jc0 jc1
    have d0 := D1.cell 0; have d1 := D1.cell 1; have d2 := D1.cell 2
    simp only [List.getElem?_cons_zero, List.getElem?_cons_succ] at d0 d1 d2
    go_wp2_with fail
    refine (spec_l13IsCut (nm := nm) (s := s) (x := x) (y := y) hn H1.out hz hs hnm h9 hk (by omega) hsz hcap).mono ?_; rintro e w4 ⟨rfl, hb4⟩
    go_wp2
    go_ret2
    rw [HQ.out, e2.out, Bool.true_and]
    exact ⟨rfl, below_go B1 hb4⟩
end Go.Proofs.YtidolgonmimicaaGreat
namespace Go.Proofs.YtidolgonmimicaaGreat
open Go.ChangeShapes Go.WideShapes Go.ChangeAt Go.RowKit Go.Deep
set_option maxHeartbeats 1000000 in
theorem spec_l9EndP {A : Option Addr} {n c st : Nat} {nm : ByteArray} {l : List ByteArray} {kb ks : ByteArray} {t : ByteArray} {w : World} (hn : l.length = n) (h : Strs w A l) (hk : goodK nm (st : Int) l kb ks = true) (hg : goodT t = true) (hcap : n ≤ c) :
    Calls Tryz.prog 89 #[.agg #[.string nm, .int .i64 st, .slice A n c], .agg #[.string kb, .string ks], .string t] w fun e w' => e = .returned (.string (hdAt st l kb ks t t.size)) ∧ Below w.heap.size w w' := by
  have b0 : Below w.heap.size w ((w.alloc (.cells ⟨[.string nm, .int .i64 st, .slice A n c]⟩ 25)).alloc (.cells ⟨[.string kb, .string ks]⟩ 27)) := by (repeat' (first | (with_reducible exact Below.refl _ _) | (with_reducible assumption) | (with_reducible refine below_drewN ?_ _) | (with_reducible refine Below.drew ?_) | (with_reducible refine below_alloc ?_ _) | (with_reducible refine Below.alloc ?_ ?_ _) | (with_reducible refine Below.setCell ?_ ?_ _) | (with_reducible refine below_go ?_ (by with_reducible assumption)) | (with_reducible refine below_then (by with_reducible assumption) ?_ ?_) | go_size))
  have hH := Lib.hid (hdsL_at (st := st) (l := l) (b := kb) (s := ks) (t := t) (k := t.size + 1) (j := t.size) (by omega))
  have hts : t.size ≤ 60 := (goodT_t hg).2.1
  go_in
  go_wp2_with fail
  refine (spec_l9Heads hn (h.up b0) hk hg hcap).mono ?_; rintro e w1 ⟨A1, c1, rfl, ho, hb1⟩
  obtain ⟨g, rfl, _, _, gc, _⟩ := ho.at_ (by omega)
  have cg := gc t.size _ 0 _ hH.out rfl
  simp only [Nat.mul_one, Nat.add_zero] at cg
  have hI : (t.size : Int) < ((t.size + 1 : Nat) : Int) := by omega
  clear gc
  go_wp2
  go_ret
  exact ⟨rfl, below_go b0 hb1⟩
end Go.Proofs.YtidolgonmimicaaGreat
namespace Go.Proofs
open Go.Shelf
def Tryz.laysNm226_ren : Go.Shelf.Ren := ⟨fun | 26 => 206 | 33 => 232 | 34 => 233 | 38 => 255 | n => n, fun | 24 => 23 | 9 => 9 | 3 => 3 | 4 => 4 | 40 => 149 | 0 => 0 | n => n, fun | n => n⟩
theorem Tryz.laysNm226 : Go.Proofs.Lays2.n26 Tryz.prog Tryz.laysNm226_ren := {
  mixed := by kernel_rfl
  f26 := Tryz.func206.trans (congrArg some (by kernel_rfl))
  f33 := Tryz.func232.trans (congrArg some (by kernel_rfl))
  f34 := Tryz.func233.trans (congrArg some (by kernel_rfl))
  f38 := Tryz.func255.trans (congrArg some (by kernel_rfl))
  t0 := Tryz.underlying0
  a0 := Tryz.isAgg0
  z0 := Tryz.sizeOf0
  v0 := Tryz.zeroValue0
  t3 := Tryz.underlying3
  a3 := Tryz.isAgg3
  z3 := Tryz.sizeOf3
  v3 := Tryz.zeroValue3
  t4 := Tryz.underlying4
  a4 := Tryz.isAgg4
  z4 := Tryz.sizeOf4
  v4 := Tryz.zeroValue4
  t9 := Tryz.underlying9
  a9 := Tryz.isAgg9
  z9 := Tryz.sizeOf9
  v9 := Tryz.zeroValue9
  t24 := Tryz.underlying23
  a24 := Tryz.isAgg23
  z24 := Tryz.sizeOf23
  v24 := Tryz.zeroValue23
  t40 := Tryz.underlying149
  a40 := Tryz.isAgg149
  z40 := Tryz.sizeOf149
  v40 := Tryz.zeroValue149 }
theorem Tryz.slices_BinarySearch_string (b off n c : Nat) (Sx : Nat → ByteArray) (x : ByteArray) (w : World) (hbig : n < 4611686018427387904) (hc : ∀ j, j < n → w.cell? ⟨b, off + j, none⟩ = some (.string (Sx j))) :
    Calls Tryz.prog 206 #[.slice (some ⟨b, off, none⟩) n c, .string x] w fun e w' =>
      e = .returned (.tuple #[.int .i64 (Lib.bsGo (fun t => Op.bytesLess (Sx t).toList x.toList) n 0 n : Nat), .bool (decide (Lib.bsGo (fun t => Op.bytesLess (Sx t).toList x.toList) n 0 n < n ∧ Sx (Lib.bsGo (fun t => Op.bytesLess (Sx t).toList x.toList) n 0 n) = x))]) ∧ ∃ q, w' = w.drewN q := Any2.slices_BinarySearch_string Tryz.laysNm226 b off n c Sx x w hbig hc
theorem Tryz.slices_BinarySearch_string_empty (a : Option Addr) (c : Nat) (x : ByteArray) (w : World) :
    Calls Tryz.prog 206 #[.slice a 0 c, .string x] w fun e w' => e = .returned (.tuple #[.int .i64 0, .bool false]) ∧ w' = w := Any2.slices_BinarySearch_string_empty Tryz.laysNm226 a c x w
end Go.Proofs
namespace Go.Proofs.YtidolgonmimicaaGreat
open Go.ChangeShapes Go.WideShapes Go.ChangeAt Go.RowKit Go.Deep
open Go.Maps (Keyed string_keyed)
open Go.WideMaps (keyOf_string_mk)
theorem pre_at {α : Type} {l m : List α} {k : Nat} {x : α} (h : l <+: m) (hx : l[k]? = some x) : m[k]? = some x := by
  obtain ⟨t, rfl⟩ := h
  rw [List.getElem?_append_left (List.getElem?_eq_some_iff.1 hx).1]; exact hx
theorem pre_len {α : Type} {l m : List α} (h : l <+: m) : l.length ≤ m.length := h.length_le
theorem wpList_set_ins {P : Program} {ops : Array Oper} {rest : List Oper} {o : Oper} {a : Act} {Q : Exit → Act → World → Prop} {W : World} (hgd : o.guard = none) (M X V : Operand) (t : TypeId) (hop : o.op = Op.insert t M X V)
    {k e : TypeId} (K : Keyed P k) (ht : P.underlying t = some (.map k e)) (he : P.underlying e = some .bool) {b n : Nat} {S : List Value} (hm : a.eval M = .map (some b)) (h : SetOf P W k e b n S) (hn : n ≤ 16777216) {key : Value} (hx : a.eval X = key) (hv : a.eval V = .bool true)
    {kl : Lit} (hkey : keyOf P k key = some kl) (hK : ∀ w', SetOf P w' k e b (n + 1) (key :: S) → W.grownBy w' (some b) → wpList P ops Q rest (a.put o.dst undef) w') : wpList P ops Q (o :: rest) a W := by
  obtain ⟨D, h1, h2⟩ := h
  obtain ⟨w', hrun, hown, hg⟩ := h1.update K ht (by unfold maxLen; omega) hkey (plainElem_bool he true)
  refine wpList_plain hgd fun K' hK' => ?_
  unfold Oper.wp
  simp [execOp, hop, hm, hx, hv, hrun, Result.andThen]
  refine hK' _ _ (hK w' ⟨_, hown, fun key' kl' hk' => ?_⟩ hg)
  by_cases ek : kl' = kl
  · subst ek
    have e1 : key' = key := K.inj hk' hkey
    subst e1
    rw [Maps.atKey_put_same h1.isMap (K.key hkey)]
    exact ⟨fun _ => rfl, fun hne => absurd (List.mem_cons_self ..) hne⟩
  · have e1 : key' ≠ key := fun e2 => ek (by rw [e2, hkey] at hk'; injection hk' with hk'; exact hk'.symm)
    rw [Maps.atKey_put_other ek]
    obtain ⟨a1, a2⟩ := h2 key' kl' hk'
    refine ⟨fun hi => a1 ?_, fun hi => a2 (fun hc => hi (List.mem_cons_of_mem _ hc))⟩
    rcases List.mem_cons.1 hi with hi | hi
    · exact absurd hi e1
    · exact hi
def keysS (L : List ByteArray) : List Value := (L.map strV).reverse
theorem keysS_mem {s : ByteArray} {L : List ByteArray} : strV s ∈ keysS L ↔ s ∈ L := by rw [keysS, List.mem_reverse, strV_mem]
theorem keysS_snoc (L : List ByteArray) (s : ByteArray) : keysS (L ++ [s]) = strV s :: keysS L := by rw [keysS, keysS, List.map_append, List.reverse_append]; rfl
end Go.Proofs.YtidolgonmimicaaGreat
namespace Go.Proofs.YtidolgonmimicaaGreat
open Go.ChangeShapes Go.WideShapes Go.ChangeAt Go.RowKit Go.Deep
theorem first_false (f : Nat → Bool) : ∀ n, f n = false → ∃ k, k ≤ n ∧ (∀ t, t < k → f t = true) ∧ f k = false
  | 0, h => ⟨0, Nat.le_refl _, fun t ht => absurd ht (by omega), h⟩
  | n + 1, h => by
    by_cases hb : ∃ k, k ≤ n ∧ f k = false
    · obtain ⟨j, hj, hf⟩ := hb
      obtain ⟨k, hk, h1, h2⟩ := first_false (fun t => if t < j then f t else false) n (by simp [show ¬ n < j by omega])
      by_cases hkj : k < j
      · refine ⟨k, by omega, fun t ht => ?_, by simpa [hkj] using h2⟩
        have := h1 t ht
        simpa [show t < j by omega] using this
      · refine ⟨j, by omega, fun t ht => ?_, hf⟩
        have := h1 t (by omega)
        simpa [ht] using this
    · refine ⟨n + 1, Nat.le_refl _, fun t ht => ?_, h⟩
      rcases hc : f t with _ | _
      · exact absurd ⟨t, by omega, hc⟩ hb
      · rfl
theorem srt_le {l : List ByteArray} (h : Srt l) {i j : Nat} {x y : ByteArray} (hij : i < j) (hx : l[i]? = some x) (hy : l[j]? = some y) : less y x = false := by
  obtain ⟨h1, e1⟩ := List.getElem?_eq_some_iff.1 hx
  obtain ⟨h2, e2⟩ := List.getElem?_eq_some_iff.1 hy
  have := (List.pairwise_iff_getElem.1 h) i j h1 h2 hij
  rw [e1, e2, leS] at this
  rcases hc : less y x with _ | _
  · rfl
  · rw [hc] at this; cases this
theorem search_in {l : List ByteArray} {s : ByteArray} (h : Srt l) : decide (Lib.bsGo (fun t => less (l.getD t s) s) l.length 0 l.length < l.length ∧ l.getD (Lib.bsGo (fun t => less (l.getD t s) s) l.length 0 l.length) s = s) = inL l s := by
  have hout : ∀ t, l.length ≤ t → less (l.getD t s) s = false := fun t ht => by rw [List.getD, List.getElem?_eq_none ht]; exact less_irr s
  obtain ⟨k, hk, h1, h2⟩ := first_false (fun t => less (l.getD t s) s) l.length (hout _ (Nat.le_refl _))
  have h3 : ∀ t, k ≤ t → less (l.getD t s) s = false := fun t ht => by
    rcases Nat.lt_or_ge t l.length with hl | hl
    · rcases Nat.lt_or_ge k t with hkt | hkt
      · rcases hc : less (l.getD t s) s with _ | _
        · rfl
        · have hy := List.getElem?_eq_getElem hl
          have hx := List.getElem?_eq_getElem (show k < l.length by omega)
          have hle := srt_le h hkt hx hy
          have e1 : l.getD k s = l[k] := by rw [List.getD, hx]; rfl
          have e2 : l.getD t s = l[t] := by rw [List.getD, hy]; rfl
          rw [e1] at h2
          rw [e2] at hc
          rcases less_tri l[k] l[t] with h4 | h4 | h4
          · have := less_trans h4 hc
            rw [h2] at this; cases this
          · rw [h4, hc] at h2; cases h2
          · rw [hle] at h4; cases h4
      · obtain rfl : t = k := by omega
        exact h2
    · exact hout t hl
  rw [Lib.bsGo_spec _ k h1 h3 l.length 0 l.length (by omega) (by omega) hk]
  rw [Bool.eq_iff_iff, decide_eq_true_iff, inL_iff]
  constructor
  · rintro ⟨hl, e⟩
    rw [List.getD, List.getElem?_eq_getElem hl] at e
    rw [← e]; exact List.getElem_mem hl
  · intro hm
    obtain ⟨j, hj⟩ := List.getElem?_of_mem hm
    have hjl := (List.getElem?_eq_some_iff.1 hj).1
    have hkj : k ≤ j := by
      rcases Nat.lt_or_ge j k with hc | hc
      · have := h1 j hc
        rw [List.getD, hj] at this
        have h5 : less s s = true := this
        rw [less_irr] at h5; cases h5
      · exact hc
    refine ⟨by omega, ?_⟩
    rcases Nat.lt_or_ge k j with hc | hc
    · have hx := List.getElem?_eq_getElem (show k < l.length by omega)
      have hle := srt_le h hc hx hj
      have e1 : l.getD k s = l[k] := by rw [List.getD, hx]; rfl
      rw [e1] at h2 ⊢
      rcases less_tri l[k] s with h4 | h4 | h4
      · rw [h2] at h4; cases h4
      · exact h4
      · rw [hle] at h4; cases h4
    · obtain rfl : j = k := by omega
      rw [List.getD, hj]; rfl
theorem search_strs {A : Option Addr} {N c : Nat} {l : List ByteArray} {s : ByteArray} {w : World} (hN : l.length = N) (h : Strs w A l) (hz : N ≤ 16777216) (hs : Srt l) :
    Calls Tryz.prog 206 #[.slice A N c, .string s] w fun e w' => ∃ i : Int, e = .returned (.tuple #[.int .i64 i, .bool (inL l s)]) ∧ ∃ q, w' = w.drewN q := by
  subst hN
  rcases Nat.eq_zero_or_pos l.length with h0 | h0
  · have e := List.eq_nil_of_length_eq_zero h0
    subst e
    refine (Tryz.slices_BinarySearch_string_empty A c s w).mono ?_
    rintro e w' ⟨rfl, rfl⟩
    exact ⟨0, rfl, 0, rfl⟩
  · obtain ⟨b, o, y, rfl, _, _, _⟩ := h.at_str h0
    refine (Tryz.slices_BinarySearch_string b o l.length c (fun t => l.getD t s) s w (by omega) (fun j hj => ?_)).mono ?_
    · obtain ⟨b2, o2, x, e, _, hx, hcx⟩ := h.at_str hj
      injection e with e
      injection e with e1 e2
      subst e1 e2
      rw [hcx, List.getD, hx]; rfl
    · rintro e w' ⟨rfl, hq⟩
      have hin := search_in (s := s) hs
      rw [← hin]
      exact ⟨_, rfl, hq⟩
theorem impl_has {A : Option Addr} {N c : Nat} {l : List ByteArray} {s : ByteArray} {w : World} (hN : l.length = N) (h : Strs w A l) (hz : N ≤ 16777216) (hs : Srt l) :
    Calls Tryz.prog 146 #[.slice A N c, .string s] w fun e w' => e = .returned (.bool (inL l s)) ∧ Below w.heap.size w w' := by
  go_in
  go_wp2_with fail
  refine (search_strs hN h hz hs).mono ?_; rintro e w1 ⟨i, rfl, q, rfl⟩
  go_wp2
  go_ret
  exact ⟨rfl, by (repeat' (first | (with_reducible exact Below.refl _ _) | (with_reducible assumption) | (with_reducible refine below_drewN ?_ _) | (with_reducible refine Below.drew ?_) | (with_reducible refine below_alloc ?_ _) | (with_reducible refine Below.alloc ?_ ?_ _) | (with_reducible refine Below.setCell ?_ ?_ _) | (with_reducible refine below_go ?_ (by with_reducible assumption)) | (with_reducible refine below_then (by with_reducible assumption) ?_ ?_) | go_size))⟩
set_option maxHeartbeats 1000000 in
set_option maxRecDepth 100000 in
theorem impl_powers {a : ByteArray} {n : Nat} {w : World} (hg : RowN n a) :
    Calls Tryz.prog 205 #[.string a] w fun e w' => ∃ m A' c', e = .returned (.slice A' m c') ∧ 1 ≤ m ∧ m ≤ 40320 ∧ pwS n a m = roundsS n ∧ Owned strE 1 9 w' w.heap.size A' m c' (pwL n a m) ∧ Below w.heap.size w w' := by
  obtain ⟨h3, h8⟩ := hg.st
  have h40 : fact n ≤ 40320 := fact_le8 h8
  have hsz := hg.2
  have HG := Lib.hid hg
  have ha16 : a.size ≤ 16777216 := by omega
  clear hg
  go_in
  go_wp2_with (first | (go_at_call 105; refine (impl_rounds h8).mono ?_; rintro e w' ⟨rfl, rfl⟩))
  have ho0 := Lib.hid (own_lit1_at' strE_len w 9 (roundsS n) rfl (Nat.le_refl _))
  go_loopw [3, 4] (fun v p wr => ∃ (k : Nat) (A' : Option Addr) (c' : Nat), 1 ≤ k ∧ v = .slice A' k c' ∧ p = .string (pwS n a k) ∧ Hid (∀ j, 1 ≤ j → j < k → pwS n a j ≠ roundsS n) ∧ Hid (Owned strE 1 9 wr w.heap.size A' k c' (pwL n a k)) ∧ Below w.heap.size w wr) (fun v _ _ => 40321 - slLen v)
  case atStart => exact ⟨1, _, _, Nat.le_refl _, rfl, by rw [pw_one HG.out], Lib.hid (fun j h1 h2 => absurd h1 (by omega)), ho0, by (repeat' (first | (with_reducible exact Below.refl _ _) | (with_reducible assumption) | (with_reducible refine below_drewN ?_ _) | (with_reducible refine Below.drew ?_) | (with_reducible refine below_alloc ?_ _) | (with_reducible refine Below.alloc ?_ ?_ _) | (with_reducible refine Below.setCell ?_ ?_ _) | (with_reducible refine below_go ?_ (by with_reducible assumption)) | (with_reducible refine below_then (by with_reducible assumption) ?_ ?_) | go_size))⟩
  case round =>
    obtain ⟨k, A1, c1, hk, rfl, rfl, HK, HO, hb⟩ := hrel
    have hle : k ≤ 40320 := Nat.le_trans (pwL_le HG.out HK.out) h40
    obtain ⟨b1, rfl, hb1lo, _, gc, _⟩ := HO.out.at_ (by omega)
    have hc0 := gc 0 (roundsS n) 0 _ (by rw [pwL, List.getElem?_map, List.getElem?_range (by omega)]; rfl) rfl
    simp only [Nat.zero_mul, Nat.add_zero] at hc0
    have hpN := pw_row HG.out k
    have HPS := Lib.hid (show pwS n a (k + 1) = timesS (pwS n a k) a from rfl)
    have HLS := Lib.hid (pwL_succ n a k)
    have hft := rowN_fits hpN HG.out
    obtain ⟨p, hp⟩ : ∃ p, p = pwS n a k := ⟨_, rfl⟩
    have HP := Lib.hid hp
    rw [← hp] at hpN hft
    rw [← hp]
    have hps : p.size ≤ 16777216 := by rw [hpN.2]; omega
    clear gc
    by_cases he : p = roundsS n
    · have HE := Lib.hid (show pwS n a k = roundsS n by rw [← hp, he])
      have hbe : (p.toList == (roundsS n).toList) = true := by rw [he]; simp
      clear hp he
      go_wp2
      go_ret
      exact ⟨k, _, _, rfl, hk, hle, HE.out, HO.out, hb⟩
    · have hbe := bytes_ne he
      have HK2 := Lib.hid (show ∀ j, 1 ≤ j → j < k + 1 → pwS n a j ≠ roundsS n from fun j h1 h2 => by
        rcases Nat.lt_or_ge j k with h4 | h4
        · exact HK.out j h1 h4
        · obtain rfl : j = k := by omega
          rw [← hp]; exact he)
      have hle2 : k + 1 ≤ 40320 := Nat.le_trans (pwL_le HG.out HK2.out) h40
      clear hp he
      have hszr := hb.size
      go_wp2_with (first | (at_builtin; go_must ((refine wpList_append_recs Tryz.elStr strE_one rfl (.tmp 18) (.tmp 20) rfl rfl (HO.out.alloc _) rfl (own_lit1_at' strE_len _ 9 p rfl (Nat.le_refl _)).recs rfl ?_ (by decide) ?_ ?_; (focus (first | omega | (simp only [World.size_alloc]; done) | (simp only [World.size_alloc]; omega) | (simp; done) | (simp; omega))); (focus (first | omega | (simp only [World.size_alloc]; done) | (simp only [World.size_alloc]; omega) | (simp; done) | (simp; omega))); intro A3 c3 w6 ho6 hg6 hl6))) | (go_at_call 123; refine (impl_times hps ha16 hft).mono ?_; rintro e w7 ⟨rfl, hb7⟩))
      have hb6 : Below w.heap.size w w6 := (hb.alloc hszr _).trans (grown_base hg6 (by simp; omega) (fun k hk => by injection hk with hk; dsimp only at hk; omega))
      go_roundw
      case rel => exact ⟨k + 1, A3, c3, by omega, rfl, by rw [HPS.out, HP.out], HK2, Lib.hid (by rw [HLS.out, ← HP.out]; exact ho6.up hb7), below_go hb6 hb7⟩
      case measure => simp [slLen]; omega
end Go.Proofs.YtidolgonmimicaaGreat
namespace Go.Proofs.YtidolgonmimicaaGreat
open Go.ChangeShapes Go.WideShapes Go.ChangeAt Go.RowKit Go.Deep
def IsOrd (n : Nat) (e : ByteArray) (m : Nat) : Prop := 1 ≤ m ∧ pwS n e m = roundsS n ∧ ∀ k, 1 ≤ k → k < m → pwS n e k ≠ roundsS n
theorem IsOrd.uniq {n m k : Nat} {e : ByteArray} (h : IsOrd n e m) (g : IsOrd n e k) : m = k := by
  rcases Nat.lt_trichotomy m k with q | q | q
  · exact absurd h.2.1 (g.2.2 m h.1 q)
  · exact q
  · exact absurd g.2.1 (h.2.2 k g.1 q)
theorem mul_assoc' {n : Nat} {x y z : ByteArray} (hx : RowN n x) (hy : RowN n y) (hz : RowN n z) : timesS x (timesS y z) = timesS (timesS x y) z := times_assoc hx.1 hy.1 hz.1 (by rw [hx.2, hy.2]) (by rw [hy.2, hz.2])
theorem mul_rounds {n : Nat} {x : ByteArray} (hx : RowN n x) : timesS x (roundsS n) = x := by
  have := times_rounds hx.1
  rwa [hx.2] at this
theorem turn_mul {n : Nat} {x : ByteArray} (hx : RowN n x) : timesS (turnS x) x = roundsS n := by
  have := times_turn (turn_rowN hx)
  rwa [turn_turn hx] at this
theorem mul_left {n : Nat} {p x y : ByteArray} (hp : RowN n p) (hx : RowN n x) (hy : RowN n y) (e : timesS p x = timesS p y) : x = y := by
  have h : ∀ {z : ByteArray}, RowN n z → timesS (turnS p) (timesS p z) = z := fun {z} hz => by
    rw [mul_assoc' (turn_rowN hp) hp hz, turn_mul hp, rounds_times hz]
  rw [← h hx, e, h hy]
section
variable {n m : Nat} {e : ByteArray}
theorem pw_add (he : RowN n e) (i : Nat) : ∀ j, pwS n e (i + j) = timesS (pwS n e i) (pwS n e j)
  | 0 => (mul_rounds (pw_row he i)).symm
  | j + 1 => by
    show timesS (pwS n e (i + j)) e = timesS (pwS n e i) (timesS (pwS n e j) e)
    rw [pw_add he i j, mul_assoc' (pw_row he i) (pw_row he j) he]
theorem pw_mul (he : RowN n e) (hm : IsOrd n e m) : ∀ q, pwS n e (m * q) = roundsS n
  | 0 => rfl
  | q + 1 => by rw [Nat.mul_succ, pw_add he, pw_mul he hm q, hm.2.1]; exact rounds_times (rowN_rounds he.st.1 he.st.2)
theorem pw_mod (he : RowN n e) (hm : IsOrd n e m) (k : Nat) : pwS n e k = pwS n e (k % m) := by
  conv => lhs; rw [← Nat.div_add_mod k m]
  rw [pw_add he, pw_mul he hm, rounds_times (pw_row he _)]
theorem pw_inj (he : RowN n e) (hm : IsOrd n e m) {i j : Nat} (hi : i < m) (hj : j < m) (h : pwS n e i = pwS n e j) : i = j := by
  rcases Nat.lt_trichotomy i j with q | q | q
  · exact absurd (pw_eq he i (j - i) (by rw [h]; congr 1; omega)) (hm.2.2 (j - i) (by omega) (by omega))
  · exact q
  · exact absurd (pw_eq he j (i - j) (by rw [← h]; congr 1; omega)) (hm.2.2 (i - j) (by omega) (by omega))
def cosL (n : Nat) (e : ByteArray) (m : Nat) (x : ByteArray) : List ByteArray := (pwL n e m).map fun p => timesS p x
theorem cosL_mem {x y : ByteArray} : y ∈ cosL n e m x ↔ ∃ k, k < m ∧ y = timesS (pwS n e k) x := by
  rw [cosL, List.mem_map]
  constructor
  · rintro ⟨p, hp, rfl⟩
    rw [pwL, List.mem_map] at hp
    obtain ⟨k, hk, rfl⟩ := hp
    exact ⟨k, List.mem_range.1 hk, rfl⟩
  · rintro ⟨k, hk, rfl⟩
    exact ⟨_, List.mem_map.2 ⟨k, List.mem_range.2 hk, rfl⟩, rfl⟩
theorem cosL_all (he : RowN n e) (hm : IsOrd n e m) (x : ByteArray) (k : Nat) : timesS (pwS n e k) x ∈ cosL n e m x := by
  rw [pw_mod he hm k]
  exact cosL_mem.2 ⟨k % m, Nat.mod_lt _ hm.1, rfl⟩
theorem cosL_nodup (he : RowN n e) (hm : IsOrd n e m) {x : ByteArray} (hx : RowN n x) : (cosL n e m x).Nodup := by
  rw [cosL, pwL, List.map_map]
  refine nodup_of fun i j hij hj hc => ?_
  rw [List.length_map, List.length_range] at hj
  rw [List.getElem?_map, List.getElem?_map, List.getElem?_range (by omega), List.getElem?_range hj] at hc
  injection hc with hc
  have := pw_inj he hm (by omega) hj (times_cancel (pw_row he i) (pw_row he j) hx hc)
  omega
theorem cosL_row (he : RowN n e) {x : ByteArray} (hx : RowN n x) : ∀ y ∈ cosL n e m x, RowN n y := fun y hy => by
  obtain ⟨k, _, rfl⟩ := cosL_mem.1 hy
  exact (pw_row he k).times hx
def leastS (n : Nat) (e : ByteArray) (m : Nat) (x : ByteArray) : ByteArray := ((cosL n e m x).mergeSort leS).headD ByteArray.empty
theorem least_mem (hm : IsOrd n e m) (x : ByteArray) : leastS n e m x ∈ cosL n e m x := by
  have h : (cosL n e m x).mergeSort leS ≠ [] := fun h => by
    have h1 := congrArg List.length h
    rw [List.length_mergeSort, cosL, List.length_map, pwL_len] at h1
    have := hm.1
    simp at h1; omega
  obtain ⟨a, r, e1⟩ := List.exists_cons_of_ne_nil h
  have : leastS n e m x = a := by rw [leastS, e1]; rfl
  rw [this, ← List.mem_mergeSort (le := leS), e1]
  exact List.mem_cons_self ..
theorem least_same (he : RowN n e) (hm : IsOrd n e m) {x : ByteArray} (hx : RowN n x) (k : Nat) : leastS n e m (timesS (pwS n e k) x) = leastS n e m x := by
  have hy := (pw_row he k).times hx
  have hsub : ∀ z ∈ cosL n e m (timesS (pwS n e k) x), z ∈ cosL n e m x := fun z hz => by
    obtain ⟨i, _, rfl⟩ := cosL_mem.1 hz
    rw [mul_assoc' (pw_row he i) (pw_row he k) hx, ← pw_add he]
    exact cosL_all he hm x _
  have hp : (cosL n e m (timesS (pwS n e k) x)).Perm (cosL n e m x) := by
    refine (List.perm_ext_iff_of_nodup (cosL_nodup he hm hy) (cosL_nodup he hm hx)).2 fun z => ⟨hsub z, fun hz => ?_⟩
    obtain ⟨i, _, rfl⟩ := cosL_mem.1 hz
    have e1 : timesS (pwS n e (i + (m - k % m))) (timesS (pwS n e k) x) = timesS (pwS n e i) x := by
      have hk := Nat.mod_lt k hm.1
      rw [pw_mod he hm k, mul_assoc' (pw_row he _) (pw_row he _) hx, ← pw_add he, show i + (m - k % m) + k % m = i + m by omega, pw_add he, hm.2.1, mul_rounds (pw_row he i)]
    rw [← e1]
    exact cosL_all he hm _ _
  have : (cosL n e m (timesS (pwS n e k) x)).mergeSort leS = (cosL n e m x).mergeSort leS :=
    srt_unique (List.pairwise_mergeSort leS_trans leS_total _) (List.pairwise_mergeSort leS_trans leS_total _) (((List.mergeSort_perm _ leS).trans hp).trans (List.mergeSort_perm _ leS).symm)
  rw [leastS, leastS, this]
theorem least_eq (he : RowN n e) (hm : IsOrd n e m) {x y : ByteArray} (hx : RowN n x) (hy : RowN n y) (h : leastS n e m x = leastS n e m y) : ∃ k, k < m ∧ y = timesS (pwS n e k) x := by
  obtain ⟨i, hi, ei⟩ := cosL_mem.1 (least_mem hm x)
  obtain ⟨j, hj, ej⟩ := cosL_mem.1 (least_mem hm y)
  have e1 : timesS (pwS n e i) x = timesS (pwS n e j) y := by rw [← ei, ← ej, h]
  have e2 : timesS (pwS n e (m - j)) (timesS (pwS n e j) y) = y := by
    rw [mul_assoc' (pw_row he _) (pw_row he _) hy, ← pw_add he, show m - j + j = m by omega, hm.2.1, rounds_times hy]
  rw [← e1, mul_assoc' (pw_row he _) (pw_row he _) hx, ← pw_add he, pw_mod he hm] at e2
  exact ⟨_, Nat.mod_lt _ hm.1, e2.symm⟩
def wholeL (n : Nat) (e : ByteArray) (m : Nat) (R : List ByteArray) : List ByteArray := (List.range m).flatMap fun j => R.map (timesS (pwS n e j))
theorem whole_iff (he : RowN n e) (hm : IsOrd n e m) {R : List ByteArray} (hR : ∀ x ∈ R, RowN n x) : (wholeL n e m R).Nodup ↔ (R.map (leastS n e m)).Nodup := by
  have hz : ∀ x ∈ R, timesS (pwS n e 0) x = x := fun x hx => rounds_times (hR x hx)
  rw [wholeL, List.Nodup, List.pairwise_flatMap]
  constructor
  · rintro ⟨h1, h2⟩
    have hR0 : R.Nodup := by
      have h0 := h1 0 (List.mem_range.2 hm.1)
      rw [List.pairwise_map] at h0
      exact h0.imp fun h e => h (by rw [e])
    rw [List.pairwise_map]
    refine List.Pairwise.imp_of_mem (fun {x y} hx hy hne hq => ?_) hR0
    obtain ⟨k, hk, ek⟩ := least_eq he hm (hR x hx) (hR y hy) hq
    rcases Nat.eq_zero_or_pos k with rfl | hk0
    · rw [hz x hx] at ek
      exact hne ek.symm
    · rw [List.pairwise_iff_getElem] at h2
      have h3 := h2 0 k (by have := hm.1; simp; omega) (by simpa using hk) hk0
      simp only [List.getElem_range] at h3
      exact h3 y (List.mem_map.2 ⟨y, hy, hz y hy⟩) y (List.mem_map.2 ⟨x, hx, ek.symm⟩) rfl
  · intro h
    rw [List.pairwise_map] at h
    refine ⟨fun j _ => ?_, ?_⟩
    · rw [List.pairwise_map]
      refine List.Pairwise.imp_of_mem (fun {x y} hx hy hne hq => ?_) h
      exact hne (by rw [mul_left (pw_row he j) (hR x hx) (hR y hy) hq])
    · rw [List.pairwise_iff_getElem]
      intro i j hi hj hij x hx y hy hxy
      simp only [List.getElem_range] at hx hy
      obtain ⟨a, ha, rfl⟩ := List.mem_map.1 hx
      obtain ⟨b, hb, rfl⟩ := List.mem_map.1 hy
      have e1 : leastS n e m a = leastS n e m b := by rw [← least_same he hm (hR a ha) i, hxy, least_same he hm (hR b hb) j]
      have hab : a = b := by
        obtain ⟨p, hp, ep⟩ := List.getElem_of_mem ha
        obtain ⟨q, hq, eq⟩ := List.getElem_of_mem hb
        rw [List.pairwise_iff_getElem] at h
        rcases Nat.lt_trichotomy p q with g | g | g
        · exact absurd (by rw [ep, eq]; exact e1) (h p q hp hq g)
        · subst g; rw [← ep, ← eq]
        · exact absurd (by rw [ep, eq]; exact e1.symm) (h q p hq hp g)
      subst hab
      have := pw_inj he hm (by simpa using hi) (by simpa using hj) (times_cancel (pw_row he i) (pw_row he j) (hR a ha) hxy)
      omega
end
theorem rAt_mul {n : Nat} {p h : ByteArray} (hp : RowN n p) (hh : RowN n h) (l : List ByteArray) : ∀ k, rAt (timesS p h) l k = timesS p (rAt h l k)
  | 0 => rfl
  | k + 1 => by
    have hg := good_rAt hh.1 l k
    have hz : (rAt h l k).size = n := by rw [rAt_size]; exact hh.2
    show applyR (rAt (timesS p h) l k) _ = timesS p (applyR (rAt h l k) _)
    rw [rAt_mul hp hh l k, times_apply hp.1 hg (by rw [hp.2, hz])]
theorem rowsL_mul {n : Nat} {p h : ByteArray} (hp : RowN n p) (hh : RowN n h) (l : List ByteArray) (k : Nat) : rowsL (timesS p h) l k = (rowsL h l k).map (timesS p) := by
  rw [rowsL, rowsL, List.map_map]
  exact List.map_congr_left fun j _ => rAt_mul hp hh l j
section
variable {st : Nat} {l : List ByteArray} {b s u v : ByteArray}
def Again (u v : ByteArray) (m : Nat) : Prop := v.size = m * u.size ∧ ∀ j i, j < m → i < u.size → letter v (j * u.size + i) = letter u i
theorem hd_row (h3 : 3 ≤ st) (h8 : st ≤ 8) (k : Nat) : RowN st (hdAt st l b s u k) := hdAt_good h3 h8 l b s u k
theorem call_row (h3 : 3 ≤ st) (h8 : st ≤ 8) (c : ByteArray) : RowN st (callHd st l b s c) := ⟨headX_good h3 h8 l _, headX_size (by omega) l _⟩
theorem hd_again (h3 : 3 ≤ st) (h8 : st ≤ 8) {m : Nat} (h : Again u v m) : ∀ j i, j < m → i ≤ u.size → hdAt st l b s v (j * u.size + i) = timesS (pwS st (hdAt st l b s u u.size) j) (hdAt st l b s u i)
  | 0, 0, _, _ => by
    rw [Nat.zero_mul]
    exact (mul_rounds (rowN_rounds h3 h8)).symm
  | j + 1, 0, hj, _ => by
    have e := hd_again h3 h8 h j u.size (by omega) (Nat.le_refl _)
    rw [Nat.add_zero, Nat.succ_mul, e]
    exact (mul_rounds (pw_row (hd_row h3 h8 _) (j + 1))).symm
  | j, i + 1, hj, hi => by
    have e := hd_again h3 h8 h j i hj (by omega)
    show timesS (hdAt st l b s v (j * u.size + i)) (callHd st l b s (letter v (j * u.size + i))) = timesS _ (timesS (hdAt st l b s u i) (callHd st l b s (letter u i)))
    rw [e, h.2 j i hj (by omega), mul_assoc' (pw_row (hd_row h3 h8 _) j) (hd_row h3 h8 i) (call_row h3 h8 _)]
theorem rows_again (h3 : 3 ≤ st) (h8 : st ≤ 8) {m : Nat} (h : Again u v m) {j : Nat} (hj : j < m) : ∀ i, i ≤ u.size → tRows st l b s v (j * u.size + i) = tRows st l b s v (j * u.size) ++ (tRows st l b s u i).map (timesS (pwS st (hdAt st l b s u u.size) j))
  | 0, _ => by simp [tRows, hdsL]
  | i + 1, hi => by
    rw [← Nat.add_assoc, tRows_succ, tRows_succ, rows_again h3 h8 h hj i (by omega), hd_again h3 h8 h j i hj (by omega), rowsL_mul (pw_row (hd_row h3 h8 _) j) (hd_row h3 h8 i), List.map_append, List.append_assoc]
theorem whole_rows (h3 : 3 ≤ st) (h8 : st ≤ 8) {m : Nat} (h : Again u v m) : tRows st l b s v v.size = wholeL st (hdAt st l b s u u.size) m (tRows st l b s u u.size) := by
  have key : ∀ j, j ≤ m → tRows st l b s v (j * u.size) = wholeL st (hdAt st l b s u u.size) j (tRows st l b s u u.size) := by
    intro j
    induction j with
    | zero => intro _; simp [tRows, hdsL, wholeL]
    | succ j ih =>
      intro hj
      rw [Nat.succ_mul, rows_again h3 h8 h hj u.size (Nat.le_refl _), ih (by omega), wholeL, wholeL, List.range_succ, List.flatMap_append]
      simp
  rw [h.1]
  exact key m (Nat.le_refl _)
theorem tRows_row (h3 : 3 ≤ st) (h8 : st ≤ 8) (k : Nat) : ∀ x ∈ tRows st l b s u k, RowN st x := fun x hx => by
  rw [tRows, List.mem_flatMap] at hx
  obtain ⟨h, hh, hx⟩ := hx
  rw [hdsL, List.mem_map] at hh
  obtain ⟨i, _, rfl⟩ := hh
  rw [rowsL, List.mem_map] at hx
  obtain ⟨j, _, rfl⟩ := hx
  have hr : RowN st (hdAt st l b s u i) := hd_row h3 h8 i
  exact ⟨good_rAt hr.1 l j, by rw [rAt_size]; exact hr.2⟩
theorem parts_law (h3 : 3 ≤ st) (h8 : st ≤ 8) {m : Nat} (hu : 1 ≤ u.size) (hm : IsOrd st (hdAt st l b s u u.size) m) (h : Again u v m) :
    (decide (leadL st l).Nodup && decide ((tRows st l b s u u.size).map (leastS st (hdAt st l b s u u.size) m)).Nodup) = decide (tRows st l b s v v.size).Nodup := by
  have he : RowN st (hdAt st l b s u u.size) := hd_row h3 h8 _
  have hi := whole_iff he hm (tRows_row (l := l) (b := b) (s := s) (u := u) h3 h8 u.size)
  rw [whole_rows h3 h8 h]
  have hl : (wholeL st (hdAt st l b s u u.size) m (tRows st l b s u u.size)).Nodup → (leadL st l).Nodup := fun hw => by
    rw [← whole_rows h3 h8 h] at hw
    obtain ⟨k, hk⟩ : ∃ k, v.size = 1 + k := ⟨v.size - 1, by
      have : 1 ≤ v.size := by rw [h.1]; exact Nat.le_trans hm.1 (Nat.le_mul_of_pos_right _ hu)
      omega⟩
    have hp : ∀ d, (tRows st l b s v (1 + d)).Nodup → (tRows st l b s v 1).Nodup := by
      intro d
      induction d with
      | zero => exact fun q => q
      | succ d ih =>
        intro q
        rw [← Nat.add_assoc, tRows_succ, List.nodup_append] at q
        exact ih q.1
    rw [hk] at hw
    have h1 := hp k hw
    rw [show (1 : Nat) = 0 + 1 from rfl, tRows_succ] at h1
    simpa [tRows, hdsL, leadL, hdAt] using h1
  by_cases hw : (wholeL st (hdAt st l b s u u.size) m (tRows st l b s u u.size)).Nodup
  · rw [decide_eq_true hw, decide_eq_true (hl hw), decide_eq_true (hi.1 hw)]; rfl
  · rw [decide_eq_false hw, decide_eq_false (fun q => hw (hi.2 q)), Bool.and_false]
end
end Go.Proofs.YtidolgonmimicaaGreat
namespace Go.Proofs.YtidolgonmimicaaGreat
open Go.ChangeShapes Go.WideShapes Go.ChangeAt Go.RowKit Go.Deep
set_option maxHeartbeats 1000000 in
set_option maxRecDepth 100000 in
theorem impl_powersO {a : ByteArray} {n : Nat} {w : World} (hg : RowN n a) :
    Calls Tryz.prog 205 #[.string a] w fun e w' => ∃ m A' c', e = .returned (.slice A' m c') ∧ IsOrd n a m ∧ m ≤ 40320 ∧ Owned strE 1 9 w' w.heap.size A' m c' (pwL n a m) ∧ Below w.heap.size w w' := by
  obtain ⟨h3, h8⟩ := hg.st
  have h40 : fact n ≤ 40320 := fact_le8 h8
  have hsz := hg.2
  have HG := Lib.hid hg
  have ha16 : a.size ≤ 16777216 := by omega
  clear hg
  go_in
  go_wp2_with (first | (go_at_call 105; refine (impl_rounds h8).mono ?_; rintro e w' ⟨rfl, rfl⟩))
  have ho0 := Lib.hid (own_lit1_at' strE_len w 9 (roundsS n) rfl (Nat.le_refl _))
  go_loopw [3, 4] (fun v p wr => ∃ (k : Nat) (A' : Option Addr) (c' : Nat), 1 ≤ k ∧ v = .slice A' k c' ∧ p = .string (pwS n a k) ∧ Hid (∀ j, 1 ≤ j → j < k → pwS n a j ≠ roundsS n) ∧ Hid (Owned strE 1 9 wr w.heap.size A' k c' (pwL n a k)) ∧ Below w.heap.size w wr) (fun v _ _ => 40321 - slLen v)
  case atStart => exact ⟨1, _, _, Nat.le_refl _, rfl, by rw [pw_one HG.out], Lib.hid (fun j h1 h2 => absurd h1 (by omega)), ho0, by (repeat' (first | (with_reducible exact Below.refl _ _) | (with_reducible assumption) | (with_reducible refine below_drewN ?_ _) | (with_reducible refine Below.drew ?_) | (with_reducible refine below_alloc ?_ _) | (with_reducible refine Below.alloc ?_ ?_ _) | (with_reducible refine Below.setCell ?_ ?_ _) | (with_reducible refine below_go ?_ (by with_reducible assumption)) | (with_reducible refine below_then (by with_reducible assumption) ?_ ?_) | go_size))⟩
  case round =>
    obtain ⟨k, A1, c1, hk, rfl, rfl, HK, HO, hb⟩ := hrel
    have hle : k ≤ 40320 := Nat.le_trans (pwL_le HG.out HK.out) h40
    obtain ⟨b1, rfl, hb1lo, _, gc, _⟩ := HO.out.at_ (by omega)
    have hc0 := gc 0 (roundsS n) 0 _ (by rw [pwL, List.getElem?_map, List.getElem?_range (by omega)]; rfl) rfl
    simp only [Nat.zero_mul, Nat.add_zero] at hc0
    have hpN := pw_row HG.out k
    have HPS := Lib.hid (show pwS n a (k + 1) = timesS (pwS n a k) a from rfl)
    have HLS := Lib.hid (pwL_succ n a k)
    have hft := rowN_fits hpN HG.out
    obtain ⟨p, hp⟩ : ∃ p, p = pwS n a k := ⟨_, rfl⟩
    have HP := Lib.hid hp
    rw [← hp] at hpN hft
    rw [← hp]
    have hps : p.size ≤ 16777216 := by rw [hpN.2]; omega
    clear gc
    by_cases he : p = roundsS n
    · have HE := Lib.hid (show pwS n a k = roundsS n by rw [← hp, he])
      have hbe : (p.toList == (roundsS n).toList) = true := by rw [he]; simp
      clear hp he
      go_wp2
      go_ret
      exact ⟨k, _, _, rfl, ⟨hk, HE.out, HK.out⟩, hle, HO.out, hb⟩
    · have hbe := bytes_ne he
      have HK2 := Lib.hid (show ∀ j, 1 ≤ j → j < k + 1 → pwS n a j ≠ roundsS n from fun j h1 h2 => by
        rcases Nat.lt_or_ge j k with h4 | h4
        · exact HK.out j h1 h4
        · obtain rfl : j = k := by omega
          rw [← hp]; exact he)
      have hle2 : k + 1 ≤ 40320 := Nat.le_trans (pwL_le HG.out HK2.out) h40
      clear hp he
      have hszr := hb.size
      go_wp2_with (first | (at_builtin; go_must ((refine wpList_append_recs Tryz.elStr strE_one rfl (.tmp 18) (.tmp 20) rfl rfl (HO.out.alloc _) rfl (own_lit1_at' strE_len _ 9 p rfl (Nat.le_refl _)).recs rfl ?_ (by decide) ?_ ?_; (focus (first | omega | (simp only [World.size_alloc]; done) | (simp only [World.size_alloc]; omega) | (simp; done) | (simp; omega))); (focus (first | omega | (simp only [World.size_alloc]; done) | (simp only [World.size_alloc]; omega) | (simp; done) | (simp; omega))); intro A3 c3 w6 ho6 hg6 hl6))) | (go_at_call 123; refine (impl_times hps ha16 hft).mono ?_; rintro e w7 ⟨rfl, hb7⟩))
      have hb6 : Below w.heap.size w w6 := (hb.alloc hszr _).trans (grown_base hg6 (by simp; omega) (fun k hk => by injection hk with hk; dsimp only at hk; omega))
      go_roundw
      case rel => exact ⟨k + 1, A3, c3, by omega, rfl, by rw [HPS.out, HP.out], HK2, Lib.hid (by rw [HLS.out, ← HP.out]; exact ho6.up hb7), below_go hb6 hb7⟩
      case measure => simp [slLen]; omega
def teV (nm : ByteArray) (st : Nat) (l : List ByteArray) (kb ks t : ByteArray) : ByteArray := if goodF nm (st : Int) l kb ks t = true then hdAt st l kb ks t t.size else ⟨#[]⟩
theorem teV_t {nm : ByteArray} {st : Nat} {l : List ByteArray} {kb ks t : ByteArray} (h : goodF nm (st : Int) l kb ks t = true) : teV nm st l kb ks t = hdAt st l kb ks t t.size := if_pos h
theorem teV_f {nm : ByteArray} {st : Nat} {l : List ByteArray} {kb ks t : ByteArray} (h : goodF nm (st : Int) l kb ks t = false) : teV nm st l kb ks t = ⟨#[]⟩ := if_neg (by rw [h]; simp)
set_option maxHeartbeats 1000000 in
theorem impl_TouchEndG {A : Option Addr} {n c st : Nat} {nm : ByteArray} {l : List ByteArray} {kb ks t : ByteArray} {w : World} (hn : l.length = n) (h : Strs w A l) (hz : n ≤ 1048576) (hs : ∀ s ∈ l, s.size ≤ 16777216) (hnm : nm.size ≤ 16777216) (h9 : st ≤ 1000) (hkb : kb.size ≤ 16777216) (hks : ks.size ≤ 16777216) (ht : t.size ≤ 16777216) :
    Calls Tryz.prog 139 #[.agg #[.string nm, .int .i64 st, .slice A n c], .agg #[.string kb, .string ks], .string t] w fun e w' => e = .returned (.tuple #[.string (teV nm st l kb ks t), .bool (goodF nm (st : Int) l kb ks t)]) ∧ Below w.heap.size w w' := by
  have b0 : Below w.heap.size w ((w.alloc (.cells ⟨[.string nm, .int .i64 st, .slice A n c]⟩ 25)).alloc (.cells ⟨[.string kb, .string ks]⟩ 27)) := by (repeat' (first | (with_reducible exact Below.refl _ _) | (with_reducible assumption) | (with_reducible refine below_drewN ?_ _) | (with_reducible refine Below.drew ?_) | (with_reducible refine below_alloc ?_ _) | (with_reducible refine Below.alloc ?_ ?_ _) | (with_reducible refine Below.setCell ?_ ?_ _) | (with_reducible refine below_go ?_ (by with_reducible assumption)) | (with_reducible refine below_then (by with_reducible assumption) ?_ ?_) | go_size))
  have K0 := (Blk.at_ w 25 [.string nm, .int .i64 st, .slice A n c] (b := w.heap.size) rfl).alloc (.cells ⟨[.string kb, .string ks]⟩ 27)
  have J0 := Blk.at_ (w.alloc (.cells ⟨[.string nm, .int .i64 st, .slice A n c]⟩ 25)) 27 [.string kb, .string ks] (b := w.heap.size + 1) (by simp)
  have hI : I64 (st : Int) := ⟨by omega, by omega⟩
  have H0 := h.up b0
  have HT := Lib.hid (@teV_t nm st l kb ks t)
  have HF := Lib.hid (@teV_f nm st l kb ks t)
  have HG : Hid (goodF nm st l kb ks t = (goodK nm (st : Int) l kb ks && goodT t)) := Lib.hid rfl
  go_in
  go_wp2_with fail
  refine (impl_goodFor (nm := nm) (st := (st : Int)) hn H0 hz hs hnm hI hkb hks ht).mono ?_; rintro e w1 ⟨rfl, hb1⟩
  have K1 := K0.up hb1
  have J1 := J0.up hb1
  have H1 := H0.up hb1
  have B1 := below_go b0 hb1
  clear K0 J0 H0 h b0 hb1
  rcases hg : goodF nm st l kb ks t
  · have e2 := Lib.hid hg
    go_wp2
    go_ret2
    rw [HF.out e2.out, e2.out]
    exact ⟨rfl, B1⟩
  · have e2 := Lib.hid hg
    have hgg := hg
    rw [HG.out, Bool.and_eq_true] at hgg
    have k0 := K1.cell 0; have k1 := K1.cell 1; have k2 := K1.cell 2; have j0 := J1.cell 0; have j1 := J1.cell 1
    simp only [List.getElem?_cons_zero, List.getElem?_cons_succ] at k0 k1 k2 j0 j1
    go_wp2_with fail
    refine (impl_touchEnd (t := t) hn H1 hgg.1 hgg.2).mono ?_; rintro e w2 ⟨rfl, hb2⟩
    go_wp2
    go_ret2
    rw [HT.out e2.out, e2.out]
    exact ⟨rfl, below_go B1 hb2⟩
set_option maxHeartbeats 1000000 in
theorem impl_PartEnd {A : Option Addr} {n c st : Nat} {nm : ByteArray} {l : List ByteArray} {kb ks t : ByteArray} {w : World} (hn : l.length = n) (h : Strs w A l) (hz : n ≤ 1048576) (hs : ∀ s ∈ l, s.size ≤ 16777216) (hnm : nm.size ≤ 16777216) (h9 : st ≤ 1000) (hkb : kb.size ≤ 16777216) (hks : ks.size ≤ 16777216) (ht : t.size ≤ 16777216) :
    Calls Tryz.prog 47 #[.agg #[.string nm, .int .i64 st, .slice A n c], .agg #[.string kb, .string ks], .string t] w fun e w' => e = .returned (.tuple #[.string (teV nm st l kb ks t), .bool (goodF nm (st : Int) l kb ks t)]) ∧ Below w.heap.size w w' := by
  have b0 : Below w.heap.size w ((w.alloc (.cells ⟨[.string nm, .int .i64 st, .slice A n c]⟩ 25)).alloc (.cells ⟨[.string kb, .string ks]⟩ 27)) := by (repeat' (first | (with_reducible exact Below.refl _ _) | (with_reducible assumption) | (with_reducible refine below_drewN ?_ _) | (with_reducible refine Below.drew ?_) | (with_reducible refine below_alloc ?_ _) | (with_reducible refine Below.alloc ?_ ?_ _) | (with_reducible refine Below.setCell ?_ ?_ _) | (with_reducible refine below_go ?_ (by with_reducible assumption)) | (with_reducible refine below_then (by with_reducible assumption) ?_ ?_) | go_size))
  have H0 := h.up b0
  clear h
  go_in
  go_wp2_with fail
  refine (impl_TouchEndG (nm := nm) hn H0 hz hs hnm h9 hkb hks ht).mono ?_; rintro e w1 ⟨rfl, hb1⟩
  go_wp2
  go_ret2
  exact ⟨rfl, below_go b0 hb1⟩
end Go.Proofs.YtidolgonmimicaaGreat
namespace Go.Proofs.YtidolgonmimicaaGreat
open Go.ChangeShapes Go.WideShapes Go.ChangeAt Go.RowKit Go.Deep
def PaP (nm : ByteArray) (st : Nat) (l : List ByteArray) (kb ks t : ByteArray) (m : Nat) : Prop :=
  m ≤ 40320 ∧ (goodF nm (st : Int) l kb ks t = true → IsOrd st (hdAt st l kb ks t t.size) m) ∧ (goodF nm (st : Int) l kb ks t = false → m = 0)
theorem PaP.uniq {nm : ByteArray} {st : Nat} {l : List ByteArray} {kb ks t : ByteArray} {m k : Nat} (h : PaP nm st l kb ks t m) (g : PaP nm st l kb ks t k) : m = k := by
  rcases hg : goodF nm (st : Int) l kb ks t
  · rw [h.2.2 hg, g.2.2 hg]
  · exact (h.2.1 hg).uniq (g.2.1 hg)
set_option maxHeartbeats 1000000 in
theorem impl_partsIn {A : Option Addr} {n c st : Nat} {nm : ByteArray} {l : List ByteArray} {kb ks : ByteArray} {t : ByteArray} {w : World} (hn : l.length = n) (h : Strs w A l) (hk : goodK nm (st : Int) l kb ks = true) (hg : goodT t = true) :
    Calls Tryz.prog 137 #[.agg #[.string nm, .int .i64 st, .slice A n c], .agg #[.string kb, .string ks], .string t] w fun e w' => ∃ m : Nat, e = .returned (.int .i64 (m : Int)) ∧ m ≤ 40320 ∧ IsOrd st (hdAt st l kb ks t t.size) m ∧ Below w.heap.size w w' := by
  have b0 : Below w.heap.size w ((w.alloc (.cells ⟨[.string nm, .int .i64 st, .slice A n c]⟩ 25)).alloc (.cells ⟨[.string kb, .string ks]⟩ 27)) := by (repeat' (first | (with_reducible exact Below.refl _ _) | (with_reducible assumption) | (with_reducible refine below_drewN ?_ _) | (with_reducible refine Below.drew ?_) | (with_reducible refine below_alloc ?_ _) | (with_reducible refine Below.alloc ?_ ?_ _) | (with_reducible refine Below.setCell ?_ ?_ _) | (with_reducible refine below_go ?_ (by with_reducible assumption)) | (with_reducible refine below_then (by with_reducible assumption) ?_ ?_) | go_size))
  have h38 := (goodK_all hk).1
  have HR : Hid (RowN st (hdAt st l kb ks t t.size)) := Lib.hid (hdAt_good h38.1 h38.2 l kb ks t t.size)
  go_in
  go_wp2_with fail
  refine (impl_touchEnd (t := t) hn (h.up b0) hk hg).mono ?_; rintro e w1 ⟨rfl, hb1⟩
  go_wp2_with fail
  refine (impl_powersO HR.out).mono ?_; rintro e w2 ⟨m, A2, c2, rfl, ho, hm, hO, hb2⟩
  go_wp2
  go_ret
  exact ⟨m, rfl, hm, ho, below_go (below_go b0 hb1) hb2⟩
set_option maxHeartbeats 1000000 in
theorem impl_PartsIn {A : Option Addr} {n c st : Nat} {nm : ByteArray} {l : List ByteArray} {kb ks t : ByteArray} {w : World} (hn : l.length = n) (h : Strs w A l) (hz : n ≤ 1048576) (hs : ∀ s ∈ l, s.size ≤ 16777216) (hnm : nm.size ≤ 16777216) (h9 : st ≤ 1000) (hkb : kb.size ≤ 16777216) (hks : ks.size ≤ 16777216) (ht : t.size ≤ 16777216) :
    Calls Tryz.prog 45 #[.agg #[.string nm, .int .i64 st, .slice A n c], .agg #[.string kb, .string ks], .string t] w fun e w' => ∃ m : Nat, e = .returned (.tuple #[.int .i64 (m : Int), .bool (goodF nm (st : Int) l kb ks t)]) ∧ PaP nm st l kb ks t m ∧ Below w.heap.size w w' := by
  have b0 : Below w.heap.size w ((w.alloc (.cells ⟨[.string nm, .int .i64 st, .slice A n c]⟩ 25)).alloc (.cells ⟨[.string kb, .string ks]⟩ 27)) := by (repeat' (first | (with_reducible exact Below.refl _ _) | (with_reducible assumption) | (with_reducible refine below_drewN ?_ _) | (with_reducible refine Below.drew ?_) | (with_reducible refine below_alloc ?_ _) | (with_reducible refine Below.alloc ?_ ?_ _) | (with_reducible refine Below.setCell ?_ ?_ _) | (with_reducible refine below_go ?_ (by with_reducible assumption)) | (with_reducible refine below_then (by with_reducible assumption) ?_ ?_) | go_size))
  have K0 := (Blk.at_ w 25 [.string nm, .int .i64 st, .slice A n c] (b := w.heap.size) rfl).alloc (.cells ⟨[.string kb, .string ks]⟩ 27)
  have J0 := Blk.at_ (w.alloc (.cells ⟨[.string nm, .int .i64 st, .slice A n c]⟩ 25)) 27 [.string kb, .string ks] (b := w.heap.size + 1) (by simp)
  have hI : I64 (st : Int) := ⟨by omega, by omega⟩
  have H0 := h.up b0
  have HP : Hid (∀ m, PaP nm st l kb ks t m = (m ≤ 40320 ∧ (goodF nm (st : Int) l kb ks t = true → IsOrd st (hdAt st l kb ks t t.size) m) ∧ (goodF nm (st : Int) l kb ks t = false → m = 0))) := Lib.hid (fun m => rfl)
  have HG : Hid (goodF nm st l kb ks t = (goodK nm (st : Int) l kb ks && goodT t)) := Lib.hid rfl
  obtain ⟨gf, hgf⟩ : ∃ u, u = goodF nm (st : Int) l kb ks t := ⟨_, rfl⟩
  have HGF := Lib.hid hgf
  rw [← hgf] at HP HG ⊢
  clear hgf
  go_in
  go_wp2_with fail
  refine (impl_goodFor (nm := nm) (st := (st : Int)) hn H0 hz hs hnm hI hkb hks ht).mono ?_; rw [← HGF.out]; rintro e w1 ⟨rfl, hb1⟩
  have K1 := K0.up hb1
  have J1 := J0.up hb1
  have H1 := H0.up hb1
  have B1 := below_go b0 hb1
  clear K0 J0 H0 h b0 hb1
  rcases gf
  · go_wp2
    go_ret2
    exact ⟨0, rfl, by rw [HP.out]; exact ⟨by omega, fun e => (by cases e), fun _ => rfl⟩, B1⟩
  · have hgg := HG.out
    rw [eq_comm, Bool.and_eq_true] at hgg
    have k0 := K1.cell 0; have k1 := K1.cell 1; have k2 := K1.cell 2; have j0 := J1.cell 0; have j1 := J1.cell 1
    simp only [List.getElem?_cons_zero, List.getElem?_cons_succ] at k0 k1 k2 j0 j1
    go_wp2_with fail
    refine (impl_partsIn (t := t) hn H1 hgg.1 hgg.2).mono ?_; rintro e w2 ⟨m, rfl, hm, ho, hb2⟩
    go_wp2
    go_ret2
    exact ⟨m, rfl, by rw [HP.out]; exact ⟨hm, fun _ => ho, fun e => (by cases e)⟩, below_go B1 hb2⟩
end Go.Proofs.YtidolgonmimicaaGreat
namespace Go.Proofs.YtidolgonmimicaaGreat
open Go.ChangeShapes Go.WideShapes Go.ChangeAt Go.RowKit Go.Deep
theorem recs_grown12 {α : Type} {e : α → List Value} {s b o : Nat} {w w' : World} {l : List α} {row : Option Nat} (h : Recs e s w (some ⟨b, o, none⟩) l) (hg : w.grownBy w' row) (hne : some b ≠ row) : Recs e s w' (some ⟨b, o, none⟩) l := by
  refine ⟨h.1, h.2.1, fun hn => ?_⟩
  obtain ⟨b', o', hA, hb, hc⟩ := h.2.2 hn
  injection hA with hA
  injection hA with e1 e2 _
  subst e1 e2
  exact ⟨b, o, rfl, Nat.lt_of_lt_of_le hb hg.size, fun j u hu => (hg.cell_far ⟨b, o + j, none⟩ hb hne).trans (hc j u hu)⟩
set_option maxHeartbeats 2000000 in
set_option maxRecDepth 100000 in
theorem impl_partSet {a x : ByteArray} {n : Nat} {w : World} (ha : RowN n a) (hx : RowN n x) :
    Calls Tryz.prog 202 #[.string a, .string x] w fun e w' => ∃ (m : Nat) (A' : Option Addr) (c' : Nat) (L : List ByteArray), e = .returned (.slice A' m c') ∧ IsOrd n a m ∧ m ≤ 40320 ∧ Owned strE 1 9 w' w.heap.size A' m c' L ∧ L.Perm (cosL n a m x) ∧ Srt L ∧ Below w.heap.size w w' := by
  have h38 := ha.st
  have HA := Lib.hid ha
  have HX := Lib.hid hx
  have hxz : x.size ≤ 16777216 := by rw [hx.2]; omega
  have HOE := Lib.hid (Owned.empty (base := w.heap.size) (E := 9) strE_len w (Nat.le_refl _))
  have b0 : Below w.heap.size w (w.alloc (.cells #[] 9)) := by (repeat' (first | (with_reducible exact Below.refl _ _) | (with_reducible assumption) | (with_reducible refine below_drewN ?_ _) | (with_reducible refine Below.drew ?_) | (with_reducible refine below_alloc ?_ _) | (with_reducible refine Below.alloc ?_ ?_ _) | (with_reducible refine Below.setCell ?_ ?_ _) | (with_reducible refine below_go ?_ (by with_reducible assumption)) | (with_reducible refine below_then (by with_reducible assumption) ?_ ?_) | go_size))
  go_in
  go_wp2_with fail
  refine (impl_powersO HA.out).mono ?_; rintro e w1 ⟨m, A1, c1, rfl, ho, hm, hO, hb1⟩
  have B1 := below_go b0 hb1
  have HO0 := Lib.hid (HOE.out.up hb1)
  obtain ⟨g, rfl, g0, g1, _⟩ := hO.at_ (by have := ho.1; omega)
  have g0' : w.heap.size + 1 ≤ g := by simpa using g0
  have R1 := Lib.hid hO.recs
  have HL1 := Lib.hid hO.len
  have HM := Lib.hid ho
  have HC : Hid (cosL n a m x = (pwL n a m).map fun p => timesS p x) := Lib.hid rfl
  have HPW := Lib.hid (fun j => pw_row HA.out j)
  have HPA := Lib.hid (fun (j : Nat) (hj : j < m) => show (pwL n a m)[j]? = some (pwS n a j) from by rw [pwL, List.getElem?_map, List.getElem?_range hj]; rfl)
  obtain ⟨PL, hPL⟩ : ∃ u, u = pwL n a m := ⟨_, rfl⟩
  rw [← hPL] at R1 HL1 HC HPA
  clear ho hO hPL hb1
  go_wp2
  go_loopw [5, 12] (fun v i wr => ∃ (k : Nat) (A' : Option Addr) (c' : Nat), k ≤ m ∧ v = .slice A' k c' ∧ i = .int .i64 k ∧ Hid (Owned strE 1 9 wr w.heap.size A' k c' ((PL.take k).map fun p => timesS p x)) ∧ Hid (Below w.heap.size w wr) ∧ Hid (Strs wr (some ⟨g, 0, none⟩) PL) ∧ Hid (∀ z, (Value.slice A' k c').ownBlock = some z → z = w.heap.size ∨ w1.heap.size ≤ z) ∧ w1.heap.size ≤ wr.heap.size) (fun _ i _ => m - (intOf i).toNat)
  case atStart => exact ⟨0, _, _, Nat.zero_le _, rfl, rfl, HO0, Lib.hid B1, R1, Lib.hid (fun z hz => by simp [Value.ownBlock] at hz; omega), Nat.le_refl _⟩
  case round =>
    obtain ⟨k, A4, c4, hk, rfl, rfl, HO, HB, HR, HK, hwz⟩ := hrel
    rename World => wr
    have hsz := HB.out.size
    by_cases hlt : k < m
    · have hI : (k : Int) < (m : Int) := by omega
      obtain ⟨b1, o1, p, hA, _, hp, hcp⟩ := HR.out.at_str (k := k) (by rw [HL1.out]; exact hlt)
      injection hA with hA
      injection hA with e1 e2 _
      subst e1 e2
      simp only [Nat.zero_add] at hcp
      have hpr : RowN n p := by
        have h1 := HPA.out k hlt
        rw [h1] at hp
        injection hp with hp
        rw [← hp]; exact HPW.out k
      have hpz : p.size ≤ 16777216 := by rw [hpr.2]; omega
      have hft := rowN_fits hpr HX.out
      have HT := Lib.hid (show (PL.take (k + 1)).map (fun p => timesS p x) = (PL.take k).map (fun p => timesS p x) ++ [timesS p x] from by rw [take_succ_some hp, List.map_append]; rfl)
      clear hp hpr
      go_wp2_with fail
      refine (impl_times hpz hxz hft).mono ?_; rintro e w5 ⟨rfl, hb5⟩
      have HO5 := Lib.hid (HO.out.up hb5)
      have HB5 := Lib.hid (below_go HB.out hb5)
      have HR5 := Lib.hid (HR.out.up hb5)
      have hwz5 : w1.heap.size ≤ w5.heap.size := by have := hb5.size; omega
      have hs5 := HB5.out.size
      obtain ⟨y, hy⟩ : ∃ u, u = timesS p x := ⟨_, rfl⟩
      rw [← hy] at HT ⊢
      clear hy hb5
      go_wp2_with (first | (at_builtin; go_must ((refine wpList_append_recs Tryz.elStr strE_one rfl (.tmp 16) (.tmp 20) rfl rfl (HO5.out.alloc _) rfl (own_lit1_at' strE_len _ 9 y rfl (Nat.le_refl _)).recs rfl ?_ (by decide) ?_ ?_; (focus (first | omega | (simp only [World.size_alloc]; done) | (simp only [World.size_alloc]; omega) | (simp; done) | (simp; omega))); (focus (first | omega | (simp only [World.size_alloc]; done) | (simp only [World.size_alloc]; omega) | (simp; done) | (simp; omega))); intro A6 c6 w6 ho6 hg6 hl6))))
      have hb6 : Below w.heap.size w w6 := (HB5.out.alloc hs5 _).trans (grown_base hg6 (by simp; omega) (fun z hz => (HO5.out.range z hz).1))
      have HR6 := Lib.hid (recs_grown12 (HR5.out.alloc (.cells ⟨strE y⟩ 9)) hg6 (fun e => by rcases HK.out _ e.symm with q | q <;> omega))
      have hs6 := hb6.size
      have hs6' := hg6.size
      simp at hs6'
      go_roundw
      case rel => exact ⟨k + 1, A6, c6, by omega, rfl, by go_num, Lib.hid (by rw [HT.out]; exact ho6), Lib.hid hb6, HR6, Lib.hid (fun z hz => by
        rcases hl6 z hz with q | q
        · exact HK.out z q
        · simp at q; omega), by omega⟩
      case measure => simp [intOf]; omega
    · obtain rfl : k = m := by omega
      have hI : ¬ (k : Int) < (k : Int) := by omega
      have hc : (PL.take k).map (fun p => timesS p x) = cosL n a k x := by rw [HC.out, List.take_of_length_le (by rw [HL1.out]; omega)]
      have HO2 := HO.out
      rw [hc] at HO2
      have hm1 := HM.out.1
      obtain ⟨g4, rfl, q0, q1, _⟩ := HO2.at_ (by omega)
      have HOO := Lib.hid HO2
      clear HO2 hc
      go_wp2_with fail
      refine (sort_strs HOO.out (by omega)).mono ?_; rintro e w7 ⟨rfl, L7, ho7, hp7, hs7, hg7⟩
      have HB7 := Lib.hid (HB.out.grown hg7 HB.out.size (fun j hj => by injection hj with hj; omega))
      go_wp2
      go_ret
      exact ⟨_, _, _, L7, rfl, HM.out, hm, ho7, hp7, hs7, HB7.out⟩
end Go.Proofs.YtidolgonmimicaaGreat
namespace Go.Proofs.YtidolgonmimicaaGreat
open Go.ChangeShapes Go.WideShapes Go.ChangeAt Go.RowKit Go.Deep
theorem least_head {n m : Nat} {e x : ByteArray} {L : List ByteArray} (hp : L.Perm (cosL n e m x)) (hs : Srt L) (hm : 1 ≤ m) : L[0]? = some (leastS n e m x) := by
  have h : L = (cosL n e m x).mergeSort leS := srt_unique hs (List.pairwise_mergeSort leS_trans leS_total _) (hp.trans (List.mergeSort_perm _ leS).symm)
  have hl : L.length = m := by rw [hp.length_eq, cosL, List.length_map, pwL_len]
  rw [leastS, ← h]
  rcases L with _ | ⟨y, r⟩
  · simp at hl; omega
  · rfl
set_option maxHeartbeats 2000000 in
set_option maxRecDepth 100000 in
theorem impl_leastOnes {a : ByteArray} {n N c M : Nat} {A : Option Addr} {R : List ByteArray} {w : World} (ha : RowN n a) (hM : IsOrd n a M) (hR : ∀ x ∈ R, RowN n x) (hN : R.length = N) (h : Strs w A R) (hz : N ≤ 1048576) :
    Calls Tryz.prog 133 #[.string a, .slice A N c] w fun e w' => ∃ (A' : Option Addr) (c' : Nat), e = .returned (.slice A' N c') ∧ Owned strE 1 9 w' w.heap.size A' N c' (R.map (leastS n a M)) ∧ Below w.heap.size w w' := by
  have HA := Lib.hid ha
  have HM := Lib.hid hM
  have HR := Lib.hid hR
  have HNL := Lib.hid hN
  have HOE := Lib.hid (Owned.empty (base := w.heap.size) (E := 9) strE_len w (Nat.le_refl _))
  have HI := Lib.hid h
  have b0 : Below w.heap.size w (w.alloc (.cells #[] 9)) := by (repeat' (first | (with_reducible exact Below.refl _ _) | (with_reducible assumption) | (with_reducible refine below_drewN ?_ _) | (with_reducible refine Below.drew ?_) | (with_reducible refine below_alloc ?_ _) | (with_reducible refine Below.alloc ?_ ?_ _) | (with_reducible refine Below.setCell ?_ ?_ _) | (with_reducible refine below_go ?_ (by with_reducible assumption)) | (with_reducible refine below_then (by with_reducible assumption) ?_ ?_) | go_size))
  clear h hR
  go_in
  go_wp2
  go_loopw [5, 11] (fun v i wr => ∃ (k : Nat) (A' : Option Addr) (c' : Nat), k ≤ N ∧ v = .slice A' k c' ∧ i = .int .i64 k ∧ Hid (Owned strE 1 9 wr w.heap.size A' k c' ((R.take k).map (leastS n a M))) ∧ Hid (Below w.heap.size w wr)) (fun _ i _ => N - (intOf i).toNat)
  case atStart => exact ⟨0, _, _, Nat.zero_le _, rfl, rfl, HOE, Lib.hid b0⟩
  case round =>
    obtain ⟨k, A4, c4, hk, rfl, rfl, HO, HB⟩ := hrel
    rename World => wr
    have hsz := HB.out.size
    by_cases hlt : k < N
    · have hI : (k : Int) < (N : Int) := by omega
      obtain ⟨b1, o1, x, hA, _, hx, hcx⟩ := (HI.out.below HB.out (Nat.le_refl _)).at_str (k := k) (by rw [HNL.out]; exact hlt)
      subst hA
      have HX := Lib.hid (HR.out x (List.mem_of_getElem? hx))
      have HT := Lib.hid (show (R.take (k + 1)).map (leastS n a M) = (R.take k).map (leastS n a M) ++ [leastS n a M x] from by rw [take_succ_some hx, List.map_append]; rfl)
      clear hx
      go_wp2_with fail
      refine (impl_partSet HA.out HX.out).mono ?_; rintro e w5 ⟨m, A5, c5, L, rfl, hO, hm, ho5, hp, hs, hb5⟩
      obtain rfl : m = M := hO.uniq HM.out
      have hh := least_head hp hs hO.1
      have hpos : 0 < m := hO.1
      obtain ⟨g, rfl, _, _, gc, _⟩ := ho5.at_ hpos
      have cg := gc 0 _ 0 _ hh rfl
      simp only [Nat.mul_one, Nat.add_zero, Nat.zero_mul] at cg
      have HO5 := Lib.hid (HO.out.up hb5)
      have HB5 := Lib.hid (below_go HB.out hb5)
      have hs5 := HB5.out.size
      have hmI : (0 : Int) < (m : Int) := by omega
      obtain ⟨y, hy⟩ : ∃ u, u = leastS n a m x := ⟨_, rfl⟩
      rw [← hy] at HT cg
      clear hy hb5 gc hh ho5 hO hp hs
      go_wp2_with (first | (at_builtin; go_must ((refine wpList_append_recs Tryz.elStr strE_one rfl (.tmp 15) (.tmp 21) rfl rfl (HO5.out.alloc _) rfl (own_lit1_at' strE_len _ 9 y rfl (Nat.le_refl _)).recs rfl ?_ (by decide) ?_ ?_; (focus (first | omega | (simp only [World.size_alloc]; done) | (simp only [World.size_alloc]; omega) | (simp; done) | (simp; omega))); (focus (first | omega | (simp only [World.size_alloc]; done) | (simp only [World.size_alloc]; omega) | (simp; done) | (simp; omega))); intro A6 c6 w6 ho6 hg6 hl6))))
      have hb6 : Below w.heap.size w w6 := (HB5.out.alloc hs5 _).trans (grown_base hg6 (by simp; omega) (fun z hz => (HO5.out.range z hz).1))
      go_roundw
      case rel => exact ⟨k + 1, A6, c6, by omega, rfl, by go_num, Lib.hid (by rw [HT.out]; exact ho6), Lib.hid hb6⟩
      case measure => simp [intOf]; omega
    · obtain rfl : k = N := by omega
      have hI : ¬ (k : Int) < (k : Int) := by omega
      have hc : (R.take k).map (leastS n a M) = R.map (leastS n a M) := by rw [List.take_of_length_le (by rw [HNL.out]; omega)]
      have HO2 := HO.out
      rw [hc] at HO2
      have HO3 := Lib.hid HO2
      clear HO2 hc
      go_wp2
      go_ret
      exact ⟨_, _, rfl, HO3.out, HB.out⟩
end Go.Proofs.YtidolgonmimicaaGreat
namespace Go.Proofs.YtidolgonmimicaaGreat
open Go.ChangeShapes Go.WideShapes Go.ChangeAt Go.RowKit Go.Deep
theorem dec_str (x y : ByteArray) : decide (x = y) = (x.toList == y.toList) := by
  rcases h : (x.toList == y.toList)
  · exact decide_eq_false (fun e => by subst e; simp at h)
  · have h1 : x.toList = y.toList := by simpa using h
    exact decide_eq_true (ba_ext (by rw [← ByteArray.toList_eq, ← ByteArray.toList_eq]; exact h1))
set_option maxHeartbeats 1000000 in
set_option maxRecDepth 100000 in
theorem impl_comesRound {A : Option Addr} {n c st : Nat} {nm : ByteArray} {l : List ByteArray} {kb ks : ByteArray} {t : ByteArray} {w : World} (hn : l.length = n) (h : Strs w A l) (hk : goodK nm (st : Int) l kb ks = true) (hg : goodT t = true) :
    Calls Tryz.prog 142 #[.agg #[.string nm, .int .i64 st, .slice A n c], .agg #[.string kb, .string ks], .string t] w fun e w' => e = .returned (.bool (decide (hdAt st l kb ks t t.size = roundsS st))) ∧ Below w.heap.size w w' := by
  have b0 : Below w.heap.size w ((w.alloc (.cells ⟨[.string nm, .int .i64 st, .slice A n c]⟩ 25)).alloc (.cells ⟨[.string kb, .string ks]⟩ 27)) := by (repeat' (first | (with_reducible exact Below.refl _ _) | (with_reducible assumption) | (with_reducible refine below_drewN ?_ _) | (with_reducible refine Below.drew ?_) | (with_reducible refine below_alloc ?_ _) | (with_reducible refine Below.alloc ?_ ?_ _) | (with_reducible refine Below.setCell ?_ ?_ _) | (with_reducible refine below_go ?_ (by with_reducible assumption)) | (with_reducible refine below_then (by with_reducible assumption) ?_ ?_) | go_size))
  have K0 := (Blk.at_ w 25 [.string nm, .int .i64 st, .slice A n c] (b := w.heap.size) rfl).alloc (.cells ⟨[.string kb, .string ks]⟩ 27)
  have K1 := Blk.at_ (w.alloc (.cells ⟨[.string nm, .int .i64 st, .slice A n c]⟩ 25)) 27 [.string kb, .string ks] (b := w.heap.size + 1) (by simp)
  have h8 := (goodK_all hk).1.2
  go_in
  go_wp2_with fail
  obtain ⟨w0, hw0⟩ : ∃ u, u = ((w.alloc (.cells #[.string nm, .int .i64 st, .slice A n c] 25)).alloc (.cells #[.string kb, .string ks] 27)) := ⟨_, rfl⟩
  rw [← hw0] at b0 K0 K1 ⊢
  clear hw0
  have H0 := Lib.hid (h.up b0)
  have carry : Hid (∀ u : World, Below w0.heap.size w0 u → (u.cell? ⟨w.heap.size, 0, none⟩ = some (.string nm) ∧ u.cell? ⟨w.heap.size, 1, none⟩ = some (.int .i64 st) ∧ u.cell? ⟨w.heap.size, 2, none⟩ = some (.slice A n c)) ∧ u.cell? ⟨w.heap.size + 1, 0, none⟩ = some (.string kb) ∧ u.cell? ⟨w.heap.size + 1, 1, none⟩ = some (.string ks)) := Lib.hid (fun u hu => by
    have L0 := K0.up hu; have L1 := K1.up hu
    exact ⟨⟨by simpa using L0.cell 0, by simpa using L0.cell 1, by simpa using L0.cell 2⟩, by simpa using L1.cell 0, by simpa using L1.cell 1⟩)
  clear h K0 K1
  go_region_held3 (fun u => (u.cell? ⟨w.heap.size, 0, none⟩ = some (.string nm) ∧ u.cell? ⟨w.heap.size, 1, none⟩ = some (.int .i64 st) ∧ u.cell? ⟨w.heap.size, 2, none⟩ = some (.slice A n c)) ∧ u.cell? ⟨w.heap.size + 1, 0, none⟩ = some (.string kb) ∧ u.cell? ⟨w.heap.size + 1, 1, none⟩ = some (.string ks)) (first | exact carry.out _ hb1 | exact carry.out _ (Below.refl _ _) | exact carry.out _ (Below.refl _ _).drew) (first | (go_at_call 140; ((refine (impl_touchEnd hn H0.out.drew hk hg).mono ?_); rintro e w1 ⟨rfl, hbd⟩; have hb1 := below_of_drew hbd)) | (go_at_call 105; ((refine (impl_rounds h8).mono ?_); rintro e w' ⟨rfl, rfl⟩)))
  all_goals
    go_wp2
    go_ret
    rw [dec_str]
    exact ⟨rfl, below_go b0 hb1⟩
set_option maxHeartbeats 1000000 in
theorem impl_IsRound {A : Option Addr} {n c st : Nat} {nm : ByteArray} {l : List ByteArray} {kb ks t : ByteArray} {w : World} (hn : l.length = n) (h : Strs w A l) (hz : n ≤ 1048576) (hs : ∀ s ∈ l, s.size ≤ 16777216) (hnm : nm.size ≤ 16777216) (h9 : st ≤ 1000) (hkb : kb.size ≤ 16777216) (hks : ks.size ≤ 16777216) (ht : t.size ≤ 16777216) :
    Calls Tryz.prog 51 #[.agg #[.string nm, .int .i64 st, .slice A n c], .agg #[.string kb, .string ks], .string t] w fun e w' => e = .returned (.tuple #[.bool (goodF nm (st : Int) l kb ks t && decide (hdAt st l kb ks t t.size = roundsS st)), .bool (goodF nm (st : Int) l kb ks t)]) ∧ Below w.heap.size w w' := by
  have b0 : Below w.heap.size w ((w.alloc (.cells ⟨[.string nm, .int .i64 st, .slice A n c]⟩ 25)).alloc (.cells ⟨[.string kb, .string ks]⟩ 27)) := by (repeat' (first | (with_reducible exact Below.refl _ _) | (with_reducible assumption) | (with_reducible refine below_drewN ?_ _) | (with_reducible refine Below.drew ?_) | (with_reducible refine below_alloc ?_ _) | (with_reducible refine Below.alloc ?_ ?_ _) | (with_reducible refine Below.setCell ?_ ?_ _) | (with_reducible refine below_go ?_ (by with_reducible assumption)) | (with_reducible refine below_then (by with_reducible assumption) ?_ ?_) | go_size))
  have K0 := (Blk.at_ w 25 [.string nm, .int .i64 st, .slice A n c] (b := w.heap.size) rfl).alloc (.cells ⟨[.string kb, .string ks]⟩ 27)
  have J0 := Blk.at_ (w.alloc (.cells ⟨[.string nm, .int .i64 st, .slice A n c]⟩ 25)) 27 [.string kb, .string ks] (b := w.heap.size + 1) (by simp)
  have hI : I64 (st : Int) := ⟨by omega, by omega⟩
  have H0 := h.up b0
  have HG : Hid (goodF nm st l kb ks t = (goodK nm (st : Int) l kb ks && goodT t)) := Lib.hid rfl
  go_in
  go_wp2_with fail
  refine (impl_goodFor (nm := nm) (st := (st : Int)) hn H0 hz hs hnm hI hkb hks ht).mono ?_; rintro e w1 ⟨rfl, hb1⟩
  have K1 := K0.up hb1
  have J1 := J0.up hb1
  have H1 := H0.up hb1
  have B1 := below_go b0 hb1
  clear K0 J0 H0 h b0 hb1
  rcases hg : goodF nm st l kb ks t
  · have e2 := Lib.hid hg
    go_wp2
    go_ret2
    rw [e2.out]
    exact ⟨rfl, B1⟩
  · have e2 := Lib.hid hg
    have hgg := hg
    rw [HG.out, Bool.and_eq_true] at hgg
    have k0 := K1.cell 0; have k1 := K1.cell 1; have k2 := K1.cell 2; have j0 := J1.cell 0; have j1 := J1.cell 1
    simp only [List.getElem?_cons_zero, List.getElem?_cons_succ] at k0 k1 k2 j0 j1
    go_wp2_with fail
    refine (impl_comesRound (t := t) hn H1 hgg.1 hgg.2).mono ?_; rintro e w2 ⟨rfl, hb2⟩
    go_wp2
    go_ret2
    rw [e2.out, Bool.true_and]
    exact ⟨rfl, below_go B1 hb2⟩
end Go.Proofs.YtidolgonmimicaaGreat
namespace Go.Proofs.YtidolgonmimicaaGreat
open Go.ChangeShapes Go.WideShapes Go.ChangeAt Go.RowKit Go.Deep
open Go.Maps (Keyed string_keyed)
def cP (f : Nat → Nat → Bool) (m i : Nat) : Prop := ∀ a k, a < i → a < k → k < m → f k a = false
def cQ2 (f : Nat → Nat → Bool) (m i k : Nat) : Prop := cP f m i ∧ ∀ j, i < j → j < k → f j i = false
section
variable {f : Nat → Nat → Bool} {m i k : Nat}
theorem cP_zero : cP f m 0 := fun a k h => absurd h (by omega)
theorem cQ2_start : cQ2 f m i (i + 1) ↔ cP f m i := ⟨fun h => h.1, fun h => ⟨h, fun j h1 h2 => absurd h1 (by omega)⟩⟩
theorem cQ2_end : cQ2 f m i m ↔ cP f m (i + 1) := by
  constructor
  · rintro ⟨h1, h2⟩ a k ha hk hm
    rcases Nat.lt_or_ge a i with z | z
    · exact h1 a k z hk hm
    · obtain rfl : a = i := by omega
      exact h2 k hk hm
  · intro h
    exact ⟨fun a k ha hk hm => h a k (by omega) hk hm, fun j h1 h2 => h i j (by omega) h1 h2⟩
theorem cQ2_no (h : f k i = false) (hk : i < k) : cQ2 f m i (k + 1) ↔ cQ2 f m i k := by
  constructor
  · rintro ⟨h1, h2⟩
    exact ⟨h1, fun j a b => h2 j a (by omega)⟩
  · rintro ⟨h1, h2⟩
    refine ⟨h1, fun j a b => ?_⟩
    rcases Nat.lt_or_ge j k with z | z
    · exact h2 j a z
    · obtain rfl : j = k := by omega
      exact h
theorem cQ2_yes (h : f k i = true) (hk : i < k) : ¬ cQ2 f m i (k + 1) := fun q => by
  have := q.2 k hk (by omega)
  rw [h] at this; cases this
end
theorem free_cP {st : Nat} {l : List ByteArray} {b s t : ByteArray} {m : Nat} : cP (clsAt st l b s t) m m ↔ FreeH st l b s t m :=
  ⟨fun h i k hik hk => h i k (by omega) hik hk, fun h a k _ hk hm => h a k hk hm⟩
def ClR (st : Nat) (l : List ByteArray) (b s t : ByteArray) (m : Nat) (w : World) (e : Ending) (w' : World) : Prop := ∃ (A' : Option Addr) (q c' : Nat), e = .returned (.slice A' q c') ∧ q ≤ 3600 ∧ (q = 0 ↔ FreeH st l b s t m) ∧ Below w.heap.size w w'
theorem ClR.mk {st : Nat} {l : List ByteArray} {b s t : ByteArray} {m : Nat} {w w' : World} {e : Ending} (A' : Option Addr) (q c' : Nat) (he : e = .returned (.slice A' q c')) (h1 : q ≤ 3600) (h2 : q = 0 ↔ FreeH st l b s t m) (h3 : Below w.heap.size w w') : ClR st l b s t m w e w' := ⟨A', q, c', he, h1, h2, h3⟩
theorem own_lit2i (w : World) (E : TypeId) (x y : Int) {base : Nat} (hb : base ≤ w.heap.size) : Owned intE 1 E (w.alloc (.cells #[.int .i64 x, .int .i64 y] E)) base (some ⟨w.heap.size, 0, none⟩) 2 2 [x, y] :=
  ⟨intE_len, rfl, by simpa [intE] using World.ownsRow_lit (e := E) (base := base) (size := 1) w #[.int .i64 x, .int .i64 y] 2 hb (by unfold maxLen; omega) (by simp)⟩
set_option maxHeartbeats 4000000 in
set_option maxRecDepth 100000 in
theorem spec_l11Clashes {A : Option Addr} {n c st : Nat} {nm : ByteArray} {l : List ByteArray} {kb ks t : ByteArray} {B : Option Addr} {m d : Nat} {w : World} (hn : l.length = n) (h : Strs w A l) (hz : n ≤ 1048576) (hs : ∀ s ∈ l, s.size ≤ 16777216) (hnm : nm.size ≤ 16777216) (h9 : st ≤ 1000) (hk : goodK nm (st : Int) l kb ks = true) (hB : Strs w B (hdsL st l kb ks t m)) (hm : m ≤ 60) :
    Calls Tryz.prog 179 #[.agg #[.string nm, .int .i64 st, .slice A n c], .slice B m d] w fun e w' => ClR st l kb ks t m w e w' := by
  have h38 := (goodK_all hk).1
  have hGM := (goodK_t hk).1
  have h40 := (goodK_all hk).2.1
  have b0 : Below w.heap.size w (w.alloc (.cells ⟨[.string nm, .int .i64 st, .slice A n c]⟩ 25)) := by (repeat' (first | (with_reducible exact Below.refl _ _) | (with_reducible assumption) | (with_reducible refine below_drewN ?_ _) | (with_reducible refine Below.drew ?_) | (with_reducible refine below_alloc ?_ _) | (with_reducible refine Below.alloc ?_ ?_ _) | (with_reducible refine Below.setCell ?_ ?_ _) | (with_reducible refine below_go ?_ (by with_reducible assumption)) | (with_reducible refine below_then (by with_reducible assumption) ?_ ?_) | go_size))
  have KSS := string_keyed (P := Tryz.prog) (k := 9) Tryz.underlying9
  have HRN := Lib.hid (fun j => hdAt_good h38.1 h38.2 l kb ks t j)
  have HFR := Lib.hid (@free_cP st l kb ks t m)
  have HCL := Lib.hid (fun (k i : Nat) => show clsAt st l kb ks t k i = inL (falL (leadL st l)) (timesS (turnS (hdAt st l kb ks t i)) (hdAt st l kb ks t k)) from rfl)
  have HBW := Lib.hid hB
  go_in
  go_wp2_with fail
  refine (spec_l11Heads (nm := nm) hn (h.up b0) hz hs hnm h9 hGM).mono ?_; rintro e w1 ⟨A1, n1, c1, rfl, ho1, hn1, hb1⟩
  have hn1p : 0 < n1 := by
    rw [← ho1.len]
    refine List.length_pos_iff.2 (fun e => ?_)
    have hr := falS_mem.2 (falL_rounds (leadL_row h38.1 h38.2 l) (fun e2 => by
      have h5 := leadL_len st l
      rw [e2] at h5
      have h6 := (goodM_t hGM).2.2.1.1
      simp at h5; omega))
    rw [e] at hr
    cases hr
  obtain ⟨g, rfl, g0, g1, _⟩ := ho1.at_ hn1p
  have HLF := Lib.hid ho1.recs
  have HN1 := Lib.hid ho1.len
  have HFM := Lib.hid (fun x => show inL (falS (leadL st l)) x = inL (falL (leadL st l)) x from by rw [Bool.eq_iff_iff, inL_iff, inL_iff, falS_mem])
  have B1 := below_go b0 hb1
  have HE := Lib.hid (Owned.nil (α := Hd) slcE_len 134 w1 w.heap.size)
  have HKS : Hid (∀ z, (Value.slice none 0 0).ownBlock = some z → w1.heap.size ≤ z) := Lib.hid (fun z hz => by simp [Value.ownBlock] at hz)
  have HS1 := Lib.hid (Nat.le_refl w1.heap.size)
  clear ho1 hb1 b0 h hB
  go_wp2
  have HB1W := Lib.hid B1
  clear B1
  go_loopw [6, 13] (fun v i wr => ∃ (a : Nat) (A' : Option Addr) (q c' : Nat) (vs : List Hd), a ≤ m ∧ q ≤ 60 * a ∧ v = .slice A' q c' ∧ i = .int .i64 a ∧ Hid (q = 0 ↔ cP (clsAt st l kb ks t) m a) ∧ Hid (Owned slcE 1 134 wr w.heap.size A' q c' vs) ∧ Hid (Below w.heap.size w wr) ∧ Hid (Strs wr (some ⟨g, 0, none⟩) (falS (leadL st l))) ∧ Hid (∀ z, (Value.slice A' q c').ownBlock = some z → w1.heap.size ≤ z) ∧ Hid (w1.heap.size ≤ wr.heap.size)) (fun _ i _ => m - (intOf i).toNat)
  case atStart => exact ⟨0, _, 0, _, [], Nat.zero_le _, Nat.zero_le _, rfl, rfl, Lib.hid (by simp; exact cP_zero), HE, HB1W, HLF, HKS, HS1⟩
  case round =>
    obtain ⟨a, A3, q, c3, vs, ha, hq, rfl, rfl, HQ, HO, HB, HL3, HK3, HZ3⟩ := hrel
    rename World => wo
    by_cases hlt : a < m
    · have hI : (a : Int) < (m : Int) := by omega
      have hwa : IntKind.i64.wrap ((a : Int) + 1) = ((a + 1 : Nat) : Int) := by rw [wrap_id (by omega)]; omega
      obtain ⟨b3, o3, x, e3, hb3l, hx, hcx⟩ := (HBW.out.up HB.out).at_str (k := a) (by rw [hdsL_len]; exact hlt)
      subst e3
      rw [hdsL_at hlt] at hx
      injection hx with hx
      subst hx
      have HCA := Lib.hid (fun (u : World) (hu : Below w.heap.size w u) (k : Nat) (hk : k < m) => show u.cell? ⟨b3, o3 + k, none⟩ = some (.string (hdAt st l kb ks t k)) from by
        obtain ⟨b4, o4, y, e4, _, hy, hcy⟩ := (HBW.out.up hu).at_str (k := k) (by rw [hdsL_len]; exact hk)
        injection e4 with e4
        injection e4 with e4 e5
        subst e4 e5
        rw [hdsL_at hk] at hy
        injection hy with hy
        rw [hcy, hy])
      have HQ2 := Lib.hid (HQ.out.trans cQ2_start.symm)
      go_wp2
      go_loopw [6, 8] (fun v i wr => ∃ (k : Nat) (A' : Option Addr) (q c' : Nat) (vs : List Hd), a < k ∧ k ≤ m ∧ q ≤ 60 * a + k ∧ v = .slice A' q c' ∧ i = .int .i64 k ∧ Hid (q = 0 ↔ cQ2 (clsAt st l kb ks t) m a k) ∧ Hid (Owned slcE 1 134 wr w.heap.size A' q c' vs) ∧ Hid (Below w.heap.size w wr) ∧ Hid (Strs wr (some ⟨g, 0, none⟩) (falS (leadL st l))) ∧ Hid (∀ z, (Value.slice A' q c').ownBlock = some z → w1.heap.size ≤ z) ∧ Hid (w1.heap.size ≤ wr.heap.size)) (fun _ i _ => m - (intOf i).toNat)
      case atStart => exact ⟨a + 1, A3, q, c3, vs, Nat.lt_succ_self _, hlt, by omega, rfl, by go_num, HQ2, HO, HB, HL3, HK3, HZ3⟩
      case round =>
        obtain ⟨k, A4, q4, c4, vs4, hak, hkm, hq4, rfl, rfl, HQ4, HO4, HB4, HL4, HK4, HZ4⟩ := hrel
        rename World => wi
        by_cases hlk : k < m
        · have hI2 : (k : Int) < (m : Int) := by omega
          have hwk : IntKind.i64.wrap ((k : Int) + 1) = ((k + 1 : Nat) : Int) := by rw [wrap_id (by omega)]; omega
          have hRa := HRN.out a
          have hRk := HRN.out k
          have haz : (hdAt st l kb ks t a).size ≤ 16777216 := by rw [hRa.2]; omega
          have hkz : (hdAt st l kb ks t k).size ≤ 16777216 := by rw [hRk.2]; omega
          go_upto_region 9 with fail
          have C0 : Below wi.heap.size wi wi.drew := (Below.refl _ _).drew
          have CA : Hid (∀ u : World, Below wi.heap.size wi u → u.cell? ⟨b3, o3 + a, none⟩ = some (.string (hdAt st l kb ks t a)) ∧ u.cell? ⟨b3, o3 + k, none⟩ = some (.string (hdAt st l kb ks t k))) := Lib.hid (fun u hu => ⟨HCA.out u (below_go HB4.out hu) a hlt, HCA.out u (below_go HB4.out hu) k hlk⟩)
          refine wp_region_held_drew (S := fun u => u.cell? ⟨b3, o3 + a, none⟩ = some (.string (hdAt st l kb ks t a)) ∧ u.cell? ⟨b3, o3 + k, none⟩ = some (.string (hdAt st l kb ks t k))) (by kernel_rfl) (CA.out _ C0) (fun hHeld => ?_)
          refine wpAnyH_take (i := 0) (oi := { dst := some 24, op := _, type := _, pos := _, after := _, guard := _ }) (v := ?_) rfl (by kernel_rfl) (by kernel_rfl) (by kernel_rfl) (fun _ _ _ h => h) (Or.inl ⟨by rfl, ?_⟩) (by assumption) ?_
          rotate_left
          · (intro w hSw; (try dsimp only at hSw); go_simp) <;> with_reducible rfl
          (try simp only [Act.put, List.setIfInBounds_toArray, List.set_cons_zero, List.set_cons_succ])
          refine wpAnyH_take (i := 1) (oi := { dst := some 25, op := _, type := _, pos := _, after := _, guard := _ }) (v := ?_) rfl (by kernel_rfl) (by kernel_rfl) (by kernel_rfl) (fun _ _ _ h => h) (Or.inl ⟨by rfl, ?_⟩) (by assumption) ?_
          rotate_left
          · (intro w hSw; (try dsimp only at hSw); go_simp) <;> with_reducible rfl
          (try simp only [Act.put, List.setIfInBounds_toArray, List.set_cons_zero, List.set_cons_succ])
          refine wpAnyH_take (i := 2) (oi := { dst := some 26, op := _, type := _, pos := _, after := _, guard := _ }) (v := ?_) rfl (by kernel_rfl) (by kernel_rfl) (by kernel_rfl) (fun _ _ _ h => h) (Or.inl ⟨by rfl, ?_⟩) (by assumption) ?_
          rotate_left
          · (intro w hSw; (try dsimp only at hSw); go_simp) <;> with_reducible rfl
          (try simp only [Act.put, List.setIfInBounds_toArray, List.set_cons_zero, List.set_cons_succ])
          refine wpAnyH_take (i := 3) (oi := { dst := some 27, op := _, type := _, pos := _, after := _, guard := _ }) (v := ?_) rfl (by kernel_rfl) (by kernel_rfl) (by kernel_rfl) (fun _ _ _ h => h) (Or.inl ⟨by rfl, ?_⟩) (by assumption) ?_
          rotate_left
          · (intro w hSw; (try dsimp only at hSw); go_simp) <;> with_reducible rfl
          (try simp only [Act.put, List.setIfInBounds_toArray, List.set_cons_zero, List.set_cons_succ])
          refine wpAnyH_take (i := 4) (oi := { dst := some 28, op := _, type := _, pos := _, after := _, guard := _ }) (v := ?_) rfl (by kernel_rfl) (by kernel_rfl) (by kernel_rfl) (fun _ _ _ h => h) (Or.inl ⟨by rfl, ?_⟩) (by assumption) ?_
          rotate_left
          · (intro w hSw; (try dsimp only at hSw); go_simp) <;> with_reducible rfl
          (try simp only [Act.put, List.setIfInBounds_toArray, List.set_cons_zero, List.set_cons_succ])
          refine wpAnyH_take (i := 6) (oi := { dst := some 30, op := _, type := _, pos := _, after := _, guard := _ }) (v := ?_) rfl (by kernel_rfl) (by kernel_rfl) (by kernel_rfl) (fun _ _ _ h => h) (Or.inl ⟨by rfl, ?_⟩) (by assumption) ?_
          rotate_left
          · (intro w hSw; (try dsimp only at hSw); go_simp) <;> with_reducible rfl
          (try simp only [Act.put, List.setIfInBounds_toArray, List.set_cons_zero, List.set_cons_succ])
          refine wpAnyH_take (i := 7) (oi := { dst := some 31, op := _, type := _, pos := _, after := _, guard := _ }) (v := ?_) rfl (by kernel_rfl) (by kernel_rfl) (by kernel_rfl) (fun _ _ _ h => h) (Or.inl ⟨by rfl, ?_⟩) (by assumption) ?_
          rotate_left
          · (intro w hSw; (try dsimp only at hSw); go_simp) <;> with_reducible rfl
          (try simp only [Act.put, List.setIfInBounds_toArray, List.set_cons_zero, List.set_cons_succ])
          refine wpAnyH_take (i := 8) (oi := { dst := some 32, op := _, type := _, pos := _, after := _, guard := _ }) (v := ?_) rfl (by kernel_rfl) (by kernel_rfl) (by kernel_rfl) (fun _ _ _ h => h) (Or.inl ⟨by rfl, ?_⟩) (by assumption) ?_
          rotate_left
          · (intro w hSw; (try dsimp only at hSw); go_simp) <;> with_reducible rfl
          (try simp only [Act.put, List.setIfInBounds_toArray, List.set_cons_zero, List.set_cons_succ])
          refine wpAnyH_take (i := 9) (oi := { dst := some 33, op := _, type := _, pos := _, after := _, guard := _ }) (v := ?_) rfl (by kernel_rfl) (by kernel_rfl) (by kernel_rfl) (fun _ _ _ h => h) (Or.inl ⟨by rfl, ?_⟩) (by assumption) ?_
          rotate_left
          · (intro w hSw; (try dsimp only at hSw); go_simp) <;> with_reducible rfl
          (try simp only [Act.put, List.setIfInBounds_toArray, List.set_cons_zero, List.set_cons_succ])
          refine wpAnyH_ready (rs := [5]) (by kernel_rfl) (by simp) ?_
          refine AllReadyH.cons (o := _) rfl (fun K hK => ?_) AllReadyH.nil
          go_simp
          refine (spec_l1Turn hRa.1).mono ?_; rintro e w3 ⟨rfl, hb3, hrt⟩
          have C1 := below_go C0 hb3
          rw [hRa.2] at hrt
          have hft := rowN_fits hrt hRk
          have htz : (turnS (hdAt st l kb ks t a)).size ≤ 16777216 := by rw [hrt.2]; omega
          have hRR := hrt.times hRk
          try go_wp2_with fail
          refine hK.out _ _ (CA.out _ C1) (fun hHeld => ?_)
          clear hK K
          (try simp only [Act.put, List.setIfInBounds_toArray, List.set_cons_zero, List.set_cons_succ])
          refine wpAnyH_ready (rs := [10]) (by kernel_rfl) (by simp) ?_
          refine AllReadyH.cons (o := _) rfl (fun K hK => ?_) AllReadyH.nil
          go_simp
          refine (spec_l1Times htz hkz hft).mono ?_; rintro e w4 ⟨rfl, hw4⟩
          have C2 : Below wi.heap.size wi w4 := by rw [← hw4]; exact C1
          try go_wp2_with fail
          refine hK.out _ _ (CA.out _ C2) (fun hHeld => ?_)
          clear hK K
          (try simp only [Act.put, List.setIfInBounds_toArray, List.set_cons_zero, List.set_cons_succ])
          refine wpAnyH_ready (rs := [11]) (by kernel_rfl) (by simp) ?_
          refine AllReadyH.cons (o := _) rfl (fun K hK => ?_) AllReadyH.nil
          go_simp
          refine (spec_l1HasS HN1.out (HL4.out.up C2) (by omega)).mono ?_; rw [HFM.out, ← HCL.out k a]; rintro e w5 ⟨rfl, hw5⟩
          have C3 : Below wi.heap.size wi w5 := by rw [← hw5]; exact C2
          try go_wp2_with fail
          refine hK.out _ _ (CA.out _ C3) (fun hHeld => ?_)
          clear hK K
          (try simp only [Act.put, List.setIfInBounds_toArray, List.set_cons_zero, List.set_cons_succ])
          refine wpAnyH_done (by kernel_rfl) ?_ _
          (try simp only [Act.put, List.setIfInBounds_toArray, List.set_cons_zero, List.set_cons_succ])
          have HO5 := Lib.hid (HO4.out.up C3)
          have HB5 := Lib.hid (below_go HB4.out C3)
          have HL5 := Lib.hid (HL4.out.up C3)
          have HZ5 := Lib.hid (Nat.le_trans HZ4.out C3.size)
          have hs5 := HB5.out.size
          rcases hcl : clsAt st l kb ks t k a
          · have HQ5 := Lib.hid (HQ4.out.trans (cQ2_no hcl hak).symm)
            clear hcl
            go_wp2
            go_roundw
            case rel => exact ⟨k + 1, A4, q4, c4, vs4, by omega, by omega, by omega, rfl, by go_num, HQ5, HO5, HB5, HL5, HK4, HZ5⟩
            case measure => simp [intOf]; omega
          · have HQ5 := Lib.hid (show q4 + 1 = 0 ↔ cQ2 (clsAt st l kb ks t) m a (k + 1) from ⟨fun e => absurd e (by omega), fun e => absurd e (cQ2_yes hcl hak)⟩)
            clear hcl
            go_wp2_with (first | (at_builtin; go_must ((refine wpList_append_recs Tryz.elInts slcE_one rfl (.tmp 36) (.tmp 40) rfl rfl ((HO5.out.alloc _).alloc _) rfl (own_lit1_at' slcE_len (w5.alloc (.cells #[.int .i64 (a : Int), .int .i64 (k : Int)] 3)) 134 (some ⟨w5.heap.size, 0, none⟩, 2, 2) (by simp) (Nat.le_refl _)).recs rfl ?_ (by decide) ?_ ?_; (focus (first | omega | (simp only [World.size_alloc]; done) | (simp only [World.size_alloc]; omega) | (simp; done) | (simp; omega))); (focus (first | omega | (simp only [World.size_alloc]; done) | (simp only [World.size_alloc]; omega) | (simp; done) | (simp; omega))); intro A6 c6 w6 ho6 hg6 hl6))))
            have hb6 : Below w.heap.size w w6 := ((HB5.out.alloc hs5 (.cells #[.int .i64 (a : Int), .int .i64 (k : Int)] 3)).alloc (by simp; omega) (.cells ⟨slcE (some ⟨w5.heap.size, 0, none⟩, 2, 2)⟩ 134)).trans (grown_base hg6 (by simp; omega) (fun z hz => (HO5.out.range z hz).1))
            have hzz := HZ5.out
            have HL6 : Hid (Strs w6 (some ⟨g, 0, none⟩) (falS (leadL st l))) := Lib.hid (recs_grown12 ((HL5.out.alloc (.cells #[.int .i64 (a : Int), .int .i64 (k : Int)] 3)).alloc (.cells ⟨slcE (some ⟨w5.heap.size, 0, none⟩, 2, 2)⟩ 134)) hg6 (fun e => by have := HK4.out _ e.symm; omega))
            have hs6 := hg6.size
            simp at hs6
            go_roundw
            case rel => exact ⟨k + 1, A6, q4 + 1, c6, _, by omega, by omega, by omega, rfl, by go_num, HQ5, Lib.hid ho6, Lib.hid hb6, HL6, Lib.hid (fun z hz => by
              rcases hl6 z hz with q | q
              · exact HK4.out z q
              · simp at q; omega), Lib.hid (by omega)⟩
            case measure => simp [intOf]; omega
        · obtain rfl : k = m := by omega
          have hI2 : ¬ (k : Int) < (k : Int) := by omega
          have HQ5 := Lib.hid (HQ4.out.trans cQ2_end)
          go_wp2
          go_roundw
          case rel => exact ⟨a + 1, A4, q4, c4, vs4, by omega, by omega, rfl, by go_num, HQ5, HO4, HB4, HL4, HK4, HZ4⟩
          case measure => simp [intOf]; omega
    · obtain rfl : a = m := by omega
      have hI : ¬ (a : Int) < (a : Int) := by omega
      have HQ5 := Lib.hid (HQ.out.trans HFR.out)
      go_wp2
      go_ret
      exact ClR.mk _ _ _ rfl (by omega) HQ5.out HB.out
set_option maxHeartbeats 4000000 in
set_option maxRecDepth 100000 in
theorem impl_clashes {A : Option Addr} {n c st : Nat} {nm : ByteArray} {l : List ByteArray} {kb ks t : ByteArray} {B : Option Addr} {m d : Nat} {w : World} (hn : l.length = n) (h : Strs w A l) (hz : n ≤ 1048576) (hs : ∀ s ∈ l, s.size ≤ 16777216) (hnm : nm.size ≤ 16777216) (h9 : st ≤ 1000) (hk : goodK nm (st : Int) l kb ks = true) (hB : Strs w B (hdsL st l kb ks t m)) (hm : m ≤ 60) :
    Calls Tryz.prog 245 #[.agg #[.string nm, .int .i64 st, .slice A n c], .slice B m d] w fun e w' => ClR st l kb ks t m w e w' := by
  have h38 := (goodK_all hk).1
  have hGM := (goodK_t hk).1
  have h40 := (goodK_all hk).2.1
  have b0 : Below w.heap.size w (w.alloc (.cells ⟨[.string nm, .int .i64 st, .slice A n c]⟩ 25)) := by (repeat' (first | (with_reducible exact Below.refl _ _) | (with_reducible assumption) | (with_reducible refine below_drewN ?_ _) | (with_reducible refine Below.drew ?_) | (with_reducible refine below_alloc ?_ _) | (with_reducible refine Below.alloc ?_ ?_ _) | (with_reducible refine Below.setCell ?_ ?_ _) | (with_reducible refine below_go ?_ (by with_reducible assumption)) | (with_reducible refine below_then (by with_reducible assumption) ?_ ?_) | go_size))
  have KSS := string_keyed (P := Tryz.prog) (k := 9) Tryz.underlying9
  have HRN := Lib.hid (fun j => hdAt_good h38.1 h38.2 l kb ks t j)
  have HFR := Lib.hid (@free_cP st l kb ks t m)
  have HCL := Lib.hid (fun (k i : Nat) => show clsAt st l kb ks t k i = inL (falL (leadL st l)) (timesS (turnS (hdAt st l kb ks t i)) (hdAt st l kb ks t k)) from rfl)
  have HBW := Lib.hid hB
  go_in
  go_wp2_with fail
  refine (impl_falseSet (nm := nm) hn (h.up b0) hz hs hnm h9 hGM).mono ?_; rintro e w1 ⟨b, rfl, hm1, _, hb1⟩
  have hblt := hm1.lt
  have HLF := Lib.hid (hm1.alloc (.cells #[] 134))
  have b1 : Below w1.heap.size w1 (w1.alloc (.cells #[] 134)) := by (repeat' (first | (with_reducible exact Below.refl _ _) | (with_reducible assumption) | (with_reducible refine below_drewN ?_ _) | (with_reducible refine Below.drew ?_) | (with_reducible refine below_alloc ?_ _) | (with_reducible refine Below.alloc ?_ ?_ _) | (with_reducible refine Below.setCell ?_ ?_ _) | (with_reducible refine below_go ?_ (by with_reducible assumption)) | (with_reducible refine below_then (by with_reducible assumption) ?_ ?_) | go_size))
  have B0 := below_go b0 hb1
  have HE := Lib.hid (Owned.empty (α := Hd) (e := slcE) (s := 1) (base := w.heap.size) slcE_len 134 w1 B0.size)
  have B1 := below_go B0 b1
  have HKS : Hid (∀ z, (Value.slice (some ⟨w1.heap.size, 0, none⟩) 0 0).ownBlock = some z → w1.heap.size ≤ z) := Lib.hid (fun z hz => by simp [Value.ownBlock] at hz; omega)
  have HS1 := Lib.hid (show w1.heap.size ≤ (w1.alloc (.cells #[] 134)).heap.size by simp)
  clear hm1 hb1 b0 b1 B0 h hB
  go_wp2
  have HB1W := Lib.hid B1
  clear B1
  go_loopw [6, 16] (fun v i wr => ∃ (a : Nat) (A' : Option Addr) (q c' : Nat) (vs : List Hd), a ≤ m ∧ q ≤ 60 * a ∧ v = .slice A' q c' ∧ i = .int .i64 a ∧ Hid (q = 0 ↔ cP (clsAt st l kb ks t) m a) ∧ Hid (Owned slcE 1 134 wr w.heap.size A' q c' vs) ∧ Hid (Below w.heap.size w wr) ∧ Hid (SetX Tryz.prog wr 9 4 b (falL (leadL st l))) ∧ Hid (∀ z, (Value.slice A' q c').ownBlock = some z → w1.heap.size ≤ z) ∧ Hid (w1.heap.size ≤ wr.heap.size)) (fun _ i _ => m - (intOf i).toNat)
  case atStart => exact ⟨0, _, 0, _, [], Nat.zero_le _, Nat.zero_le _, rfl, rfl, Lib.hid (by simp; exact cP_zero), HE, HB1W, HLF, HKS, HS1⟩
  case round =>
    obtain ⟨a, A3, q, c3, vs, ha, hq, rfl, rfl, HQ, HO, HB, HL3, HK3, HZ3⟩ := hrel
    rename World => wo
    by_cases hlt : a < m
    · have hI : (a : Int) < (m : Int) := by omega
      have hwa : IntKind.i64.wrap ((a : Int) + 1) = ((a + 1 : Nat) : Int) := by rw [wrap_id (by omega)]; omega
      obtain ⟨b3, o3, x, e3, hb3l, hx, hcx⟩ := (HBW.out.up HB.out).at_str (k := a) (by rw [hdsL_len]; exact hlt)
      subst e3
      rw [hdsL_at hlt] at hx
      injection hx with hx
      subst hx
      have HCA := Lib.hid (fun (u : World) (hu : Below w.heap.size w u) (k : Nat) (hk : k < m) => show u.cell? ⟨b3, o3 + k, none⟩ = some (.string (hdAt st l kb ks t k)) from by
        obtain ⟨b4, o4, y, e4, _, hy, hcy⟩ := (HBW.out.up hu).at_str (k := k) (by rw [hdsL_len]; exact hk)
        injection e4 with e4
        injection e4 with e4 e5
        subst e4 e5
        rw [hdsL_at hk] at hy
        injection hy with hy
        rw [hcy, hy])
      have HQ2 := Lib.hid (HQ.out.trans cQ2_start.symm)
      go_wp2
      go_loopw [6, 9] (fun v i wr => ∃ (k : Nat) (A' : Option Addr) (q c' : Nat) (vs : List Hd), a < k ∧ k ≤ m ∧ q ≤ 60 * a + k ∧ v = .slice A' q c' ∧ i = .int .i64 k ∧ Hid (q = 0 ↔ cQ2 (clsAt st l kb ks t) m a k) ∧ Hid (Owned slcE 1 134 wr w.heap.size A' q c' vs) ∧ Hid (Below w.heap.size w wr) ∧ Hid (SetX Tryz.prog wr 9 4 b (falL (leadL st l))) ∧ Hid (∀ z, (Value.slice A' q c').ownBlock = some z → w1.heap.size ≤ z) ∧ Hid (w1.heap.size ≤ wr.heap.size)) (fun _ i _ => m - (intOf i).toNat)
      case atStart => exact ⟨a + 1, A3, q, c3, vs, Nat.lt_succ_self _, hlt, by omega, rfl, by go_num, HQ2, HO, HB, HL3, HK3, HZ3⟩
      case round =>
        obtain ⟨k, A4, q4, c4, vs4, hak, hkm, hq4, rfl, rfl, HQ4, HO4, HB4, HL4, HK4, HZ4⟩ := hrel
        rename World => wi
        by_cases hlk : k < m
        · have hI2 : (k : Int) < (m : Int) := by omega
          have hwk : IntKind.i64.wrap ((k : Int) + 1) = ((k + 1 : Nat) : Int) := by rw [wrap_id (by omega)]; omega
          have hRa := HRN.out a
          have hRk := HRN.out k
          have haz : (hdAt st l kb ks t a).size ≤ 16777216 := by rw [hRa.2]; omega
          have hkz : (hdAt st l kb ks t k).size ≤ 16777216 := by rw [hRk.2]; omega
          go_upto_region 9 with fail
          have C0 : Below wi.heap.size wi wi.drew := (Below.refl _ _).drew
          have CA : Hid (∀ u : World, Below wi.heap.size wi u → u.cell? ⟨b3, o3 + a, none⟩ = some (.string (hdAt st l kb ks t a)) ∧ u.cell? ⟨b3, o3 + k, none⟩ = some (.string (hdAt st l kb ks t k))) := Lib.hid (fun u hu => ⟨HCA.out u (below_go HB4.out hu) a hlt, HCA.out u (below_go HB4.out hu) k hlk⟩)
          refine wp_region_held_drew (S := fun u => u.cell? ⟨b3, o3 + a, none⟩ = some (.string (hdAt st l kb ks t a)) ∧ u.cell? ⟨b3, o3 + k, none⟩ = some (.string (hdAt st l kb ks t k))) (by kernel_rfl) (CA.out _ C0) (fun hHeld => ?_)
          refine wpAnyH_take (i := 0) (oi := { dst := some 29, op := _, type := _, pos := _, after := _, guard := _ }) (v := ?_) rfl (by kernel_rfl) (by kernel_rfl) (by kernel_rfl) (fun _ _ _ h => h) (Or.inl ⟨by rfl, ?_⟩) (by assumption) ?_
          rotate_left
          · (intro w hSw; (try dsimp only at hSw); go_simp) <;> with_reducible rfl
          (try simp only [Act.put, List.setIfInBounds_toArray, List.set_cons_zero, List.set_cons_succ])
          refine wpAnyH_take (i := 1) (oi := { dst := some 30, op := _, type := _, pos := _, after := _, guard := _ }) (v := ?_) rfl (by kernel_rfl) (by kernel_rfl) (by kernel_rfl) (fun _ _ _ h => h) (Or.inl ⟨by rfl, ?_⟩) (by assumption) ?_
          rotate_left
          · (intro w hSw; (try dsimp only at hSw); go_simp) <;> with_reducible rfl
          (try simp only [Act.put, List.setIfInBounds_toArray, List.set_cons_zero, List.set_cons_succ])
          refine wpAnyH_take (i := 3) (oi := { dst := some 32, op := _, type := _, pos := _, after := _, guard := _ }) (v := ?_) rfl (by kernel_rfl) (by kernel_rfl) (by kernel_rfl) (fun _ _ _ h => h) (Or.inl ⟨by rfl, ?_⟩) (by assumption) ?_
          rotate_left
          · (intro w hSw; (try dsimp only at hSw); go_simp) <;> with_reducible rfl
          (try simp only [Act.put, List.setIfInBounds_toArray, List.set_cons_zero, List.set_cons_succ])
          refine wpAnyH_take (i := 4) (oi := { dst := some 33, op := _, type := _, pos := _, after := _, guard := _ }) (v := ?_) rfl (by kernel_rfl) (by kernel_rfl) (by kernel_rfl) (fun _ _ _ h => h) (Or.inl ⟨by rfl, ?_⟩) (by assumption) ?_
          rotate_left
          · (intro w hSw; (try dsimp only at hSw); go_simp) <;> with_reducible rfl
          (try simp only [Act.put, List.setIfInBounds_toArray, List.set_cons_zero, List.set_cons_succ])
          refine wpAnyH_take (i := 5) (oi := { dst := some 34, op := _, type := _, pos := _, after := _, guard := _ }) (v := ?_) rfl (by kernel_rfl) (by kernel_rfl) (by kernel_rfl) (fun _ _ _ h => h) (Or.inl ⟨by rfl, ?_⟩) (by assumption) ?_
          rotate_left
          · (intro w hSw; (try dsimp only at hSw); go_simp) <;> with_reducible rfl
          (try simp only [Act.put, List.setIfInBounds_toArray, List.set_cons_zero, List.set_cons_succ])
          refine wpAnyH_take (i := 6) (oi := { dst := some 35, op := _, type := _, pos := _, after := _, guard := _ }) (v := ?_) rfl (by kernel_rfl) (by kernel_rfl) (by kernel_rfl) (fun _ _ _ h => h) (Or.inl ⟨by rfl, ?_⟩) (by assumption) ?_
          rotate_left
          · (intro w hSw; (try dsimp only at hSw); go_simp) <;> with_reducible rfl
          (try simp only [Act.put, List.setIfInBounds_toArray, List.set_cons_zero, List.set_cons_succ])
          refine wpAnyH_ready (rs := [2]) (by kernel_rfl) (by simp) ?_
          refine AllReadyH.cons (o := _) rfl (fun K hK => ?_) AllReadyH.nil
          go_simp
          refine (impl_turned hRa.1).mono ?_; rintro e w3 ⟨rfl, hb3, hrt⟩
          have C1 := below_go C0 hb3
          rw [hRa.2] at hrt
          have hft := rowN_fits hrt hRk
          have htz : (turnS (hdAt st l kb ks t a)).size ≤ 16777216 := by rw [hrt.2]; omega
          have hRR := hrt.times hRk
          try go_wp2_with fail
          refine hK.out _ _ (CA.out _ C1) (fun hHeld => ?_)
          clear hK K
          (try simp only [Act.put, List.setIfInBounds_toArray, List.set_cons_zero, List.set_cons_succ])
          refine wpAnyH_ready (rs := [7]) (by kernel_rfl) (by simp) ?_
          refine AllReadyH.cons (o := _) rfl (fun K hK => ?_) AllReadyH.nil
          go_simp
          refine (impl_times htz hkz hft).mono ?_; rintro e w4 ⟨rfl, hb4⟩
          have C3 := below_go C1 hb4
          try go_wp2_with fail
          refine hK.out _ _ (CA.out _ C3) (fun hHeld => ?_)
          clear hK K
          (try simp only [Act.put, List.setIfInBounds_toArray, List.set_cons_zero, List.set_cons_succ])
          have hyz : (timesS (turnS (hdAt st l kb ks t a)) (hdAt st l kb ks t k)).size ≤ 16777216 := by rw [hRR.2]; omega
          have lk := (HL4.out.up C3).look (t := 110) KSS Tryz.underlying110 Tryz.underlying9 Tryz.underlying4 (by kernel_rfl) hyz
          rw [← HCL.out k a] at lk
          refine wpAnyH_ready (rs := [8]) (by kernel_rfl) (by simp) ?_
          refine AllReadyH.cons (o := _) rfl (fun K hK => ?_) AllReadyH.nil
          go_simp
          refine hK.out _ _ (CA.out _ C3) (fun hHeld => ?_)
          clear hK K lk
          (try simp only [Act.put, List.setIfInBounds_toArray, List.set_cons_zero, List.set_cons_succ])
          refine wpAnyH_done (by kernel_rfl) ?_ _
          (try simp only [Act.put, List.setIfInBounds_toArray, List.set_cons_zero, List.set_cons_succ])
          have HO5 := Lib.hid (HO4.out.up C3)
          have HB5 := Lib.hid (below_go HB4.out C3)
          have HL5 := Lib.hid (HL4.out.up C3)
          have HZ5 := Lib.hid (Nat.le_trans HZ4.out C3.size)
          have hs5 := HB5.out.size
          rcases hcl : clsAt st l kb ks t k a
          · have HQ5 := Lib.hid (HQ4.out.trans (cQ2_no hcl hak).symm)
            clear hcl
            go_wp2
            go_roundw
            case rel => exact ⟨k + 1, A4, q4, c4, vs4, by omega, by omega, by omega, rfl, by go_num, HQ5, HO5, HB5, HL5, HK4, HZ5⟩
            case measure => simp [intOf]; omega
          · have HQ5 := Lib.hid (show q4 + 1 = 0 ↔ cQ2 (clsAt st l kb ks t) m a (k + 1) from ⟨fun e => absurd e (by omega), fun e => absurd e (cQ2_yes hcl hak)⟩)
            clear hcl
            go_wp2_with (first | (at_builtin; go_must ((refine wpList_append_recs Tryz.elInts slcE_one rfl (.tmp 38) (.tmp 42) rfl rfl ((HO5.out.alloc _).alloc _) rfl (own_lit1_at' slcE_len (w4.alloc (.cells #[.int .i64 (a : Int), .int .i64 (k : Int)] 3)) 134 (some ⟨w4.heap.size, 0, none⟩, 2, 2) (by simp) (Nat.le_refl _)).recs rfl ?_ (by decide) ?_ ?_; (focus (first | omega | (simp only [World.size_alloc]; done) | (simp only [World.size_alloc]; omega) | (simp; done) | (simp; omega))); (focus (first | omega | (simp only [World.size_alloc]; done) | (simp only [World.size_alloc]; omega) | (simp; done) | (simp; omega))); intro A6 c6 w6 ho6 hg6 hl6))))
            have hb6 : Below w.heap.size w w6 := ((HB5.out.alloc hs5 (.cells #[.int .i64 (a : Int), .int .i64 (k : Int)] 3)).alloc (by simp; omega) (.cells ⟨slcE (some ⟨w4.heap.size, 0, none⟩, 2, 2)⟩ 134)).trans (grown_base hg6 (by simp; omega) (fun z hz => (HO5.out.range z hz).1))
            have hzz := HZ5.out
            have HL6 : Hid (SetX Tryz.prog w6 9 4 b (falL (leadL st l))) := Lib.hid (((HL5.out.alloc (.cells #[.int .i64 (a : Int), .int .i64 (k : Int)] 3)).alloc (.cells ⟨slcE (some ⟨w4.heap.size, 0, none⟩, 2, 2)⟩ 134)).kept hg6 (fun e => by have := HK4.out _ e.symm; omega))
            have hs6 := hg6.size
            simp at hs6
            go_roundw
            case rel => exact ⟨k + 1, A6, q4 + 1, c6, _, by omega, by omega, by omega, rfl, by go_num, HQ5, Lib.hid ho6, Lib.hid hb6, HL6, Lib.hid (fun z hz => by
              rcases hl6 z hz with q | q
              · exact HK4.out z q
              · simp at q; omega), Lib.hid (by omega)⟩
            case measure => simp [intOf]; omega
        · obtain rfl : k = m := by omega
          have hI2 : ¬ (k : Int) < (k : Int) := by omega
          have HQ5 := Lib.hid (HQ4.out.trans cQ2_end)
          go_wp2
          go_roundw
          case rel => exact ⟨a + 1, A4, q4, c4, vs4, by omega, by omega, rfl, by go_num, HQ5, HO4, HB4, HL4, HK4, HZ4⟩
          case measure => simp [intOf]; omega
    · obtain rfl : a = m := by omega
      have hI : ¬ (a : Int) < (a : Int) := by omega
      have HQ5 := Lib.hid (HQ.out.trans HFR.out)
      go_wp2
      go_ret
      exact ClR.mk _ _ _ rfl (by omega) HQ5.out HB.out
end Go.Proofs.YtidolgonmimicaaGreat
namespace Go.Proofs.YtidolgonmimicaaGreat
open Go.ChangeShapes Go.WideShapes Go.ChangeAt Go.RowKit Go.Deep
theorem tr_lead {st : Nat} {l : List ByteArray} {b s t : ByteArray} (h : nodupB (leadL st l) = false) : trueH st l b s t = false := by rw [trueH, h]; rfl
theorem tr_free {st q : Nat} {l : List ByteArray} {b s t : ByteArray} (h : nodupB (leadL st l) = true) (hq : q = 0 ↔ FreeH st l b s t t.size) : trueH st l b s t = decide (q = 0) := by
  rw [trueH, h, Bool.true_and, Bool.eq_iff_iff, freeH_iff, decide_eq_true_iff, hq]
noncomputable def thV (nm : ByteArray) (st : Nat) (l : List ByteArray) (kb ks t : ByteArray) : Bool := goodF nm (st : Int) l kb ks t && trueH st l kb ks t
theorem thV_t {nm : ByteArray} {st : Nat} {l : List ByteArray} {kb ks t : ByteArray} (h : goodF nm (st : Int) l kb ks t = true) : thV nm st l kb ks t = trueH st l kb ks t := by rw [thV, h, Bool.true_and]
theorem thV_f {nm : ByteArray} {st : Nat} {l : List ByteArray} {kb ks t : ByteArray} (h : goodF nm (st : Int) l kb ks t = false) : thV nm st l kb ks t = false := by rw [thV, h]; rfl
theorem hds_front {w : World} {g st base c : Nat} {l : List ByteArray} {b s t : ByteArray} (h : Owned strE 1 9 w base (some ⟨g, 0, none⟩) (t.size + 1) c (hdsL st l b s t (t.size + 1))) : Strs w (some ⟨g, 0, none⟩) (hdsL st l b s t t.size) := by
  have h2 := (h.recs).front t.size (by rw [hdsL_len]; omega)
  rwa [show (hdsL st l b s t (t.size + 1)).take t.size = hdsL st l b s t t.size from by
    rw [hdsL_succ, List.take_append_of_le_length (by rw [hdsL_len]; exact Nat.le_refl _), List.take_of_length_le (by rw [hdsL_len]; exact Nat.le_refl _)]] at h2
set_option maxHeartbeats 4000000 in
set_option maxRecDepth 100000 in
theorem spec_l11True {A : Option Addr} {n c st : Nat} {nm : ByteArray} {l : List ByteArray} {kb ks t : ByteArray} {w : World} (hn : l.length = n) (h : Strs w A l) (hz : n ≤ 1048576) (hs : ∀ s ∈ l, s.size ≤ 16777216) (hnm : nm.size ≤ 16777216) (h9 : st ≤ 1000) (hk : goodK nm (st : Int) l kb ks = true) (hp : preT t) (hcap : n ≤ c) :
    Calls Tryz.prog 91 #[.agg #[.string nm, .int .i64 st, .slice A n c], .agg #[.string kb, .string ks], .string t] w fun e w' => e = .returned (.bool (trueH st l kb ks t)) ∧ Below w.heap.size w w' := by
  have h38 := (goodK_all hk).1
  have ht60 := hp.1
  have b0 : Below w.heap.size w ((w.alloc (.cells ⟨[.string nm, .int .i64 st, .slice A n c]⟩ 25)).alloc (.cells ⟨[.string kb, .string ks]⟩ 27)) := by (repeat' (first | (with_reducible exact Below.refl _ _) | (with_reducible assumption) | (with_reducible refine below_drewN ?_ _) | (with_reducible refine Below.drew ?_) | (with_reducible refine below_alloc ?_ _) | (with_reducible refine Below.alloc ?_ ?_ _) | (with_reducible refine Below.setCell ?_ ?_ _) | (with_reducible refine below_go ?_ (by with_reducible assumption)) | (with_reducible refine below_then (by with_reducible assumption) ?_ ?_) | go_size))
  have K0 := (Blk.at_ w 25 [.string nm, .int .i64 st, .slice A n c] (b := w.heap.size) rfl).alloc (.cells ⟨[.string kb, .string ks]⟩ 27)
  have J0 := Blk.at_ (w.alloc (.cells ⟨[.string nm, .int .i64 st, .slice A n c]⟩ 25)) 27 [.string kb, .string ks] (b := w.heap.size + 1) (by simp)
  have HTL := Lib.hid (@tr_lead st l kb ks t)
  have HTF := Lib.hid (fun (q : Nat) => @tr_free st q l kb ks t)
  have HRL := Lib.hid (show rowsL (roundsS st) l n = leadL st l by rw [leadL, hn])
  have hrz : (roundsS st).size ≤ 8 := by rw [rounds_size st (by omega)]; omega
  have HLZ := Lib.hid (show ∀ s ∈ leadL st l, s.size ≤ 16777216 from fun s hs => by
    have := leadL_row h38.1 h38.2 l s hs
    rw [this.2]; omega)
  have hcL : (t.size : Int) ≤ (t.size : Int) + 1 := by omega
  go_in
  go_upto_region 1 with fail
  obtain ⟨w0, hw0⟩ : ∃ u, u = ((w.alloc (.cells #[.string nm, .int .i64 st, .slice A n c] 25)).alloc (.cells #[.string kb, .string ks] 27)) := ⟨_, rfl⟩
  rw [← hw0] at b0 K0 J0 ⊢
  clear hw0
  have H0 := Lib.hid (h.up b0)
  have CA : Hid (∀ u : World, Below w0.heap.size w0 u → (u.cell? ⟨w.heap.size, 0, none⟩ = some (.string nm) ∧ u.cell? ⟨w.heap.size, 1, none⟩ = some (.int .i64 st) ∧ u.cell? ⟨w.heap.size, 2, none⟩ = some (.slice A n c)) ∧ u.cell? ⟨w.heap.size + 1, 0, none⟩ = some (.string kb) ∧ u.cell? ⟨w.heap.size + 1, 1, none⟩ = some (.string ks)) := Lib.hid (fun u hu => by
    have L0 := K0.up hu; have L1 := J0.up hu
    exact ⟨⟨by simpa using L0.cell 0, by simpa using L0.cell 1, by simpa using L0.cell 2⟩, by simpa using L1.cell 0, by simpa using L1.cell 1⟩)
  clear h K0 J0
  have C0 : Below w0.heap.size w0 w0.drew := (Below.refl _ _).drew
  rcases hl : nodupB (leadL st l)
  · have e2 := Lib.hid (HTL.out hl)
    have HL := Lib.hid hl
    clear hl
    refine wp_region_held_drew (S := fun u => (u.cell? ⟨w.heap.size, 0, none⟩ = some (.string nm) ∧ u.cell? ⟨w.heap.size, 1, none⟩ = some (.int .i64 st) ∧ u.cell? ⟨w.heap.size, 2, none⟩ = some (.slice A n c)) ∧ u.cell? ⟨w.heap.size + 1, 0, none⟩ = some (.string kb) ∧ u.cell? ⟨w.heap.size + 1, 1, none⟩ = some (.string ks)) (by kernel_rfl) (CA.out _ C0) (fun hHeld => ?_)
    refine wpAnyH_take (i := 0) (oi := { dst := some 7, op := _, type := _, pos := _, after := _, guard := _ }) (v := ?_) rfl (by kernel_rfl) (by kernel_rfl) (by kernel_rfl) (fun _ _ _ h => h) (Or.inl ⟨by rfl, ?_⟩) (by assumption) ?_
    rotate_left
    · (intro w hSw; (try dsimp only at hSw); go_simp) <;> with_reducible rfl
    (try simp only [Act.put, List.setIfInBounds_toArray, List.set_cons_zero, List.set_cons_succ])
    refine wpAnyH_take (i := 1) (oi := { dst := some 8, op := _, type := _, pos := _, after := _, guard := _ }) (v := ?_) rfl (by kernel_rfl) (by kernel_rfl) (by kernel_rfl) (fun _ _ _ h => h) (Or.inl ⟨by rfl, ?_⟩) (by assumption) ?_
    rotate_left
    · (intro w hSw; (try dsimp only at hSw); go_simp) <;> with_reducible rfl
    (try simp only [Act.put, List.setIfInBounds_toArray, List.set_cons_zero, List.set_cons_succ])
    refine wpAnyH_take (i := 2) (oi := { dst := some 9, op := _, type := _, pos := _, after := _, guard := _ }) (v := ?_) rfl (by kernel_rfl) (by kernel_rfl) (by kernel_rfl) (fun _ _ _ h => h) (Or.inl ⟨by rfl, ?_⟩) (by assumption) ?_
    rotate_left
    · (intro w hSw; (try dsimp only at hSw); go_simp) <;> with_reducible rfl
    (try simp only [Act.put, List.setIfInBounds_toArray, List.set_cons_zero, List.set_cons_succ])
    refine wpAnyH_ready (rs := [3]) (by kernel_rfl) (by simp) ?_
    refine AllReadyH.cons (o := _) rfl (fun K hK => ?_) AllReadyH.nil
    go_simp
    refine (spec_l1Rounds h38.2).mono ?_; rintro e w1 ⟨rfl, hw1⟩
    have C1 : Below w0.heap.size w0 w1 := by rw [← hw1]; exact C0
    try go_wp2_with fail
    refine hK.out _ _ (CA.out _ C1) (fun hHeld => ?_)
    clear hK K
    (try simp only [Act.put, List.setIfInBounds_toArray, List.set_cons_zero, List.set_cons_succ])
    refine wpAnyH_ready (rs := [4]) (by kernel_rfl) (by simp) ?_
    refine AllReadyH.cons (o := _) rfl (fun K hK => ?_) AllReadyH.nil
    go_simp
    refine (spec_l11Lead (nm := nm) hrz hn (H0.out.up C1) hz hs).mono ?_; rw [HRL.out]; rintro e w2 ⟨A2, c2, rfl, ho2, hb2⟩
    have C2 := below_go C1 hb2
    try go_wp2_with fail
    refine hK.out _ _ (CA.out _ C2) (fun hHeld => ?_)
    clear hK K
    (try simp only [Act.put, List.setIfInBounds_toArray, List.set_cons_zero, List.set_cons_succ])
    refine wpAnyH_ready (rs := [5]) (by kernel_rfl) (by simp) ?_
    refine AllReadyH.cons (o := _) rfl (fun K hK => ?_) AllReadyH.nil
    go_simp
    refine (spec_l7True ho2.len ho2.recs (by omega) HLZ.out).mono ?_; rw [HL.out]; rintro e w3 ⟨rfl, hb3⟩
    have C3 := below_go C2 hb3
    try go_wp2_with fail
    refine hK.out _ _ (CA.out _ C3) (fun hHeld => ?_)
    clear hK K
    (try simp only [Act.put, List.setIfInBounds_toArray, List.set_cons_zero, List.set_cons_succ])
    refine wpAnyH_take (i := 6) (oi := { dst := some 13, op := _, type := _, pos := _, after := _, guard := _ }) (v := ?_) rfl (by kernel_rfl) (by kernel_rfl) (by kernel_rfl) (fun _ _ _ h => h) (Or.inl ⟨by rfl, ?_⟩) (by assumption) ?_
    rotate_left
    · (intro w hSw; (try dsimp only at hSw); go_simp) <;> with_reducible rfl
    (try simp only [Act.put, List.setIfInBounds_toArray, List.set_cons_zero, List.set_cons_succ])
    refine wpAnyH_take (i := 7) (oi := { dst := some 14, op := _, type := _, pos := _, after := _, guard := _ }) (v := undef) rfl (by kernel_rfl) (by kernel_rfl) (by kernel_rfl) (fun _ _ _ h => h) (Or.inr ⟨by rfl, rfl⟩) (by assumption) ?_
    (try simp only [Act.put, List.setIfInBounds_toArray, List.set_cons_zero, List.set_cons_succ])
    refine wpAnyH_take (i := 8) (oi := { dst := some 15, op := _, type := _, pos := _, after := _, guard := _ }) (v := undef) rfl (by kernel_rfl) (by kernel_rfl) (by kernel_rfl) (fun _ _ _ h => h) (Or.inr ⟨by rfl, rfl⟩) (by assumption) ?_
    (try simp only [Act.put, List.setIfInBounds_toArray, List.set_cons_zero, List.set_cons_succ])
    refine wpAnyH_take (i := 9) (oi := { dst := some 16, op := _, type := _, pos := _, after := _, guard := _ }) (v := undef) rfl (by kernel_rfl) (by kernel_rfl) (by kernel_rfl) (fun _ _ _ h => h) (Or.inr ⟨by rfl, rfl⟩) (by assumption) ?_
    (try simp only [Act.put, List.setIfInBounds_toArray, List.set_cons_zero, List.set_cons_succ])
    refine wpAnyH_take (i := 10) (oi := { dst := some 17, op := _, type := _, pos := _, after := _, guard := _ }) (v := undef) rfl (by kernel_rfl) (by kernel_rfl) (by kernel_rfl) (fun _ _ _ h => h) (Or.inr ⟨by rfl, rfl⟩) (by assumption) ?_
    (try simp only [Act.put, List.setIfInBounds_toArray, List.set_cons_zero, List.set_cons_succ])
    refine wpAnyH_take (i := 12) (oi := { dst := some 19, op := _, type := _, pos := _, after := _, guard := _ }) (v := undef) rfl (by kernel_rfl) (by kernel_rfl) (by kernel_rfl) (fun _ _ _ h => h) (Or.inr ⟨by rfl, rfl⟩) (by assumption) ?_
    (try simp only [Act.put, List.setIfInBounds_toArray, List.set_cons_zero, List.set_cons_succ])
    refine wpAnyH_take (i := 13) (oi := { dst := some 20, op := _, type := _, pos := _, after := _, guard := _ }) (v := undef) rfl (by kernel_rfl) (by kernel_rfl) (by kernel_rfl) (fun _ _ _ h => h) (Or.inr ⟨by rfl, rfl⟩) (by assumption) ?_
    (try simp only [Act.put, List.setIfInBounds_toArray, List.set_cons_zero, List.set_cons_succ])
    refine wpAnyH_ready (rs := [11]) (by kernel_rfl) (by simp) ?_
    refine AllReadyH.cons (o := _) rfl (fun K hK => ?_) AllReadyH.nil
    go_simp
    refine hK.out _ _ (CA.out _ C3) (fun hHeld => ?_)
    clear hK K
    (try simp only [Act.put, List.setIfInBounds_toArray, List.set_cons_zero, List.set_cons_succ])
    refine wpAnyH_take (i := 14) (oi := { dst := some 21, op := _, type := _, pos := _, after := _, guard := _ }) (v := undef) rfl (by kernel_rfl) (by kernel_rfl) (by kernel_rfl) (fun _ _ _ h => h) (Or.inr ⟨by rfl, rfl⟩) (by assumption) ?_
    (try simp only [Act.put, List.setIfInBounds_toArray, List.set_cons_zero, List.set_cons_succ])
    refine wpAnyH_ready (rs := [15]) (by kernel_rfl) (by simp) ?_
    refine AllReadyH.cons (o := _) rfl (fun K hK => ?_) AllReadyH.nil
    go_simp
    refine hK.out _ _ (CA.out _ C3) (fun hHeld => ?_)
    clear hK K
    (try simp only [Act.put, List.setIfInBounds_toArray, List.set_cons_zero, List.set_cons_succ])
    refine wpAnyH_take (i := 16) (oi := { dst := some 23, op := _, type := _, pos := _, after := _, guard := _ }) (v := undef) rfl (by kernel_rfl) (by kernel_rfl) (by kernel_rfl) (fun _ _ _ h => h) (Or.inr ⟨by rfl, rfl⟩) (by assumption) ?_
    (try simp only [Act.put, List.setIfInBounds_toArray, List.set_cons_zero, List.set_cons_succ])
    refine wpAnyH_take (i := 17) (oi := { dst := some 24, op := _, type := _, pos := _, after := _, guard := _ }) (v := undef) rfl (by kernel_rfl) (by kernel_rfl) (by kernel_rfl) (fun _ _ _ h => h) (Or.inr ⟨by rfl, rfl⟩) (by assumption) ?_
    (try simp only [Act.put, List.setIfInBounds_toArray, List.set_cons_zero, List.set_cons_succ])
    refine wpAnyH_take (i := 18) (oi := { dst := some 25, op := _, type := _, pos := _, after := _, guard := _ }) (v := ?_) rfl (by kernel_rfl) (by kernel_rfl) (by kernel_rfl) (fun _ _ _ h => h) (Or.inl ⟨by rfl, ?_⟩) (by assumption) ?_
    rotate_left
    · (intro w hSw; (try dsimp only at hSw); go_simp) <;> with_reducible rfl
    (try simp only [Act.put, List.setIfInBounds_toArray, List.set_cons_zero, List.set_cons_succ])
    refine wpAnyH_take (i := 19) (oi := { dst := some 6, op := _, type := _, pos := _, after := _, guard := _ }) (v := ?_) rfl (by kernel_rfl) (by kernel_rfl) (by kernel_rfl) (fun _ _ _ h => h) (Or.inl ⟨by rfl, ?_⟩) (by assumption) ?_
    rotate_left
    · (intro w hSw; (try dsimp only at hSw); go_simp) <;> with_reducible rfl
    (try simp only [Act.put, List.setIfInBounds_toArray, List.set_cons_zero, List.set_cons_succ])
    refine wpAnyH_done (by kernel_rfl) ?_ _
    (try simp only [Act.put, List.setIfInBounds_toArray, List.set_cons_zero, List.set_cons_succ])
    go_wp2
    go_ret
    rw [e2.out]
    exact ⟨rfl, below_go b0 C3⟩
  · have HL := Lib.hid hl
    clear hl
    refine wp_region_held_drew (S := fun u => (u.cell? ⟨w.heap.size, 0, none⟩ = some (.string nm) ∧ u.cell? ⟨w.heap.size, 1, none⟩ = some (.int .i64 st) ∧ u.cell? ⟨w.heap.size, 2, none⟩ = some (.slice A n c)) ∧ u.cell? ⟨w.heap.size + 1, 0, none⟩ = some (.string kb) ∧ u.cell? ⟨w.heap.size + 1, 1, none⟩ = some (.string ks)) (by kernel_rfl) (CA.out _ C0) (fun hHeld => ?_)
    refine wpAnyH_take (i := 0) (oi := { dst := some 7, op := _, type := _, pos := _, after := _, guard := _ }) (v := ?_) rfl (by kernel_rfl) (by kernel_rfl) (by kernel_rfl) (fun _ _ _ h => h) (Or.inl ⟨by rfl, ?_⟩) (by assumption) ?_
    rotate_left
    · (intro w hSw; (try dsimp only at hSw); go_simp) <;> with_reducible rfl
    (try simp only [Act.put, List.setIfInBounds_toArray, List.set_cons_zero, List.set_cons_succ])
    refine wpAnyH_take (i := 1) (oi := { dst := some 8, op := _, type := _, pos := _, after := _, guard := _ }) (v := ?_) rfl (by kernel_rfl) (by kernel_rfl) (by kernel_rfl) (fun _ _ _ h => h) (Or.inl ⟨by rfl, ?_⟩) (by assumption) ?_
    rotate_left
    · (intro w hSw; (try dsimp only at hSw); go_simp) <;> with_reducible rfl
    (try simp only [Act.put, List.setIfInBounds_toArray, List.set_cons_zero, List.set_cons_succ])
    refine wpAnyH_take (i := 2) (oi := { dst := some 9, op := _, type := _, pos := _, after := _, guard := _ }) (v := ?_) rfl (by kernel_rfl) (by kernel_rfl) (by kernel_rfl) (fun _ _ _ h => h) (Or.inl ⟨by rfl, ?_⟩) (by assumption) ?_
    rotate_left
    · (intro w hSw; (try dsimp only at hSw); go_simp) <;> with_reducible rfl
    (try simp only [Act.put, List.setIfInBounds_toArray, List.set_cons_zero, List.set_cons_succ])
    refine wpAnyH_ready (rs := [3]) (by kernel_rfl) (by simp) ?_
    refine AllReadyH.cons (o := _) rfl (fun K hK => ?_) AllReadyH.nil
    go_simp
    refine (spec_l1Rounds h38.2).mono ?_; rintro e w1 ⟨rfl, hw1⟩
    have C1 : Below w0.heap.size w0 w1 := by rw [← hw1]; exact C0
    try go_wp2_with fail
    refine hK.out _ _ (CA.out _ C1) (fun hHeld => ?_)
    clear hK K
    (try simp only [Act.put, List.setIfInBounds_toArray, List.set_cons_zero, List.set_cons_succ])
    refine wpAnyH_ready (rs := [4]) (by kernel_rfl) (by simp) ?_
    refine AllReadyH.cons (o := _) rfl (fun K hK => ?_) AllReadyH.nil
    go_simp
    refine (spec_l11Lead (nm := nm) hrz hn (H0.out.up C1) hz hs).mono ?_; rw [HRL.out]; rintro e w2 ⟨A2, c2, rfl, ho2, hb2⟩
    have C2 := below_go C1 hb2
    try go_wp2_with fail
    refine hK.out _ _ (CA.out _ C2) (fun hHeld => ?_)
    clear hK K
    (try simp only [Act.put, List.setIfInBounds_toArray, List.set_cons_zero, List.set_cons_succ])
    refine wpAnyH_ready (rs := [5]) (by kernel_rfl) (by simp) ?_
    refine AllReadyH.cons (o := _) rfl (fun K hK => ?_) AllReadyH.nil
    go_simp
    refine (spec_l7True ho2.len ho2.recs (by omega) HLZ.out).mono ?_; rw [HL.out]; rintro e w3 ⟨rfl, hb3⟩
    have C3 := below_go C2 hb3
    try go_wp2_with fail
    refine hK.out _ _ (CA.out _ C3) (fun hHeld => ?_)
    clear hK K
    (try simp only [Act.put, List.setIfInBounds_toArray, List.set_cons_zero, List.set_cons_succ])
    refine wpAnyH_take (i := 6) (oi := { dst := some 13, op := _, type := _, pos := _, after := _, guard := _ }) (v := ?_) rfl (by kernel_rfl) (by kernel_rfl) (by kernel_rfl) (fun _ _ _ h => h) (Or.inl ⟨by rfl, ?_⟩) (by assumption) ?_
    rotate_left
    · (intro w hSw; (try dsimp only at hSw); go_simp) <;> with_reducible rfl
    (try simp only [Act.put, List.setIfInBounds_toArray, List.set_cons_zero, List.set_cons_succ])
    refine wpAnyH_take (i := 7) (oi := { dst := some 14, op := _, type := _, pos := _, after := _, guard := _ }) (v := ?_) rfl (by kernel_rfl) (by kernel_rfl) (by kernel_rfl) (fun _ _ _ h => h) (Or.inl ⟨by rfl, ?_⟩) (by assumption) ?_
    rotate_left
    · (intro w hSw; (try dsimp only at hSw); go_simp) <;> with_reducible rfl
    (try simp only [Act.put, List.setIfInBounds_toArray, List.set_cons_zero, List.set_cons_succ])
    refine wpAnyH_take (i := 8) (oi := { dst := some 15, op := _, type := _, pos := _, after := _, guard := _ }) (v := ?_) rfl (by kernel_rfl) (by kernel_rfl) (by kernel_rfl) (fun _ _ _ h => h) (Or.inl ⟨by rfl, ?_⟩) (by assumption) ?_
    rotate_left
    · (intro w hSw; (try dsimp only at hSw); go_simp) <;> with_reducible rfl
    (try simp only [Act.put, List.setIfInBounds_toArray, List.set_cons_zero, List.set_cons_succ])
    refine wpAnyH_take (i := 9) (oi := { dst := some 16, op := _, type := _, pos := _, after := _, guard := _ }) (v := ?_) rfl (by kernel_rfl) (by kernel_rfl) (by kernel_rfl) (fun _ _ _ h => h) (Or.inl ⟨by rfl, ?_⟩) (by assumption) ?_
    rotate_left
    · (intro w hSw; (try dsimp only at hSw); go_simp) <;> with_reducible rfl
    (try simp only [Act.put, List.setIfInBounds_toArray, List.set_cons_zero, List.set_cons_succ])
    refine wpAnyH_take (i := 10) (oi := { dst := some 17, op := _, type := _, pos := _, after := _, guard := _ }) (v := ?_) rfl (by kernel_rfl) (by kernel_rfl) (by kernel_rfl) (fun _ _ _ h => h) (Or.inl ⟨by rfl, ?_⟩) (by assumption) ?_
    rotate_left
    · (intro w hSw; (try dsimp only at hSw); go_simp) <;> with_reducible rfl
    (try simp only [Act.put, List.setIfInBounds_toArray, List.set_cons_zero, List.set_cons_succ])
    refine wpAnyH_take (i := 12) (oi := { dst := some 19, op := _, type := _, pos := _, after := _, guard := _ }) (v := ?_) rfl (by kernel_rfl) (by kernel_rfl) (by kernel_rfl) (fun _ _ _ h => h) (Or.inl ⟨by rfl, ?_⟩) (by assumption) ?_
    rotate_left
    · (intro w hSw; (try dsimp only at hSw); go_simp) <;> with_reducible rfl
    (try simp only [Act.put, List.setIfInBounds_toArray, List.set_cons_zero, List.set_cons_succ])
    refine wpAnyH_take (i := 13) (oi := { dst := some 20, op := _, type := _, pos := _, after := _, guard := _ }) (v := ?_) rfl (by kernel_rfl) (by kernel_rfl) (by kernel_rfl) (fun _ _ _ h => h) (Or.inl ⟨by rfl, ?_⟩) (by assumption) ?_
    rotate_left
    · (intro w hSw; (try dsimp only at hSw); go_simp) <;> with_reducible rfl
    (try simp only [Act.put, List.setIfInBounds_toArray, List.set_cons_zero, List.set_cons_succ])
    refine wpAnyH_ready (rs := [11]) (by kernel_rfl) (by simp) ?_
    refine AllReadyH.cons (o := _) rfl (fun K hK => ?_) AllReadyH.nil
    go_simp
    refine (spec_l9HeadsP (nm := nm) (t := t) hn (H0.out.up C3) hk hp hcap).mono ?_; rintro e w4 ⟨A4, c4, rfl, ho4, hb4⟩
    have C4 := below_go C3 hb4
    have hcp4 := ho4.cap.1
    obtain ⟨g, rfl, _⟩ := ho4.at_ (by omega)
    have HF4 := Lib.hid (hds_front ho4)
    have hcN : (t.size : Int) ≤ (c4 : Int) := by omega
    clear ho4
    try go_wp2_with fail
    refine hK.out _ _ (CA.out _ C4) (fun hHeld => ?_)
    clear hK K
    (try simp only [Act.put, List.setIfInBounds_toArray, List.set_cons_zero, List.set_cons_succ])
    refine wpAnyH_take (i := 14) (oi := { dst := some 21, op := _, type := _, pos := _, after := _, guard := _ }) (v := ?_) rfl (by kernel_rfl) (by kernel_rfl) (by kernel_rfl) (fun _ _ _ h => h) (Or.inl ⟨by rfl, ?_⟩) (by assumption) ?_
    rotate_left
    · (intro w hSw; (try dsimp only at hSw); go_simp) <;> with_reducible rfl
    (try simp only [Act.put, List.setIfInBounds_toArray, List.set_cons_zero, List.set_cons_succ])
    refine wpAnyH_ready (rs := [15]) (by kernel_rfl) (by simp) ?_
    refine AllReadyH.cons (o := _) rfl (fun K hK => ?_) AllReadyH.nil
    go_simp
    refine (spec_l11Clashes (nm := nm) hn (H0.out.up C4) hz hs hnm h9 hk HF4.out ht60).mono ?_; intro e w5 hx
    obtain ⟨A5, q, c5, rfl, hq, hqf, hb5⟩ := hx
    have C5 := below_go C4 hb5
    have HQF := Lib.hid hqf
    clear hqf
    try go_wp2_with fail
    refine hK.out _ _ (CA.out _ C5) (fun hHeld => ?_)
    clear hK K
    (try simp only [Act.put, List.setIfInBounds_toArray, List.set_cons_zero, List.set_cons_succ])
    refine wpAnyH_take (i := 16) (oi := { dst := some 23, op := _, type := _, pos := _, after := _, guard := _ }) (v := ?_) rfl (by kernel_rfl) (by kernel_rfl) (by kernel_rfl) (fun _ _ _ h => h) (Or.inl ⟨by rfl, ?_⟩) (by assumption) ?_
    rotate_left
    · (intro w hSw; (try dsimp only at hSw); go_simp) <;> with_reducible rfl
    (try simp only [Act.put, List.setIfInBounds_toArray, List.set_cons_zero, List.set_cons_succ])
    refine wpAnyH_take (i := 17) (oi := { dst := some 24, op := _, type := _, pos := _, after := _, guard := _ }) (v := ?_) rfl (by kernel_rfl) (by kernel_rfl) (by kernel_rfl) (fun _ _ _ h => h) (Or.inl ⟨by rfl, ?_⟩) (by assumption) ?_
    rotate_left
    · (intro w hSw; (try dsimp only at hSw); go_simp) <;> with_reducible rfl
    (try simp only [Act.put, List.setIfInBounds_toArray, List.set_cons_zero, List.set_cons_succ])
    refine wpAnyH_take (i := 18) (oi := { dst := some 25, op := _, type := _, pos := _, after := _, guard := _ }) (v := ?_) rfl (by kernel_rfl) (by kernel_rfl) (by kernel_rfl) (fun _ _ _ h => h) (Or.inl ⟨by rfl, ?_⟩) (by assumption) ?_
    rotate_left
    · (intro w hSw; (try dsimp only at hSw); go_simp) <;> with_reducible rfl
    (try simp only [Act.put, List.setIfInBounds_toArray, List.set_cons_zero, List.set_cons_succ])
    refine wpAnyH_take (i := 19) (oi := { dst := some 6, op := _, type := _, pos := _, after := _, guard := _ }) (v := ?_) rfl (by kernel_rfl) (by kernel_rfl) (by kernel_rfl) (fun _ _ _ h => h) (Or.inl ⟨by rfl, ?_⟩) (by assumption) ?_
    rotate_left
    · (intro w hSw; (try dsimp only at hSw); go_simp) <;> with_reducible rfl
    (try simp only [Act.put, List.setIfInBounds_toArray, List.set_cons_zero, List.set_cons_succ])
    refine wpAnyH_done (by kernel_rfl) ?_ _
    (try simp only [Act.put, List.setIfInBounds_toArray, List.set_cons_zero, List.set_cons_succ])
    by_cases hq0 : q = 0
    · have e2 := Lib.hid (show trueH st l kb ks t = true by rw [HTF.out q HL.out HQF.out, decide_eq_true hq0])
      subst hq0
      go_wp2
      go_ret
      rw [e2.out]
      exact ⟨rfl, below_go b0 C5⟩
    · have e2 := Lib.hid (show trueH st l kb ks t = false by rw [HTF.out q HL.out HQF.out, decide_eq_false hq0])
      have hq1 : ((q : Int) == 0) = false := by rw [beq_eq_false_iff_ne]; omega
      go_wp2
      go_ret
      rw [e2.out]
      simp [hq0]
      exact below_go b0 C5
set_option maxHeartbeats 4000000 in
set_option maxRecDepth 100000 in
theorem spec_TrueByHeads {A : Option Addr} {n c st : Nat} {nm : ByteArray} {l : List ByteArray} {kb ks t : ByteArray} {w : World} (hn : l.length = n) (h : Strs w A l) (hz : n ≤ 1048576) (hs : ∀ s ∈ l, s.size ≤ 16777216) (hnm : nm.size ≤ 16777216) (h9 : st ≤ 1000) (hkb : kb.size ≤ 16777216) (hks : ks.size ≤ 16777216) (ht : t.size ≤ 16777216) (hcap : n ≤ c) :
    Calls Tryz.prog 20 #[.agg #[.string nm, .int .i64 st, .slice A n c], .agg #[.string kb, .string ks], .string t] w fun e w' => e = .returned (.tuple #[.bool (thV nm st l kb ks t), .bool (goodF nm (st : Int) l kb ks t)]) ∧ Below w.heap.size w w' := by
  have b0 : Below w.heap.size w ((w.alloc (.cells ⟨[.string nm, .int .i64 st, .slice A n c]⟩ 25)).alloc (.cells ⟨[.string kb, .string ks]⟩ 27)) := by (repeat' (first | (with_reducible exact Below.refl _ _) | (with_reducible assumption) | (with_reducible refine below_drewN ?_ _) | (with_reducible refine Below.drew ?_) | (with_reducible refine below_alloc ?_ _) | (with_reducible refine Below.alloc ?_ ?_ _) | (with_reducible refine Below.setCell ?_ ?_ _) | (with_reducible refine below_go ?_ (by with_reducible assumption)) | (with_reducible refine below_then (by with_reducible assumption) ?_ ?_) | go_size))
  have K0 := (Blk.at_ w 25 [.string nm, .int .i64 st, .slice A n c] (b := w.heap.size) rfl).alloc (.cells ⟨[.string kb, .string ks]⟩ 27)
  have J0 := Blk.at_ (w.alloc (.cells ⟨[.string nm, .int .i64 st, .slice A n c]⟩ 25)) 27 [.string kb, .string ks] (b := w.heap.size + 1) (by simp)
  have hI : I64 (st : Int) := ⟨by omega, by omega⟩
  have H0 := h.up b0
  have HG : Hid (goodF nm st l kb ks t = (goodK nm (st : Int) l kb ks && goodT t)) := Lib.hid rfl
  have HVT := Lib.hid (@thV_t nm st l kb ks t)
  have HVF := Lib.hid (@thV_f nm st l kb ks t)
  clear h
  go_in
  go_wp2_with fail
  refine (spec_l9Asked (nm := nm) (st := (st : Int)) hn H0 hz hs hnm hI hkb hks ht).mono ?_; rintro e w1 ⟨rfl, hb1⟩
  have K1 := K0.up hb1
  have J1 := J0.up hb1
  have H1 := H0.up hb1
  have B1 := below_go b0 hb1
  clear K0 J0 H0 b0 hb1
  rcases hg : goodF nm st l kb ks t
  · have e2 := Lib.hid hg
    go_wp2
    go_ret2
    rw [HVF.out e2.out, e2.out]
    exact ⟨rfl, B1⟩
  · have e2 := Lib.hid hg
    have hgg := hg
    rw [HG.out, Bool.and_eq_true] at hgg
    have k0 := K1.cell 0; have k1 := K1.cell 1; have k2 := K1.cell 2; have j0 := J1.cell 0; have j1 := J1.cell 1
    simp only [List.getElem?_cons_zero, List.getElem?_cons_succ] at k0 k1 k2 j0 j1
    go_wp2_with fail
    refine (spec_l11True (nm := nm) (t := t) hn H1 hz hs hnm h9 hgg.1 (goodT.pre hgg.2) hcap).mono ?_; rintro e w2 ⟨rfl, hb2⟩
    go_wp2
    go_ret2
    rw [HVT.out e2.out, e2.out]
    exact ⟨rfl, below_go B1 hb2⟩
set_option maxHeartbeats 4000000 in
set_option maxRecDepth 100000 in
theorem impl_headClashes {A : Option Addr} {n c st : Nat} {nm : ByteArray} {l : List ByteArray} {kb ks t : ByteArray} {w : World} (hn : l.length = n) (h : Strs w A l) (hz : n ≤ 1048576) (hs : ∀ s ∈ l, s.size ≤ 16777216) (hnm : nm.size ≤ 16777216) (h9 : st ≤ 1000) (hk : goodK nm (st : Int) l kb ks = true) (hp : preT t) :
    Calls Tryz.prog 214 #[.agg #[.string nm, .int .i64 st, .slice A n c], .agg #[.string kb, .string ks], .string t] w fun e w' => ClR st l kb ks t t.size w e w' := by
  have ht60 := hp.1
  have b0 : Below w.heap.size w ((w.alloc (.cells ⟨[.string nm, .int .i64 st, .slice A n c]⟩ 25)).alloc (.cells ⟨[.string kb, .string ks]⟩ 27)) := by (repeat' (first | (with_reducible exact Below.refl _ _) | (with_reducible assumption) | (with_reducible refine below_drewN ?_ _) | (with_reducible refine Below.drew ?_) | (with_reducible refine below_alloc ?_ _) | (with_reducible refine Below.alloc ?_ ?_ _) | (with_reducible refine Below.setCell ?_ ?_ _) | (with_reducible refine below_go ?_ (by with_reducible assumption)) | (with_reducible refine below_then (by with_reducible assumption) ?_ ?_) | go_size))
  have K0 := (Blk.at_ w 25 [.string nm, .int .i64 st, .slice A n c] (b := w.heap.size) rfl).alloc (.cells ⟨[.string kb, .string ks]⟩ 27)
  have J0 := Blk.at_ (w.alloc (.cells ⟨[.string nm, .int .i64 st, .slice A n c]⟩ 25)) 27 [.string kb, .string ks] (b := w.heap.size + 1) (by simp)
  have hcL : (t.size : Int) ≤ (t.size : Int) + 1 := by omega
  go_in
  go_upto_region 1 with fail
  obtain ⟨w0, hw0⟩ : ∃ u, u = ((w.alloc (.cells #[.string nm, .int .i64 st, .slice A n c] 25)).alloc (.cells #[.string kb, .string ks] 27)) := ⟨_, rfl⟩
  rw [← hw0] at b0 K0 J0 ⊢
  clear hw0
  have H0 := Lib.hid (h.up b0)
  have CA : Hid (∀ u : World, Below w0.heap.size w0 u → (u.cell? ⟨w.heap.size, 0, none⟩ = some (.string nm) ∧ u.cell? ⟨w.heap.size, 1, none⟩ = some (.int .i64 st) ∧ u.cell? ⟨w.heap.size, 2, none⟩ = some (.slice A n c)) ∧ u.cell? ⟨w.heap.size + 1, 0, none⟩ = some (.string kb) ∧ u.cell? ⟨w.heap.size + 1, 1, none⟩ = some (.string ks)) := Lib.hid (fun u hu => by
    have L0 := K0.up hu; have L1 := J0.up hu
    exact ⟨⟨by simpa using L0.cell 0, by simpa using L0.cell 1, by simpa using L0.cell 2⟩, by simpa using L1.cell 0, by simpa using L1.cell 1⟩)
  clear h K0 J0
  have C0 : Below w0.heap.size w0 w0.drew := (Below.refl _ _).drew
  refine wp_region_held_drew (S := fun u => (u.cell? ⟨w.heap.size, 0, none⟩ = some (.string nm) ∧ u.cell? ⟨w.heap.size, 1, none⟩ = some (.int .i64 st) ∧ u.cell? ⟨w.heap.size, 2, none⟩ = some (.slice A n c)) ∧ u.cell? ⟨w.heap.size + 1, 0, none⟩ = some (.string kb) ∧ u.cell? ⟨w.heap.size + 1, 1, none⟩ = some (.string ks)) (by kernel_rfl) (CA.out _ C0) (fun hHeld => ?_)
  refine wpAnyH_take (i := 0) (oi := { dst := some 7, op := _, type := _, pos := _, after := _, guard := _ }) (v := ?_) rfl (by kernel_rfl) (by kernel_rfl) (by kernel_rfl) (fun _ _ _ h => h) (Or.inl ⟨by rfl, ?_⟩) (by assumption) ?_
  rotate_left
  · (intro w hSw; (try dsimp only at hSw); go_simp) <;> with_reducible rfl
  (try simp only [Act.put, List.setIfInBounds_toArray, List.set_cons_zero, List.set_cons_succ])
  refine wpAnyH_take (i := 1) (oi := { dst := some 8, op := _, type := _, pos := _, after := _, guard := _ }) (v := ?_) rfl (by kernel_rfl) (by kernel_rfl) (by kernel_rfl) (fun _ _ _ h => h) (Or.inl ⟨by rfl, ?_⟩) (by assumption) ?_
  rotate_left
  · (intro w hSw; (try dsimp only at hSw); go_simp) <;> with_reducible rfl
  (try simp only [Act.put, List.setIfInBounds_toArray, List.set_cons_zero, List.set_cons_succ])
  refine wpAnyH_take (i := 2) (oi := { dst := some 9, op := _, type := _, pos := _, after := _, guard := _ }) (v := ?_) rfl (by kernel_rfl) (by kernel_rfl) (by kernel_rfl) (fun _ _ _ h => h) (Or.inl ⟨by rfl, ?_⟩) (by assumption) ?_
  rotate_left
  · (intro w hSw; (try dsimp only at hSw); go_simp) <;> with_reducible rfl
  (try simp only [Act.put, List.setIfInBounds_toArray, List.set_cons_zero, List.set_cons_succ])
  refine wpAnyH_take (i := 3) (oi := { dst := some 10, op := _, type := _, pos := _, after := _, guard := _ }) (v := ?_) rfl (by kernel_rfl) (by kernel_rfl) (by kernel_rfl) (fun _ _ _ h => h) (Or.inl ⟨by rfl, ?_⟩) (by assumption) ?_
  rotate_left
  · (intro w hSw; (try dsimp only at hSw); go_simp) <;> with_reducible rfl
  (try simp only [Act.put, List.setIfInBounds_toArray, List.set_cons_zero, List.set_cons_succ])
  refine wpAnyH_take (i := 5) (oi := { dst := some 12, op := _, type := _, pos := _, after := _, guard := _ }) (v := ?_) rfl (by kernel_rfl) (by kernel_rfl) (by kernel_rfl) (fun _ _ _ h => h) (Or.inl ⟨by rfl, ?_⟩) (by assumption) ?_
  rotate_left
  · (intro w hSw; (try dsimp only at hSw); go_simp) <;> with_reducible rfl
  (try simp only [Act.put, List.setIfInBounds_toArray, List.set_cons_zero, List.set_cons_succ])
  refine wpAnyH_take (i := 6) (oi := { dst := some 13, op := _, type := _, pos := _, after := _, guard := _ }) (v := ?_) rfl (by kernel_rfl) (by kernel_rfl) (by kernel_rfl) (fun _ _ _ h => h) (Or.inl ⟨by rfl, ?_⟩) (by assumption) ?_
  rotate_left
  · (intro w hSw; (try dsimp only at hSw); go_simp) <;> with_reducible rfl
  (try simp only [Act.put, List.setIfInBounds_toArray, List.set_cons_zero, List.set_cons_succ])
  refine wpAnyH_ready (rs := [4]) (by kernel_rfl) (by simp) ?_
  refine AllReadyH.cons (o := _) rfl (fun K hK => ?_) AllReadyH.nil
  go_simp
  refine (impl_headsP (nm := nm) (t := t) hn (H0.out.up C0) hk hp).mono ?_; rintro e w4 ⟨A4, c4, rfl, ho4, hb4⟩
  have C4 := below_go C0 hb4
  have hcp4 := ho4.cap.1
  obtain ⟨g, rfl, _⟩ := ho4.at_ (by omega)
  have HF4 := Lib.hid (hds_front ho4)
  have hcN : (t.size : Int) ≤ (c4 : Int) := by omega
  clear ho4
  try go_wp2_with fail
  refine hK.out _ _ (CA.out _ C4) (fun hHeld => ?_)
  clear hK K
  (try simp only [Act.put, List.setIfInBounds_toArray, List.set_cons_zero, List.set_cons_succ])
  refine wpAnyH_take (i := 7) (oi := { dst := some 14, op := _, type := _, pos := _, after := _, guard := _ }) (v := ?_) rfl (by kernel_rfl) (by kernel_rfl) (by kernel_rfl) (fun _ _ _ h => h) (Or.inl ⟨by rfl, ?_⟩) (by assumption) ?_
  rotate_left
  · (intro w hSw; (try dsimp only at hSw); go_simp) <;> with_reducible rfl
  (try simp only [Act.put, List.setIfInBounds_toArray, List.set_cons_zero, List.set_cons_succ])
  refine wpAnyH_ready (rs := [8]) (by kernel_rfl) (by simp) ?_
  refine AllReadyH.cons (o := _) rfl (fun K hK => ?_) AllReadyH.nil
  go_simp
  refine (impl_clashes (nm := nm) hn (H0.out.up C4) hz hs hnm h9 hk HF4.out ht60).mono ?_; intro e w5 hx
  obtain ⟨A5, q, c5, rfl, hq, hqf, hb5⟩ := hx
  have C5 := below_go C4 hb5
  have HQF := Lib.hid hqf
  clear hqf
  try go_wp2_with fail
  refine hK.out _ _ (CA.out _ C5) (fun hHeld => ?_)
  clear hK K
  (try simp only [Act.put, List.setIfInBounds_toArray, List.set_cons_zero, List.set_cons_succ])
  refine wpAnyH_take (i := 9) (oi := { dst := some 6, op := _, type := _, pos := _, after := _, guard := _ }) (v := ?_) rfl (by kernel_rfl) (by kernel_rfl) (by kernel_rfl) (fun _ _ _ h => h) (Or.inl ⟨by rfl, ?_⟩) (by assumption) ?_
  rotate_left
  · (intro w hSw; (try dsimp only at hSw); go_simp) <;> with_reducible rfl
  (try simp only [Act.put, List.setIfInBounds_toArray, List.set_cons_zero, List.set_cons_succ])
  refine wpAnyH_done (by kernel_rfl) ?_ _
  (try simp only [Act.put, List.setIfInBounds_toArray, List.set_cons_zero, List.set_cons_succ])
  go_wp2
  go_ret
  exact ClR.mk _ _ _ rfl hq HQF.out (below_go b0 C5)
set_option maxHeartbeats 4000000 in
set_option maxRecDepth 100000 in
theorem impl_trueByHeads {A : Option Addr} {n c st : Nat} {nm : ByteArray} {l : List ByteArray} {kb ks t : ByteArray} {w : World} (hn : l.length = n) (h : Strs w A l) (hz : n ≤ 1048576) (hs : ∀ s ∈ l, s.size ≤ 16777216) (hnm : nm.size ≤ 16777216) (h9 : st ≤ 1000) (hk : goodK nm (st : Int) l kb ks = true) (hp : preT t) :
    Calls Tryz.prog 162 #[.agg #[.string nm, .int .i64 st, .slice A n c], .agg #[.string kb, .string ks], .string t] w fun e w' => e = .returned (.bool (trueH st l kb ks t)) ∧ Below w.heap.size w w' := by
  have hGM := (goodK_t hk).1
  have b0 : Below w.heap.size w ((w.alloc (.cells ⟨[.string nm, .int .i64 st, .slice A n c]⟩ 25)).alloc (.cells ⟨[.string kb, .string ks]⟩ 27)) := by (repeat' (first | (with_reducible exact Below.refl _ _) | (with_reducible assumption) | (with_reducible refine below_drewN ?_ _) | (with_reducible refine Below.drew ?_) | (with_reducible refine below_alloc ?_ _) | (with_reducible refine Below.alloc ?_ ?_ _) | (with_reducible refine Below.setCell ?_ ?_ _) | (with_reducible refine below_go ?_ (by with_reducible assumption)) | (with_reducible refine below_then (by with_reducible assumption) ?_ ?_) | go_size))
  have K0 := (Blk.at_ w 25 [.string nm, .int .i64 st, .slice A n c] (b := w.heap.size) rfl).alloc (.cells ⟨[.string kb, .string ks]⟩ 27)
  have J0 := Blk.at_ (w.alloc (.cells ⟨[.string nm, .int .i64 st, .slice A n c]⟩ 25)) 27 [.string kb, .string ks] (b := w.heap.size + 1) (by simp)
  have HTL := Lib.hid (@tr_lead st l kb ks t)
  have HTF := Lib.hid (fun (q : Nat) => @tr_free st q l kb ks t)
  have H0 := Lib.hid (h.up b0)
  clear h
  go_in
  go_wp2_with fail
  rcases hl : nodupB (leadL st l)
  · have e2 := Lib.hid (HTL.out hl)
    have HL := Lib.hid hl
    clear hl
    refine (impl_leadTrue (nm := nm) hn H0.out hz hs hnm h9 hGM).mono ?_; rw [HL.out]; rintro e w1 ⟨rfl, hb1⟩
    go_wp2
    go_ret
    rw [e2.out]
    exact ⟨rfl, below_go b0 hb1⟩
  · have HL := Lib.hid hl
    clear hl
    refine (impl_leadTrue (nm := nm) hn H0.out hz hs hnm h9 hGM).mono ?_; rw [HL.out]; rintro e w1 ⟨rfl, hb1⟩
    have K1 := K0.up hb1
    have J1 := J0.up hb1
    have H1 := H0.out.up hb1
    have k0 := K1.cell 0; have k1 := K1.cell 1; have k2 := K1.cell 2; have j0 := J1.cell 0; have j1 := J1.cell 1
    simp only [List.getElem?_cons_zero, List.getElem?_cons_succ] at k0 k1 k2 j0 j1
    have C1 := hb1
    go_wp2_with fail
    refine (impl_headClashes (nm := nm) (t := t) hn H1 hz hs hnm h9 hk hp).mono ?_; intro e w5 hx
    obtain ⟨A5, q, c5, rfl, hq, hqf, hb5⟩ := hx
    have C5 := below_go hb1 hb5
    have HQF := Lib.hid hqf
    clear hqf
    by_cases hq0 : q = 0
    · have e2 := Lib.hid (show trueH st l kb ks t = true by rw [HTF.out q HL.out HQF.out, decide_eq_true hq0])
      subst hq0
      go_wp2
      go_ret
      rw [e2.out]
      exact ⟨rfl, below_go b0 C5⟩
    · have e2 := Lib.hid (show trueH st l kb ks t = false by rw [HTF.out q HL.out HQF.out, decide_eq_false hq0])
      have hq1 : ((q : Int) == 0) = false := by rw [beq_eq_false_iff_ne]; omega
      go_wp2
      go_ret
      rw [e2.out]
      simp [hq0]
      exact below_go b0 C5
set_option maxHeartbeats 4000000 in
set_option maxRecDepth 100000 in
theorem impl_TrueByHeads {A : Option Addr} {n c st : Nat} {nm : ByteArray} {l : List ByteArray} {kb ks t : ByteArray} {w : World} (hn : l.length = n) (h : Strs w A l) (hz : n ≤ 1048576) (hs : ∀ s ∈ l, s.size ≤ 16777216) (hnm : nm.size ≤ 16777216) (h9 : st ≤ 1000) (hkb : kb.size ≤ 16777216) (hks : ks.size ≤ 16777216) (ht : t.size ≤ 16777216) :
    Calls Tryz.prog 70 #[.agg #[.string nm, .int .i64 st, .slice A n c], .agg #[.string kb, .string ks], .string t] w fun e w' => e = .returned (.tuple #[.bool (thV nm st l kb ks t), .bool (goodF nm (st : Int) l kb ks t)]) ∧ Below w.heap.size w w' := by
  have b0 : Below w.heap.size w ((w.alloc (.cells ⟨[.string nm, .int .i64 st, .slice A n c]⟩ 25)).alloc (.cells ⟨[.string kb, .string ks]⟩ 27)) := by (repeat' (first | (with_reducible exact Below.refl _ _) | (with_reducible assumption) | (with_reducible refine below_drewN ?_ _) | (with_reducible refine Below.drew ?_) | (with_reducible refine below_alloc ?_ _) | (with_reducible refine Below.alloc ?_ ?_ _) | (with_reducible refine Below.setCell ?_ ?_ _) | (with_reducible refine below_go ?_ (by with_reducible assumption)) | (with_reducible refine below_then (by with_reducible assumption) ?_ ?_) | go_size))
  have K0 := (Blk.at_ w 25 [.string nm, .int .i64 st, .slice A n c] (b := w.heap.size) rfl).alloc (.cells ⟨[.string kb, .string ks]⟩ 27)
  have J0 := Blk.at_ (w.alloc (.cells ⟨[.string nm, .int .i64 st, .slice A n c]⟩ 25)) 27 [.string kb, .string ks] (b := w.heap.size + 1) (by simp)
  have hI : I64 (st : Int) := ⟨by omega, by omega⟩
  have H0 := h.up b0
  have HG : Hid (goodF nm st l kb ks t = (goodK nm (st : Int) l kb ks && goodT t)) := Lib.hid rfl
  have HVT := Lib.hid (@thV_t nm st l kb ks t)
  have HVF := Lib.hid (@thV_f nm st l kb ks t)
  clear h
  go_in
  go_wp2_with fail
  refine (impl_goodFor (nm := nm) (st := (st : Int)) hn H0 hz hs hnm hI hkb hks ht).mono ?_; rintro e w1 ⟨rfl, hb1⟩
  have K1 := K0.up hb1
  have J1 := J0.up hb1
  have H1 := H0.up hb1
  have B1 := below_go b0 hb1
  clear K0 J0 H0 b0 hb1
  rcases hg : goodF nm st l kb ks t
  · have e2 := Lib.hid hg
    go_wp2
    go_ret2
    rw [HVF.out e2.out, e2.out]
    exact ⟨rfl, B1⟩
  · have e2 := Lib.hid hg
    have hgg := hg
    rw [HG.out, Bool.and_eq_true] at hgg
    have k0 := K1.cell 0; have k1 := K1.cell 1; have k2 := K1.cell 2; have j0 := J1.cell 0; have j1 := J1.cell 1
    simp only [List.getElem?_cons_zero, List.getElem?_cons_succ] at k0 k1 k2 j0 j1
    go_wp2_with fail
    refine (impl_trueByHeads (nm := nm) (t := t) hn H1 hz hs hnm h9 hgg.1 (goodT.pre hgg.2)).mono ?_; rintro e w2 ⟨rfl, hb2⟩
    go_wp2
    go_ret2
    rw [HVT.out e2.out, e2.out]
    exact ⟨rfl, below_go B1 hb2⟩
set_option maxHeartbeats 4000000 in
set_option maxRecDepth 100000 in
theorem spec_IsRound {A : Option Addr} {n c st : Nat} {nm : ByteArray} {l : List ByteArray} {kb ks t : ByteArray} {w : World} (hn : l.length = n) (h : Strs w A l) (hz : n ≤ 1048576) (hs : ∀ s ∈ l, s.size ≤ 16777216) (hnm : nm.size ≤ 16777216) (h9 : st ≤ 1000) (hkb : kb.size ≤ 16777216) (hks : ks.size ≤ 16777216) (ht : t.size ≤ 16777216) (hcap : n ≤ c) :
    Calls Tryz.prog 19 #[.agg #[.string nm, .int .i64 st, .slice A n c], .agg #[.string kb, .string ks], .string t] w fun e w' => e = .returned (.tuple #[.bool (goodF nm (st : Int) l kb ks t && decide (hdAt st l kb ks t t.size = roundsS st)), .bool (goodF nm (st : Int) l kb ks t)]) ∧ Below w.heap.size w w' := by
  have b0 : Below w.heap.size w ((w.alloc (.cells ⟨[.string nm, .int .i64 st, .slice A n c]⟩ 25)).alloc (.cells ⟨[.string kb, .string ks]⟩ 27)) := by (repeat' (first | (with_reducible exact Below.refl _ _) | (with_reducible assumption) | (with_reducible refine below_drewN ?_ _) | (with_reducible refine Below.drew ?_) | (with_reducible refine below_alloc ?_ _) | (with_reducible refine Below.alloc ?_ ?_ _) | (with_reducible refine Below.setCell ?_ ?_ _) | (with_reducible refine below_go ?_ (by with_reducible assumption)) | (with_reducible refine below_then (by with_reducible assumption) ?_ ?_) | go_size))
  have K0 := (Blk.at_ w 25 [.string nm, .int .i64 st, .slice A n c] (b := w.heap.size) rfl).alloc (.cells ⟨[.string kb, .string ks]⟩ 27)
  have J0 := Blk.at_ (w.alloc (.cells ⟨[.string nm, .int .i64 st, .slice A n c]⟩ 25)) 27 [.string kb, .string ks] (b := w.heap.size + 1) (by simp)
  have hI : I64 (st : Int) := ⟨by omega, by omega⟩
  have H0 := h.up b0
  have HG : Hid (goodF nm st l kb ks t = (goodK nm (st : Int) l kb ks && goodT t)) := Lib.hid rfl
  clear h
  go_in
  go_wp2_with fail
  refine (spec_l9Asked (nm := nm) (st := (st : Int)) hn H0 hz hs hnm hI hkb hks ht).mono ?_; rintro e w1 ⟨rfl, hb1⟩
  have K1 := K0.up hb1
  have J1 := J0.up hb1
  have H1 := Lib.hid (H0.up hb1)
  have B1 := below_go b0 hb1
  clear K0 J0 H0 b0 hb1
  rcases hg : goodF nm st l kb ks t
  · have e2 := Lib.hid hg
    go_wp2
    go_ret2
    rw [e2.out]
    exact ⟨rfl, B1⟩
  · have e2 := Lib.hid hg
    have hgg := hg
    rw [HG.out, Bool.and_eq_true] at hgg
    have h8 := (goodK_all hgg.1).1.2
    clear hg
    go_upto_region 3 with fail
    have C0 : Below w1.heap.size w1 w1.drew := (Below.refl _ _).drew
    have CA : Hid (∀ u : World, Below w1.heap.size w1 u → (u.cell? ⟨w.heap.size, 0, none⟩ = some (.string nm) ∧ u.cell? ⟨w.heap.size, 1, none⟩ = some (.int .i64 st) ∧ u.cell? ⟨w.heap.size, 2, none⟩ = some (.slice A n c)) ∧ u.cell? ⟨w.heap.size + 1, 0, none⟩ = some (.string kb) ∧ u.cell? ⟨w.heap.size + 1, 1, none⟩ = some (.string ks)) := Lib.hid (fun u hu => by
      have L0 := K1.up hu; have L1 := J1.up hu
      exact ⟨⟨by simpa using L0.cell 0, by simpa using L0.cell 1, by simpa using L0.cell 2⟩, by simpa using L1.cell 0, by simpa using L1.cell 1⟩)
    refine wp_region_held_drew (S := fun u => (u.cell? ⟨w.heap.size, 0, none⟩ = some (.string nm) ∧ u.cell? ⟨w.heap.size, 1, none⟩ = some (.int .i64 st) ∧ u.cell? ⟨w.heap.size, 2, none⟩ = some (.slice A n c)) ∧ u.cell? ⟨w.heap.size + 1, 0, none⟩ = some (.string kb) ∧ u.cell? ⟨w.heap.size + 1, 1, none⟩ = some (.string ks)) (by kernel_rfl) (CA.out _ C0) (fun hHeld => ?_)
    refine wpAnyH_take (i := 0) (oi := { dst := some 13, op := _, type := _, pos := _, after := _, guard := _ }) (v := ?_) rfl (by kernel_rfl) (by kernel_rfl) (by kernel_rfl) (fun _ _ _ h => h) (Or.inl ⟨by rfl, ?_⟩) (by assumption) ?_
    rotate_left
    · (intro w hSw; (try dsimp only at hSw); go_simp) <;> with_reducible rfl
    (try simp only [Act.put, List.setIfInBounds_toArray, List.set_cons_zero, List.set_cons_succ])
    refine wpAnyH_take (i := 1) (oi := { dst := some 14, op := _, type := _, pos := _, after := _, guard := _ }) (v := ?_) rfl (by kernel_rfl) (by kernel_rfl) (by kernel_rfl) (fun _ _ _ h => h) (Or.inl ⟨by rfl, ?_⟩) (by assumption) ?_
    rotate_left
    · (intro w hSw; (try dsimp only at hSw); go_simp) <;> with_reducible rfl
    (try simp only [Act.put, List.setIfInBounds_toArray, List.set_cons_zero, List.set_cons_succ])
    refine wpAnyH_take (i := 2) (oi := { dst := some 15, op := _, type := _, pos := _, after := _, guard := _ }) (v := ?_) rfl (by kernel_rfl) (by kernel_rfl) (by kernel_rfl) (fun _ _ _ h => h) (Or.inl ⟨by rfl, ?_⟩) (by assumption) ?_
    rotate_left
    · (intro w hSw; (try dsimp only at hSw); go_simp) <;> with_reducible rfl
    (try simp only [Act.put, List.setIfInBounds_toArray, List.set_cons_zero, List.set_cons_succ])
    refine wpAnyH_take (i := 4) (oi := { dst := some 17, op := _, type := _, pos := _, after := _, guard := _ }) (v := ?_) rfl (by kernel_rfl) (by kernel_rfl) (by kernel_rfl) (fun _ _ _ h => h) (Or.inl ⟨by rfl, ?_⟩) (by assumption) ?_
    rotate_left
    · (intro w hSw; (try dsimp only at hSw); go_simp) <;> with_reducible rfl
    (try simp only [Act.put, List.setIfInBounds_toArray, List.set_cons_zero, List.set_cons_succ])
    refine wpAnyH_take (i := 5) (oi := { dst := some 18, op := _, type := _, pos := _, after := _, guard := _ }) (v := ?_) rfl (by kernel_rfl) (by kernel_rfl) (by kernel_rfl) (fun _ _ _ h => h) (Or.inl ⟨by rfl, ?_⟩) (by assumption) ?_
    rotate_left
    · (intro w hSw; (try dsimp only at hSw); go_simp) <;> with_reducible rfl
    (try simp only [Act.put, List.setIfInBounds_toArray, List.set_cons_zero, List.set_cons_succ])
    refine wpAnyH_ready (rs := [3]) (by kernel_rfl) (by simp) ?_
    refine AllReadyH.cons (o := _) rfl (fun K hK => ?_) AllReadyH.nil
    go_simp
    refine (spec_l9EndP (nm := nm) (t := t) hn (H1.out.up C0) hgg.1 hgg.2 hcap).mono ?_; rintro e w2 ⟨rfl, hb2⟩
    have C1 := below_go C0 hb2
    try go_wp2_with fail
    refine hK.out _ _ (CA.out _ C1) (fun hHeld => ?_)
    clear hK K
    (try simp only [Act.put, List.setIfInBounds_toArray, List.set_cons_zero, List.set_cons_succ])
    refine wpAnyH_ready (rs := [6]) (by kernel_rfl) (by simp) ?_
    refine AllReadyH.cons (o := _) rfl (fun K hK => ?_) AllReadyH.nil
    go_simp
    refine (spec_l1Rounds h8).mono ?_; rintro e w3 ⟨rfl, hw3⟩
    have C2 : Below w1.heap.size w1 w3 := by rw [← hw3]; exact C1
    try go_wp2_with fail
    refine hK.out _ _ (CA.out _ C2) (fun hHeld => ?_)
    clear hK K
    (try simp only [Act.put, List.setIfInBounds_toArray, List.set_cons_zero, List.set_cons_succ])
    refine wpAnyH_take (i := 7) (oi := { dst := some 20, op := _, type := _, pos := _, after := _, guard := _ }) (v := ?_) rfl (by kernel_rfl) (by kernel_rfl) (by kernel_rfl) (fun _ _ _ h => h) (Or.inl ⟨by rfl, ?_⟩) (by assumption) ?_
    rotate_left
    · (intro w hSw; (try dsimp only at hSw); go_simp) <;> with_reducible rfl
    (try simp only [Act.put, List.setIfInBounds_toArray, List.set_cons_zero, List.set_cons_succ])
    refine wpAnyH_take (i := 8) (oi := { dst := some 6, op := _, type := _, pos := _, after := _, guard := _ }) (v := ?_) rfl (by kernel_rfl) (by kernel_rfl) (by kernel_rfl) (fun _ _ _ h => h) (Or.inl ⟨by rfl, ?_⟩) (by assumption) ?_
    rotate_left
    · (intro w hSw; (try dsimp only at hSw); go_simp) <;> with_reducible rfl
    (try simp only [Act.put, List.setIfInBounds_toArray, List.set_cons_zero, List.set_cons_succ])
    refine wpAnyH_take (i := 9) (oi := { dst := some 7, op := _, type := _, pos := _, after := _, guard := _ }) (v := ?_) rfl (by kernel_rfl) (by kernel_rfl) (by kernel_rfl) (fun _ _ _ h => h) (Or.inl ⟨by rfl, ?_⟩) (by assumption) ?_
    rotate_left
    · (intro w hSw; (try dsimp only at hSw); go_simp) <;> with_reducible rfl
    (try simp only [Act.put, List.setIfInBounds_toArray, List.set_cons_zero, List.set_cons_succ])
    refine wpAnyH_done (by kernel_rfl) ?_ _
    (try simp only [Act.put, List.setIfInBounds_toArray, List.set_cons_zero, List.set_cons_succ])
    go_wp2
    go_ret2
    rw [e2.out, Bool.true_and, dec_str]
    exact ⟨rfl, below_go B1 C2⟩
end Go.Proofs.YtidolgonmimicaaGreat
namespace Go.Proofs.YtidolgonmimicaaGreat
open Go.ChangeShapes Go.WideShapes Go.ChangeAt Go.RowKit Go.Deep
theorem ic_t {nm : ByteArray} {st : Nat} {l : List ByteArray} {kb ks : ByteArray} {N : Nat} {s : ByteArray} {x y : Int} (h : icV nm st l kb ks N (s, x, y) = true) : askS nm st l kb ks N = true ∧ s.size ≤ N ∧ preT s ∧ cutF st l kb ks N s = some (s, x, y) := by
  rw [icV, Bool.and_eq_true] at h
  obtain ⟨h1, h2⟩ := h
  have h3 := askS_t h1
  rw [jusB, Bool.and_eq_true, decide_eq_true_iff] at h2
  have h4 := pfx_pre h2.1 (by omega)
  exact ⟨h1, h4.2, h4.1, h2.2⟩
theorem cuts_fact {nm : ByteArray} {st : Nat} {l : List ByteArray} {kb ks : ByteArray} {N : Nat} {s t : ByteArray} {x y : Int} (h : icV nm st l kb ks N (s, x, y) = true) (hp : Pre s t) (ht : t.size = N) : (decide (hdAt st l kb ks t t.size = roundsS st) && trueH st l kb ks t) = false := by
  obtain ⟨h1, h2, h3, h4⟩ := ic_t h
  exact cut_law (askS_t h1).2.1 h4 hp ht
theorem goodF_of {nm : ByteArray} {st : Nat} {l : List ByteArray} {kb ks : ByteArray} {N : Nat} {t : ByteArray} (h : askS nm st l kb ks N = true) (hp : preT t) (ht : t.size = N) : goodF nm (st : Int) l kb ks t = true := by
  obtain ⟨h1, h2, h3⟩ := askS_t h
  rw [goodF, h1, Bool.true_and, goodT, Bool.and_eq_true, List.all_eq_true]
  refine ⟨fun k hk => hp.2 k (List.mem_range.1 hk), ?_⟩
  rw [inB, decide_eq_true_iff]; omega
end Go.Proofs.YtidolgonmimicaaGreat
namespace Go.Proofs
open Go.Shelf
def Tryz.lays105_ren : Go.Shelf.Ren := ⟨fun | 105 => 86 | 212 => 171 | 99 => 172 | 165 => 173 | 166 => 174 | 170 => 175 | 169 => 176 | 263 => 217 | 264 => 218 | 206 => 219 | 240 => 220 | 241 => 221 | 276 => 248 | 277 => 249 | n => n, fun | 9 => 9 | 3 => 3 | 4 => 4 | 20 => 20 | 0 => 0 | 46 => 149 | 109 => 150 | 5 => 5 | 72 => 154 | 76 => 158 | 51 => 178 | 146 => 179 | 53 => 85 | 148 => 181 | 70 => 152 | 37 => 22 | 75 => 157 | 127 => 183 | 164 => 198 | 80 => 108 | n => n, fun | n => n⟩
theorem Tryz.lays105 : Go.Proofs.Lays.n105 Tryz.prog Tryz.lays105_ren := {
  mixed := by kernel_rfl
  f99 := Tryz.func172.trans (congrArg some (by kernel_rfl))
  f105 := Tryz.func86.trans (congrArg some (by kernel_rfl))
  f165 := Tryz.func173.trans (congrArg some (by kernel_rfl))
  f166 := Tryz.func174.trans (congrArg some (by kernel_rfl))
  f169 := Tryz.func176.trans (congrArg some (by kernel_rfl))
  f170 := Tryz.func175.trans (congrArg some (by kernel_rfl))
  f206 := Tryz.func219.trans (congrArg some (by kernel_rfl))
  f212 := Tryz.func171.trans (congrArg some (by kernel_rfl))
  f240 := Tryz.func220.trans (congrArg some (by kernel_rfl))
  f241 := Tryz.func221.trans (congrArg some (by kernel_rfl))
  f263 := Tryz.func217.trans (congrArg some (by kernel_rfl))
  f264 := Tryz.func218.trans (congrArg some (by kernel_rfl))
  f276 := Tryz.func248.trans (congrArg some (by kernel_rfl))
  f277 := Tryz.func249.trans (congrArg some (by kernel_rfl))
  t0 := Tryz.underlying0
  a0 := Tryz.isAgg0
  z0 := Tryz.sizeOf0
  v0 := Tryz.zeroValue0
  t3 := Tryz.underlying3
  a3 := Tryz.isAgg3
  z3 := Tryz.sizeOf3
  v3 := Tryz.zeroValue3
  t4 := Tryz.underlying4
  a4 := Tryz.isAgg4
  z4 := Tryz.sizeOf4
  v4 := Tryz.zeroValue4
  t5 := Tryz.underlying5
  a5 := Tryz.isAgg5
  z5 := Tryz.sizeOf5
  v5 := Tryz.zeroValue5
  t9 := Tryz.underlying9
  a9 := Tryz.isAgg9
  z9 := Tryz.sizeOf9
  v9 := Tryz.zeroValue9
  t20 := Tryz.underlying20
  a20 := Tryz.isAgg20
  z20 := Tryz.sizeOf20
  v20 := Tryz.zeroValue20
  t37 := Tryz.underlying22
  a37 := Tryz.isAgg22
  z37 := Tryz.sizeOf22
  v37 := Tryz.zeroValue22
  t46 := Tryz.underlying149
  a46 := Tryz.isAgg149
  z46 := Tryz.sizeOf149
  v46 := Tryz.zeroValue149
  t51 := Tryz.underlying178
  a51 := Tryz.isAgg178
  z51 := Tryz.sizeOf178
  v51 := Tryz.zeroValue178
  t53 := Tryz.underlying85
  a53 := Tryz.isAgg85
  z53 := Tryz.sizeOf85
  v53 := Tryz.zeroValue85
  t70 := Tryz.underlying152
  a70 := Tryz.isAgg152
  z70 := Tryz.sizeOf152
  v70 := Tryz.zeroValue152
  t72 := Tryz.underlying154
  a72 := Tryz.isAgg154
  z72 := Tryz.sizeOf154
  v72 := Tryz.zeroValue154
  t75 := Tryz.underlying157
  a75 := Tryz.isAgg157
  z75 := Tryz.sizeOf157
  v75 := Tryz.zeroValue157
  t76 := Tryz.underlying158
  a76 := Tryz.isAgg158
  z76 := Tryz.sizeOf158
  v76 := Tryz.zeroValue158
  t109 := Tryz.underlying150
  a109 := Tryz.isAgg150
  z109 := Tryz.sizeOf150
  v109 := Tryz.zeroValue150
  t127 := Tryz.underlying183
  a127 := Tryz.isAgg183
  z127 := Tryz.sizeOf183
  v127 := Tryz.zeroValue183
  t146 := Tryz.underlying179
  a146 := Tryz.isAgg179
  z146 := Tryz.sizeOf179
  v146 := Tryz.zeroValue179
  t148 := Tryz.underlying181
  a148 := Tryz.isAgg181
  z148 := Tryz.sizeOf181
  v148 := Tryz.zeroValue181
  t164 := Tryz.underlying198
  a164 := Tryz.isAgg198
  z164 := Tryz.sizeOf198
  v164 := Tryz.zeroValue198 }
theorem Tryz.Builder_Extra_105 : Builder.Extra Tryz.prog Tryz.lays105_ren := {
  sizeBuilder := by kernel_rfl
  liesBuilder := by kernel_rfl
  t5 := Tryz.underlying5
  a5 := Tryz.isAgg5
  z5 := Tryz.sizeOf5
  v5 := Tryz.zeroValue5
  infoByte := by kernel_rfl
  cellsByte := by kernel_rfl
  sizeByte := by kernel_rfl
  neB5 := by decide }
open Go.RowKit Go.Lib in
theorem Tryz.strings_Repeat (s : ByteArray) (c : Nat) (w : World) (hc : c ≤ 9223372036854775807) (hlen : s.size * c ≤ 140737488355328) :
    Calls Tryz.prog 86 #[.string s, .int .i64 c] w fun e w' => e = .returned (.string ⟨(Lib.repeatL s.data.toList c).toArray⟩) ∧ Below w.heap.size w w' := Any.strings_Repeat Tryz.lays105 Tryz.Builder_Extra_105 s c w hc hlen
end Go.Proofs
namespace Go.Proofs.YtidolgonmimicaaGreat
open Go.ChangeShapes Go.WideShapes Go.ChangeAt Go.RowKit Go.Deep
def repT (t : ByteArray) (m : Nat) : ByteArray := ⟨(Lib.repeatL t.data.toList m).toArray⟩
def WhP (nm : ByteArray) (st : Nat) (l : List ByteArray) (kb ks t : ByteArray) (x : ByteArray) (ok : Bool) : Prop :=
  ∃ m, PaP nm st l kb ks t m ∧ ok = (goodF nm (st : Int) l kb ks t && decide (m * t.size ≤ 60)) ∧ x = if ok = true then repT t m else ⟨#[]⟩
theorem WhP.uniq {nm : ByteArray} {st : Nat} {l : List ByteArray} {kb ks t x y : ByteArray} {a b : Bool} (h : WhP nm st l kb ks t x a) (g : WhP nm st l kb ks t y b) : a = b ∧ x = y := by
  obtain ⟨m, h1, h2, h3⟩ := h
  obtain ⟨k, g1, g2, g3⟩ := g
  obtain rfl := h1.uniq g1
  obtain rfl : a = b := by rw [h2, g2]
  exact ⟨rfl, by rw [h3, g3]⟩
def WhR (nm : ByteArray) (st : Nat) (l : List ByteArray) (kb ks t : ByteArray) (w : World) (e : Ending) (w' : World) : Prop :=
  ∃ (x : ByteArray) (ok : Bool), e = .returned (.tuple #[.string x, .bool ok]) ∧ WhP nm st l kb ks t x ok ∧ Below w.heap.size w w'
theorem WhR.mk {nm : ByteArray} {st : Nat} {l : List ByteArray} {kb ks t : ByteArray} {w w' : World} {e : Ending} (x : ByteArray) (ok : Bool) (he : e = .returned (.tuple #[.string x, .bool ok])) (h1 : WhP nm st l kb ks t x ok) (h2 : Below w.heap.size w w') : WhR nm st l kb ks t w e w' := ⟨x, ok, he, h1, h2⟩
set_option maxHeartbeats 1000000 in
theorem impl_WholeOf {A : Option Addr} {n c st : Nat} {nm : ByteArray} {l : List ByteArray} {kb ks t : ByteArray} {w : World} (hn : l.length = n) (h : Strs w A l) (hz : n ≤ 1048576) (hs : ∀ s ∈ l, s.size ≤ 16777216) (hnm : nm.size ≤ 16777216) (h9 : st ≤ 1000) (hkb : kb.size ≤ 16777216) (hks : ks.size ≤ 16777216) (ht : t.size ≤ 16777216) :
    Calls Tryz.prog 43 #[.agg #[.string nm, .int .i64 st, .slice A n c], .agg #[.string kb, .string ks], .string t] w fun e w' => WhR nm st l kb ks t w e w' := by
  have b0 : Below w.heap.size w ((w.alloc (.cells ⟨[.string nm, .int .i64 st, .slice A n c]⟩ 25)).alloc (.cells ⟨[.string kb, .string ks]⟩ 27)) := by (repeat' (first | (with_reducible exact Below.refl _ _) | (with_reducible assumption) | (with_reducible refine below_drewN ?_ _) | (with_reducible refine Below.drew ?_) | (with_reducible refine below_alloc ?_ _) | (with_reducible refine Below.alloc ?_ ?_ _) | (with_reducible refine Below.setCell ?_ ?_ _) | (with_reducible refine below_go ?_ (by with_reducible assumption)) | (with_reducible refine below_then (by with_reducible assumption) ?_ ?_) | go_size))
  have H0 := h.up b0
  clear h
  obtain ⟨gf, hgf⟩ : ∃ u, u = goodF nm (st : Int) l kb ks t := ⟨_, rfl⟩
  have HGF := Lib.hid hgf
  clear hgf
  go_in
  go_wp2_with fail
  refine (impl_PartsIn (nm := nm) hn H0 hz hs hnm h9 hkb hks ht).mono ?_; rw [← HGF.out]; rintro e w1 ⟨m, rfl, hp, hb1⟩
  have B1 := below_go b0 hb1
  have HP := Lib.hid hp
  have hm := hp.1
  have hmul : m * t.size ≤ 40320 * 16777216 := Nat.mul_le_mul hm ht
  obtain ⟨q, hq⟩ : ∃ q, q = m * t.size := ⟨_, rfl⟩
  have hqI : (m : Int) * (t.size : Int) = (q : Int) := by rw [hq]; simp
  have HQ := Lib.hid hq
  rw [← hq] at hmul
  clear hp hq
  rcases gf
  · have HN := Lib.hid (show WhP nm st l kb ks t ⟨#[]⟩ false from ⟨m, HP.out, by rw [← HGF.out]; rfl, rfl⟩)
    go_wp2
    go_ret2
    exact WhR.mk _ _ rfl HN.out B1
  · by_cases h60 : q ≤ 60
    · have hI : ¬ (60 : Int) < (q : Int) := by omega
      have HY := Lib.hid (show WhP nm st l kb ks t (repT t m) true from ⟨m, HP.out, by rw [← HGF.out, ← HQ.out, decide_eq_true h60]; rfl, rfl⟩)
      have HRP : Hid (∀ u : World, Calls Tryz.prog 86 #[.string t, .int .i64 (m : Int)] u fun e w' => e = .returned (.string (repT t m)) ∧ Below u.heap.size u w') := Lib.hid (fun u => Tryz.strings_Repeat t m u (by omega) (by rw [Nat.mul_comm, ← HQ.out]; omega))
      clear h60
      go_wp2_with fail
      refine (HRP.out _).mono ?_; rintro e w2 ⟨rfl, hb2⟩
      go_wp2
      go_ret2
      exact WhR.mk _ _ rfl HY.out (below_go B1 hb2)
    · have hI : (60 : Int) < (q : Int) := by omega
      have HN := Lib.hid (show WhP nm st l kb ks t ⟨#[]⟩ false from ⟨m, HP.out, by rw [← HGF.out, ← HQ.out, decide_eq_false h60]; rfl, rfl⟩)
      clear h60
      go_wp2
      go_ret2
      exact WhR.mk _ _ rfl HN.out B1
end Go.Proofs.YtidolgonmimicaaGreat
namespace Go.Proofs.YtidolgonmimicaaGreat
open Go.ChangeShapes Go.WideShapes Go.ChangeAt Go.RowKit Go.Deep
theorem repL_get (l : List UInt8) : ∀ (c j i : Nat), j < c → i < l.length → (Lib.repeatL l c)[j * l.length + i]? = l[i]?
  | 0, j, i, h, _ => absurd h (by omega)
  | c + 1, 0, i, _, hi => by rw [Nat.zero_mul, Nat.zero_add, Lib.repeatL, List.getElem?_append_left hi]
  | c + 1, j + 1, i, h, hi => by
    rw [Lib.repeatL, Nat.succ_mul, List.getElem?_append_right (by omega), show j * l.length + l.length + i - l.length = j * l.length + i by omega]
    exact repL_get l c j i (by omega) hi
theorem letter_of {t : ByteArray} {k : Nat} {x : UInt8} (h : t.data.toList[k]? = some x) : letter t k = ⟨#[x]⟩ := by
  obtain ⟨hk, hx⟩ := List.getElem?_eq_some_iff.1 h
  apply ByteArray.ext
  rw [letter, ByteArray.data_extract]
  rw [← Array.toList_inj, Array.toList_extract, List.extract_eq_take_drop, show k + 1 - k = 1 by omega, List.drop_eq_getElem_cons hk, hx]
  rfl
theorem bt_of {t : ByteArray} {k : Nat} {x : UInt8} (h : t.data.toList[k]? = some x) : PlainAid.bt t k = (x.toNat : Int) := by
  obtain ⟨hk, hx⟩ := List.getElem?_eq_some_iff.1 h
  have hk' : k < t.size := by simpa using hk
  rw [← PlainAid.get_bt t k hk', ← hx]
  rfl
theorem rep_list (t : ByteArray) (m : Nat) : (repT t m).data.toList = Lib.repeatL t.data.toList m := by rw [repT]
theorem rep_size (t : ByteArray) (m : Nat) : (repT t m).size = m * t.size := by
  have h := congrArg List.length (rep_list t m)
  rw [Lib.repeatL_length] at h
  simpa using h
theorem rep_at (t : ByteArray) {m j i : Nat} (hj : j < m) (hi : i < t.size) : ∃ x, t.data.toList[i]? = some x ∧ (repT t m).data.toList[j * t.size + i]? = some x := by
  have hl : t.data.toList.length = t.size := by simp
  have hi' : i < t.data.toList.length := by omega
  refine ⟨t.data.toList[i], List.getElem?_eq_getElem hi', ?_⟩
  have := repL_get t.data.toList m j i hj hi'
  rw [hl] at this
  rw [rep_list, this, List.getElem?_eq_getElem hi']
theorem rep_again (t : ByteArray) (m : Nat) : Again t (repT t m) m := ⟨rep_size t m, fun j i hj hi => by
  obtain ⟨x, h1, h2⟩ := rep_at t hj hi
  rw [letter_of h1, letter_of h2]⟩
theorem rep_bt (t : ByteArray) {m j i : Nat} (hj : j < m) (hi : i < t.size) : PlainAid.bt (repT t m) (j * t.size + i) = PlainAid.bt t i := by
  obtain ⟨x, h1, h2⟩ := rep_at t hj hi
  rw [bt_of h1, bt_of h2]
theorem goodT_rep {t : ByteArray} {m : Nat} (h : goodT t = true) (hm : 1 ≤ m) : goodT (repT t m) = decide (m * t.size ≤ 60) := by
  obtain ⟨h1, h2, h3⟩ := goodT_t h
  have hall : (List.range (repT t m).size).all (callB (repT t m)) = true := by
    rw [List.all_eq_true]
    intro k hk
    rw [List.mem_range, rep_size] at hk
    have e : k = k / t.size * t.size + k % t.size := by rw [Nat.mul_comm]; exact (Nat.div_add_mod k t.size).symm
    have hj : k / t.size < m := (Nat.div_lt_iff_lt_mul h1).2 hk
    have hi : k % t.size < t.size := Nat.mod_lt _ h1
    rw [e, callB, rep_bt t hj hi]
    exact h3 _ hi
  have hp : 1 ≤ m * t.size := Nat.le_trans hm (Nat.le_mul_of_pos_right _ h1)
  rw [goodT, hall, Bool.true_and, rep_size, inB, Bool.eq_iff_iff, decide_eq_true_iff, decide_eq_true_iff]
  constructor
  · rintro ⟨_, q⟩; omega
  · intro q; exact ⟨by omega, by omega⟩
theorem rep_succ (t : ByteArray) (m : Nat) : repT t (m + 1) = repT t m ++ t := by
  apply ByteArray.ext
  rw [ByteArray.data_append, ← Array.toList_inj, Array.toList_append, rep_list, rep_list, Lib.repeatL_add, Lib.repeatL_one]
theorem rep_zero (t : ByteArray) : repT t 0 = ⟨#[]⟩ := rfl
end Go.Proofs.YtidolgonmimicaaGreat
namespace Go.Proofs.YtidolgonmimicaaGreat
open Go.ChangeShapes Go.WideShapes Go.ChangeAt Go.RowKit Go.Deep
def nxB (z : Int) : Int := if z = 98 then 112 else 115
def ntL (t : ByteArray) (i : Nat) : List Int := (nums t).take i ++ nxB (PlainAid.bt t i) :: List.replicate (t.size - 1 - i) 98
def ntS (t : ByteArray) (i : Nat) : ByteArray := strOfNums (ntL t i)
theorem ntL_len {t : ByteArray} {i : Nat} (h : i < t.size) : (ntL t i).length = t.size := by
  rw [ntL, List.length_append, List.length_cons, List.length_replicate, List.length_take, nums_len]
  omega
theorem ntS_size {t : ByteArray} {i : Nat} (h : i < t.size) : (ntS t i).size = t.size := by rw [ntS, strOfNums_size, ntL_len h]
theorem nums_back (t : ByteArray) : (nums t).map (fun n => UInt8.ofNat n.toNat) = t.data.toList := by
  apply List.ext_getElem?
  intro k
  rw [List.getElem?_map]
  by_cases hk : k < t.size
  · rw [nums_at hk, Option.map_some, ← PlainAid.get_bt t k hk, Int.toNat_natCast]
    have : t.data.toList[k]? = some t.data[k] := by rw [Array.getElem?_toList]; exact Array.getElem?_eq_getElem hk
    rw [this]
    congr 1
    have : t[k] = t.data[k] := rfl
    rw [this]
    exact UInt8.ofNat_toNat
  · rw [List.getElem?_eq_none (by rw [nums_len]; omega), List.getElem?_eq_none (by simp; omega)]; rfl
theorem ntS_data (t : ByteArray) (i : Nat) : (ntS t i).data.toList = t.data.toList.take i ++ UInt8.ofNat (nxB (PlainAid.bt t i)).toNat :: List.replicate (t.size - 1 - i) 98 := by
  have e : (ntS t i).data.toList = (ntL t i).map fun n => UInt8.ofNat n.toNat := strOfNums_data _
  rw [e, ntL, List.map_append, List.map_cons, List.map_take, nums_back, List.map_replicate]
  rfl
theorem ntS_less {t : ByteArray} {i : Nat} (h : i < t.size) (hc : PlainAid.bt t i = 98 ∨ PlainAid.bt t i = 112) : less t (ntS t i) = true := by
  rw [less, ByteArray.toList_eq, ByteArray.toList_eq, ntS_data]
  have hk : i < t.data.toList.length := by simpa using h
  have e : t.data.toList = t.data.toList.take i ++ t.data.toList[i] :: t.data.toList.drop (i + 1) := by
    rw [← List.drop_eq_getElem_cons hk, List.take_append_drop]
  have hb := bt_of (List.getElem?_eq_getElem hk)
  conv => arg 1; arg 1; rw [e]
  apply bytes_step
  have hb2 : (t.data.toList[i]).toNat = 98 ∨ (t.data.toList[i]).toNat = 112 := by omega
  rw [UInt8.lt_iff_toNat_lt]
  rcases hc with hc | hc
  · rw [hc] at hb ⊢
    have : (UInt8.ofNat (nxB 98).toNat).toNat = 112 := by decide
    omega
  · rw [hc] at hb ⊢
    have : (UInt8.ofNat (nxB 112).toNat).toNat = 115 := by decide
    omega
def NtP (t y : ByteArray) (ok : Bool) : Prop :=
  (ok = true ∧ goodT t = true ∧ ∃ i, i < t.size ∧ PlainAid.bt t i ≠ 115 ∧ (∀ j, i < j → j < t.size → PlainAid.bt t j = 115) ∧ y = ntS t i) ∨ (ok = false ∧ y = ⟨#[]⟩ ∧ (goodT t = false ∨ ∀ j, j < t.size → PlainAid.bt t j = 115))
theorem NtP.uniq {t x y : ByteArray} {a b : Bool} (h : NtP t x a) (g : NtP t y b) : a = b ∧ x = y := by
  rcases h with ⟨rfl, h1, i, h2, h3, h4, rfl⟩ | ⟨rfl, rfl, h1⟩ <;> rcases g with ⟨rfl, g1, j, g2, g3, g4, rfl⟩ | ⟨rfl, rfl, g1⟩
  · have : i = j := by
      rcases Nat.lt_trichotomy i j with q | q | q
      · exact absurd (h4 j q g2) g3
      · exact q
      · exact absurd (g4 i q h2) h3
    subst this
    exact ⟨rfl, rfl⟩
  · rcases g1 with g1 | g1
    · rw [h1] at g1; cases g1
    · exact absurd (g1 i h2) h3
  · rcases h1 with h1 | h1
    · rw [g1] at h1; cases h1
    · exact absurd (h1 j g2) g3
  · exact ⟨rfl, rfl⟩
theorem callB_or {t : ByteArray} {k : Nat} (h : callB t k = true) : PlainAid.bt t k = 98 ∨ PlainAid.bt t k = 112 ∨ PlainAid.bt t k = 115 := by
  rw [callB, Bool.or_eq_true, Bool.or_eq_true, beq_iff_eq, beq_iff_eq, beq_iff_eq] at h
  omega
theorem NtP.law {t y : ByteArray} (h : NtP t y true) : y.size = t.size ∧ less t y = true := by
  rcases h with ⟨_, h1, i, h2, h3, h4, rfl⟩ | ⟨h, _⟩
  · refine ⟨ntS_size h2, ntS_less h2 ?_⟩
    have := callB_or ((goodT_t h1).2.2 i h2)
    omega
  · cases h
theorem nt_join {t : ByteArray} {i a : Nat} (h : i < t.size) (ha : (a = 0 ∧ PlainAid.bt t i = 98) ∨ (a = 1 ∧ PlainAid.bt t i = 112)) : (t.extract 0 i ++ (⟨#[98, 112, 115]⟩ : ByteArray).extract (a + 1) (a + 2)) ++ ⟨(Lib.repeatL (⟨#[98]⟩ : ByteArray).data.toList (t.size - 1 - i)).toArray⟩ = ntS t i := by
  have e1 : (⟨#[98, 112, 115]⟩ : ByteArray).extract (a + 1) (a + 2) = ⟨#[UInt8.ofNat (nxB (PlainAid.bt t i)).toNat]⟩ := by
    rcases ha with ⟨rfl, hb⟩ | ⟨rfl, hb⟩
    · rw [hb]; decide
    · rw [hb]; decide
  have e2 : Lib.repeatL (⟨#[98]⟩ : ByteArray).data.toList (t.size - 1 - i) = List.replicate (t.size - 1 - i) 98 := by
    have := Lib.repeatL_replicate 98 1 (t.size - 1 - i)
    rw [Nat.mul_one] at this
    exact this
  apply ba_ext
  rw [e1, e2, ntS_data]
  simp [ByteArray.data_append, ByteArray.data_extract, Array.toList_extract, List.extract_eq_take_drop]
def ntM (t : ByteArray) (k : Nat) : List Int := (nums t).take k ++ List.replicate (t.size - k) 98
theorem ntM_len {t : ByteArray} {k : Nat} (h : k ≤ t.size) : (ntM t k).length = t.size := by
  rw [ntM, List.length_append, List.length_replicate, List.length_take, nums_len]; omega
theorem ntM_full (t : ByteArray) : ntM t t.size = nums t := by
  rw [ntM, List.take_of_length_le (by rw [nums_len]; exact Nat.le_refl _), Nat.sub_self]; simp
theorem ntM_at {t : ByteArray} {k : Nat} (h : k < t.size) : (ntM t (k + 1))[k]? = some (PlainAid.bt t k) := by
  rw [ntM, List.getElem?_append_left (by rw [List.length_take, nums_len]; omega), List.getElem?_take, if_pos (by omega), nums_at h]
theorem ntM_set {t : ByteArray} {k : Nat} (h : k < t.size) (z : Int) : (ntM t (k + 1)).set k z = (nums t).take k ++ z :: List.replicate (t.size - 1 - k) 98 := by
  have hl : ((nums t).take k).length = k := by rw [List.length_take, nums_len]; omega
  rw [ntM, List.take_add_one, nums_at h]
  rw [show t.size - (k + 1) = t.size - 1 - k by omega, List.append_assoc]
  rw [List.set_append_right _ _ (by omega), hl, Nat.sub_self]
  rfl
theorem ntM_down {t : ByteArray} {k : Nat} (h : k < t.size) : (ntM t (k + 1)).set k 98 = ntM t k := by
  rw [ntM_set h, ntM, show t.size - k = (t.size - 1 - k) + 1 by omega, List.replicate_succ]
theorem ntM_next {t : ByteArray} {k : Nat} (h : k < t.size) : (ntM t (k + 1)).set k (nxB (PlainAid.bt t k)) = ntL t k := by rw [ntM_set h, ntL]
end Go.Proofs.YtidolgonmimicaaGreat
