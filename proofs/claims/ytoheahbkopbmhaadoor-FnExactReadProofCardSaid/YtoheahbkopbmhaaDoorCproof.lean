/- The laws' own marks of []impl.Line and of impl.Proof. -/
import Derived.Test.YtoheahbkopbmhaaDoorW20
import Derived.Test.YtoheahbkopbmhaaDoorApp2
import Derived.Deep.RegionHeld3
import Derived.Deep.DeepCutAuto
namespace Go.Proofs.YtoheahbkopbmhaaDoor
set_option linter.unusedVariables false
set_option linter.unusedSimpArgs false
open Go.ChangeShapes Go.WideShapes Go.ChangeAt Go.RowKit Go.Deep
/-- The marks that line j gets. -/
def markLn (k0 : Int) (j : Nat) : Line3 := (markT (k0 + 3 * (j : Int)).toNat, k0 + 3 * (j : Int) + 1, k0 + 3 * (j : Int) + 2)
set_option maxHeartbeats 1000000 in
set_option maxRecDepth 100000 in
theorem laws_markLineS (A : Option Addr) (n c base : Nat) (l : List Line3) (k0 : Int) (w : World) (h : Owned lineE 3 33 w base A n c l) (hbase : base ≤ w.heap.size) (hz : n ≤ 16777216) (hk0 : 1 ≤ k0 ∧ k0 ≤ 1099511627776) :
    Calls Tryd.prog 21 #[.slice A n c, .int .i64 k0] w fun e w' => e = .returned (.int .i64 (k0 + 3 * (n : Int))) ∧ Owned lineE 3 33 w' base A n c ((List.range n).map (markLn k0)) ∧ w.grownBy w' (Value.slice A n c).ownBlock ∧ Below base w w' := by
  have HB := Lib.hid h
  go_in
  go_wp2
  go_loopw [5, 1] (fun p q wr => ∃ (i : Nat) (m : List Line3), i ≤ n ∧ p = .int .i64 i ∧ q = .int .i64 (k0 + 3 * (i : Int)) ∧ Hid (∀ j, j < i → m[j]? = some (markLn k0 j)) ∧ Owned lineE 3 33 wr base A n c m ∧ w.grownBy wr (Value.slice A n c).ownBlock) (fun p _ _ => n - (intOf p).toNat)
  case atStart => exact ⟨0, l, Nat.zero_le _, rfl, by simp, Lib.hid (fun j hj => absurd hj (by omega)), h, World.grownBy.refl w _⟩
  case round =>
    obtain ⟨i, m, hi, rfl, rfl, HM, ho, hg⟩ := hrel
    rename World => wr
    by_cases hlt : i < n
    · have hI : (i : Int) < (n : Int) := by omega
      obtain ⟨y, hy⟩ := some_of_lt (l := m) (k := i) (by rw [ho.len]; exact hlt)
      have HY := Lib.hid hy
      have HO0 := Lib.hid ho
      obtain ⟨k, hkk⟩ : ∃ kk : Nat, (kk : Int) = k0 + 3 * (i : Int) := ⟨(k0 + 3 * (i : Int)).toNat, by omega⟩
      have hms : Hid ((markT k, (k : Int) + 1, (k : Int) + 1 + 1) = markLn k0 i) := Lib.hid (by
        rw [markLn, ← hkk]
        have : ((k : Int)).toNat = k := rfl
        rw [this, show (k : Int) + 2 = (k : Int) + 1 + 1 by omega])
      have HKK := Lib.hid hkk
      have hkb : 0 < k ∧ k ≤ 4398046511104 := by omega
      rw [← hkk]
      clear hy ho h hkk
      go_wp2_with fail
      refine (laws_markText k _ hkb).mono ?_; rintro e w1 ⟨rfl, hb1⟩
      have HO := Lib.hid (HO0.out.up hb1)
      have hg1 := grownBy_trans hg (grown_any hb1 (Value.slice A n c).ownBlock)
      obtain ⟨g, rfl, hgb, hgs, hcell, hfz⟩ := HO.out.at_ (by omega)
      have old0 := hcell i y 0 _ HY.out rfl
      have old1 := hcell i y 1 _ HY.out rfl
      have old2 := hcell i y 2 _ HY.out rfl
      have fz0 := hfz (i * 3)
      have fz1 := hfz (i * 3 + 1)
      have fz2 := hfz (i * 3 + 2)
      simp only [Nat.add_zero] at old0
      have hil : i < m.length := by rw [HO.out.len]; exact hlt
      have p0 := HO.out.put (j := 0) (x := (markT k, y.2)) (u := .string (markT k)) HY.out (by decide) rfl
      have p1 := p0.1.put (j := 1) (x := (markT k, (k : Int) + 1, y.2.2)) (u := .int .i64 ((k : Int) + 1)) (List.getElem?_set_self hil) (by decide) rfl
      have p2 := p1.1.put (j := 2) (x := (markT k, (k : Int) + 1, (k : Int) + 1 + 1)) (u := .int .i64 ((k : Int) + 1 + 1)) (List.getElem?_set_self (by rw [List.length_set]; exact hil)) (by decide) rfl
      simp only [List.set_set, Nat.add_zero] at p0 p1 p2
      rw [hms.out] at p2
      have P2 := Lib.hid p2.1
      have PG := Lib.hid (grownBy_trans (grownBy_trans (grownBy_trans hg1 p0.2) p1.2) p2.2)
      have HM2 := Lib.hid (upto_mark HM.out hil)
      have hk3 : Hid (((k : Int) + 1 + 1 + 1) = k0 + 3 * ((i + 1 : Nat) : Int)) := Lib.hid (by have := HKK.out; omega)
      clear hcell hfz hb1 p0 p1 p2 hg hg1 HO0 HM
      go_wp2
      go_roundw
      case rel => exact ⟨i + 1, m.set i (markLn k0 i), by omega, by go_num, by rw [hk3.out], HM2, P2.out, PG.out⟩
      case measure => simp [intOf]; omega
    · have hI : ¬ (i : Int) < (n : Int) := by omega
      go_wp2
      go_ret
      obtain rfl : i = n := by omega
      have e1 : m = (List.range i).map (markLn k0) := marks_eq HM.out ho.len
      rw [e1] at ho
      exact ⟨rfl, ho, hg, (Below.refl _ _).grown hg hbase fun k hk => (HB.out.blk hk).1⟩
set_option maxHeartbeats 1000000 in
set_option maxRecDepth 100000 in
theorem laws_heldLineS (A : Option Addr) (n c : Nat) (k0 : Int) (w : World) (h : Recs lineE 3 w A ((List.range n).map (markLn k0))) (hz : n ≤ 16777216) (hk0 : 1 ≤ k0 ∧ k0 ≤ 1099511627776) :
    Calls Tryd.prog 23 #[.slice A n c, .int .i64 k0] w fun e w' => e = .returned (.int .i64 (k0 + 3 * (n : Int))) ∧ Below w.heap.size w w' := by
  go_in
  go_wp2
  go_loopw [5, 1] (fun p q wr => ∃ i : Nat, i ≤ n ∧ p = .int .i64 i ∧ q = .int .i64 (k0 + 3 * (i : Int)) ∧ Below w.heap.size w wr) (fun p _ _ => n - (intOf p).toNat)
  case atStart => exact ⟨0, Nat.zero_le _, rfl, by simp, Below.refl _ _⟩
  case round =>
    obtain ⟨i, hi, rfl, rfl, hb⟩ := hrel
    rename World => wr
    by_cases hlt : i < n
    · have hI : (i : Int) < (n : Int) := by omega
      have hx : ((List.range n).map (markLn k0))[i]? = some (markLn k0 i) := by simp [hlt]
      obtain ⟨k, hkk⟩ : ∃ kk : Nat, (kk : Int) = k0 + 3 * (i : Int) := ⟨(k0 + 3 * (i : Int)).toNat, by omega⟩
      have hms : markLn k0 i = (markT k, (k : Int) + 1, (k : Int) + 1 + 1) := by
        rw [markLn, ← hkk]
        have : ((k : Int)).toNat = k := rfl
        rw [this, show (k : Int) + 2 = (k : Int) + 1 + 1 by omega]
      rw [hms] at hx
      obtain ⟨b1, o1, rfl, hbb, hc0, hc1, hc2⟩ := (h.below hb (Nat.le_refl _)).at_3 hx
      have HKK := Lib.hid hkk
      have hkb : 0 < k ∧ k ≤ 4398046511104 := by omega
      rw [← hkk]
      dsimp only at hc0 hc1 hc2
      obtain ⟨T, hT⟩ : ∃ T, T = markT k := ⟨_, rfl⟩
      have HT := Lib.hid hT
      rw [← hT] at hc0
      have hk3 : Hid (((k : Int) + 1 + 1 + 1) = k0 + 3 * ((i + 1 : Nat) : Int)) := Lib.hid (by omega)
      clear hx h hms hkk hT
      go_wp2
      have heq : (T.toList == T.toList) = true := by simp
      go_region_held3 (fun u => u.cell? ⟨b1, o1 + i * 3, none⟩ = some (.string T) ∧ u.cell? ⟨b1, o1 + i * 3 + 1, none⟩ = some (.int .i64 ((k : Int) + 1)) ∧ u.cell? ⟨b1, o1 + i * 3 + 2, none⟩ = some (.int .i64 ((k : Int) + 1 + 1))) (first | exact ⟨by assumption, by assumption, by assumption⟩) (first | (go_at_call 36; refine (laws_markText k _ hkb).mono ?_; rw [← HT.out]; rintro e w1 ⟨rfl, hbd⟩; have hb1 := below_of_drew hbd; have d0 := (hb1.cell (p := ⟨b1, o1 + i * 3, none⟩) hbb).trans hc0; have d1 := (hb1.cell (p := ⟨b1, o1 + i * 3 + 1, none⟩) hbb).trans hc1; have d2 := (hb1.cell (p := ⟨b1, o1 + i * 3 + 2, none⟩) hbb).trans hc2))
      have hb2 := hb.trans (hb1.mono hb.size)
      clear hc0 hc1 hc2
      go_wp2
      go_roundw
      case rel => exact ⟨i + 1, by omega, by go_num, by rw [hk3.out], hb2⟩
      case measure => simp [intOf]; omega
    · have hI : ¬ (i : Int) < (n : Int) := by omega
      go_wp2
      go_ret
      obtain rfl : i = n := by omega
      exact ⟨rfl, hb⟩
set_option maxHeartbeats 1000000 in
set_option maxRecDepth 100000 in
theorem laws_markProof (A B : Option Addr) (n c m d base : Nat) (l : List ByteArray) (L : List Line3) (k0 : Int) (w : World) (h : Owned strE 1 9 w base A n c l) (g : Owned lineE 3 33 w base B m d L) (hbase : base ≤ w.heap.size) (hz : n ≤ 16777216) (hz2 : m ≤ 16777216) (hk0 : 1 ≤ k0 ∧ k0 ≤ 1000000) :
    Calls Tryd.prog 7 #[.agg #[.slice A n c, .slice B m d], .int .i64 k0] w fun e w' => e = .returned (.int .i64 (k0 + (n : Int) + 3 * (m : Int))) ∧ Owned strE 1 9 w' base A n c ((List.range n).map (markS k0)) ∧ Owned lineE 3 33 w' base B m d ((List.range m).map (markLn (k0 + (n : Int)))) ∧ Below base w w' ∧ (∀ (α : Type) (e : α → List Value) (s lo : Nat) (E : TypeId) (C : Option Addr) (q r : Nat) (V : List α), Owned e s E w lo C q r V → (∀ k, (Value.slice C q r).ownBlock = some k → (Value.slice A n c).ownBlock ≠ some k ∧ (Value.slice B m d).ownBlock ≠ some k) → Owned e s E w' lo C q r V) ∧ ∀ (p : Nat) (t : TypeId) (cs : List Value), Blk w p t cs → some p ≠ (Value.slice A n c).ownBlock → some p ≠ (Value.slice B m d).ownBlock → Blk w' p t cs := by
  have b0 : Below w.heap.size w (w.alloc (.cells #[.slice A n c, .slice B m d] 25)) := by (repeat' (first | (with_reducible exact Below.refl _ _) | (with_reducible assumption) | (with_reducible refine below_drewN ?_ _) | (with_reducible refine Below.drew ?_) | (with_reducible refine below_alloc ?_ _) | (with_reducible refine Below.alloc ?_ ?_ _) | (with_reducible refine Below.setCell ?_ ?_ _) | (with_reducible refine below_go ?_ (by with_reducible assumption)) | (with_reducible refine below_then (by with_reducible assumption) ?_ ?_) | go_size))
  have K0 := Blk.at_ w 25 [.slice A n c, .slice B m d] (b := w.heap.size) rfl
  have HO := Lib.hid (h.up b0)
  have HG := Lib.hid (g.up b0)
  have hne : Hid (∀ k, (Value.slice B m d).ownBlock = some k → (Value.slice A n c).ownBlock ≠ some k) := Lib.hid (g.ne h (by decide))
  have hra := Lib.hid h.range
  have hrb := Lib.hid g.range
  clear h g
  go_in
  go_upto_region 1 with fail
  obtain ⟨w1, hw1⟩ : ∃ u, u = w.alloc (.cells #[.slice A n c, .slice B m d] 25) := ⟨_, rfl⟩
  have hsz1 : w1.heap.size = w.heap.size + 1 := by rw [hw1]; simp
  rw [← hw1] at b0 K0 HO HG
  rw [← hw1]
  have HSZ1 := Lib.hid hsz1
  clear hw1 hsz1
  have k0_ := K0.cell 0; have k1_ := K0.cell 1
  simp only [List.getElem?_cons_zero, List.getElem?_cons_succ] at k0_ k1_
  go_wp2_with fail
  refine (laws_markStringS _ _ _ base _ _ _ HO.out (Nat.le_trans hbase b0.size) hz (by omega)).mono ?_; rintro e w2 ⟨rfl, o2, g2, hb2⟩
  have K2 := K0.grown g2 (fun e => by have := (hra.out _ e.symm).2; omega)
  have HO2 := Lib.hid o2
  have HG2 := Lib.hid (HG.out.kept g2 (fun k hk => hne.out k hk))
  have HGR2 := Lib.hid g2
  have HB2 := Lib.hid ((b0.mono hbase).trans hb2)
  clear k0_ k1_ K0 o2 g2 hb2 HO HG
  have k0_ := K2.cell 0; have k1_ := K2.cell 1
  simp only [List.getElem?_cons_zero, List.getElem?_cons_succ] at k0_ k1_
  go_wp2_with fail
  refine (laws_markLineS _ _ _ base _ _ _ HG2.out (Nat.le_trans hbase HB2.out.size) hz2 (by omega)).mono ?_; rintro e w3 ⟨rfl, o3, g3, hb3⟩
  have HO3 := Lib.hid (HO2.out.kept g3 (fun k hk e => hne.out k e hk))
  have HO4 := Lib.hid o3
  have HB3 := Lib.hid (HB2.out.trans hb3)
  have HF : Hid (∀ (α : Type) (e : α → List Value) (s lo : Nat) (E : TypeId) (C : Option Addr) (q r : Nat) (V : List α), Owned e s E w lo C q r V → (∀ k, (Value.slice C q r).ownBlock = some k → (Value.slice A n c).ownBlock ≠ some k ∧ (Value.slice B m d).ownBlock ≠ some k) → Owned e s E w3 lo C q r V) := Lib.hid (fun α e s lo E C q r V hV hn => ((hV.up b0).kept HGR2.out (fun k hk => (hn k hk).1)).kept g3 (fun k hk => (hn k hk).2))
  have HP : Hid (∀ (p : Nat) (t : TypeId) (cs : List Value), Blk w p t cs → some p ≠ (Value.slice A n c).ownBlock → some p ≠ (Value.slice B m d).ownBlock → Blk w3 p t cs) := Lib.hid (fun p t cs hp h1 h2 => ((hp.up b0).grown HGR2.out h1).grown g3 h2)
  clear o3 g3 hb3
  go_wp2
  go_ret
  exact ⟨rfl, HO3.out, HO4.out, HB3.out, HF.out, HP.out⟩
set_option maxHeartbeats 1000000 in
set_option maxRecDepth 100000 in
theorem laws_heldProof (A B : Option Addr) (n c m d : Nat) (k0 : Int) (w : World) (h : Recs strE 1 w A ((List.range n).map (markS k0))) (g : Recs lineE 3 w B ((List.range m).map (markLn (k0 + (n : Int))))) (hz : n ≤ 16777216) (hz2 : m ≤ 16777216) (hk0 : 1 ≤ k0 ∧ k0 ≤ 1000000) :
    Calls Tryd.prog 8 #[.agg #[.slice A n c, .slice B m d], .int .i64 k0] w fun e w' => e = .returned (.int .i64 (k0 + (n : Int) + 3 * (m : Int))) ∧ Below w.heap.size w w' := by
  have b0 : Below w.heap.size w (w.alloc (.cells #[.slice A n c, .slice B m d] 25)) := by (repeat' (first | (with_reducible exact Below.refl _ _) | (with_reducible assumption) | (with_reducible refine below_drewN ?_ _) | (with_reducible refine Below.drew ?_) | (with_reducible refine below_alloc ?_ _) | (with_reducible refine Below.alloc ?_ ?_ _) | (with_reducible refine Below.setCell ?_ ?_ _) | (with_reducible refine below_go ?_ (by with_reducible assumption)) | (with_reducible refine below_then (by with_reducible assumption) ?_ ?_) | go_size))
  have K0 := Blk.at_ w 25 [.slice A n c, .slice B m d] (b := w.heap.size) rfl
  have HR := Lib.hid h
  have HL := Lib.hid g
  clear h g
  have hi1 : ¬ k0 + (n : Int) < 0 := by omega
  have hi2 : ¬ k0 + (n : Int) + 3 * (m : Int) < 0 := by omega
  go_in
  go_upto_region 1 with fail
  obtain ⟨w1, hw1⟩ : ∃ u, u = w.alloc (.cells #[.slice A n c, .slice B m d] 25) := ⟨_, rfl⟩
  rw [← hw1] at b0 K0
  rw [← hw1]
  clear hw1
  have k0_ := K0.cell 0; have k1_ := K0.cell 1
  simp only [List.getElem?_cons_zero, List.getElem?_cons_succ] at k0_ k1_
  go_wp2_with fail
  refine (laws_heldStringS _ _ _ _ _ (HR.out.up b0) hz (by omega)).mono ?_; rintro e w2 ⟨rfl, hb2⟩
  have K2 := K0.up hb2
  have B2 := below_go b0 hb2
  clear k0_ k1_ K0 hb2
  have k0_ := K2.cell 0; have k1_ := K2.cell 1
  simp only [List.getElem?_cons_zero, List.getElem?_cons_succ] at k0_ k1_
  go_wp2_with fail
  refine (laws_heldLineS _ _ _ _ _ (HL.out.below B2 (Nat.le_refl _)) hz2 (by omega)).mono ?_; rintro e w3 ⟨rfl, hb3⟩
  go_wp2
  go_ret
  exact ⟨rfl, below_go B2 hb3⟩
end Go.Proofs.YtoheahbkopbmhaaDoor
