/- Texts 4 of 4 that the claim leans on: plain laws and the walks' contracts, in order. -/
import Derived.Test.YtmdmnjjlpefigaaGreatMExactRingTouchOf3
/- The walks of chapter 17: what a method and its calls give (the reference). -/
namespace Go.Proofs.YtmdmnjjlpefigaaGreat
set_option linter.unusedVariables false
set_option linter.unusedSimpArgs false
open Go.ChangeShapes Go.WideShapes Go.ChangeAt Go.RowKit Go.Deep
abbrev noE : List Value := [.string { data := #[] }, .string { data := #[] }, .string { data := #[] }, .slice none 0 0]
set_option maxHeartbeats 1000000 in
theorem spec_CallHead_no {A : Option Addr} {n c : Nat} {nm : ByteArray} {st : Int} {l : List ByteArray} {kb ks : ByteArray} {s : ByteArray} {w : World} (hn : l.length = n) (h : Strs w A l) (hz : n ≤ 1048576) (hs : ∀ s ∈ l, s.size ≤ 16777216) (hnm : nm.size ≤ 16777216) (hst : I64 st) (hkb : kb.size ≤ 16777216) (hks : ks.size ≤ 16777216) (hk : goodK nm st l kb ks = false) :
    Calls Tryz.prog 29 #[.agg #[.string nm, .int .i64 st, .slice A n c], .agg #[.string kb, .string ks], .string s] w fun e w' => e = .returned (.tuple #[.string { data := #[] }, .bool false]) ∧ Below w.heap.size w w' := by
  have b0 : Below w.heap.size w ((w.alloc (.cells ⟨[.string nm, .int .i64 st, .slice A n c]⟩ 32)).alloc (.cells ⟨[.string kb, .string ks]⟩ 34)) := by (repeat' (first | (with_reducible exact Below.refl _ _) | (with_reducible assumption) | (with_reducible refine below_drewN ?_ _) | (with_reducible refine Below.drew ?_) | (with_reducible refine below_alloc ?_ _) | (with_reducible refine Below.alloc ?_ ?_ _) | (with_reducible refine Below.setCell ?_ ?_ _) | (with_reducible refine below_go ?_ (by with_reducible assumption)) | (with_reducible refine below_then (by with_reducible assumption) ?_ ?_) | go_size))
  have e1 := Lib.hid (show (goodK nm st l kb ks && isCl s) = false by rw [hk]; rfl)
  go_in
  go_wp2_with fail
  obtain ⟨w0, hw0⟩ : ∃ u, u = ((w.alloc (.cells #[.string nm, .int .i64 st, .slice A n c] 32)).alloc (.cells #[.string kb, .string ks] 34)) := ⟨_, rfl⟩
  rw [← hw0] at b0 ⊢
  clear hw0
  refine (spec_l8Asked (s := s) hn (h.up b0) hz hs hnm hst hkb hks).mono ?_; rw [e1.out]; rintro e w1 ⟨rfl, hb1⟩
  have hB1 := below_go b0 hb1
  go_wp2
  go_ret2
  exact ⟨rfl, hB1⟩
set_option maxHeartbeats 2000000 in
set_option maxRecDepth 100000 in
theorem spec_l17Of_no {A : Option Addr} {n c : Nat} {nm : ByteArray} {st : Int} {l : List ByteArray} {kb ks : ByteArray} {w : World} (hn : l.length = n) (h : Strs w A l) (hz : n ≤ 1048576) (hs : ∀ s ∈ l, s.size ≤ 16777216) (hnm : nm.size ≤ 16777216) (hst : I64 st) (hkb : kb.size ≤ 16777216) (hks : ks.size ≤ 16777216) (hk : goodK nm st l kb ks = false) :
    Calls Tryz.prog 20 #[.agg #[.string nm, .int .i64 st, .slice A n c], .agg #[.string kb, .string ks]] w fun e w' => e = .returned (.tuple #[.agg #[.string { data := #[] }, .string { data := #[] }, .string { data := #[] }, .slice none 0 0], .bool false]) ∧ Below w.heap.size w w' := by
  have b0 : Below w.heap.size w ((((w.alloc (.cells ⟨[.string nm, .int .i64 st, .slice A n c]⟩ 32)).alloc (.cells ⟨[.string kb, .string ks]⟩ 34)).alloc (.cells ⟨noE⟩ 41)).alloc (.cells ⟨noE⟩ 41)) := by (repeat' (first | (with_reducible exact Below.refl _ _) | (with_reducible assumption) | (with_reducible refine below_drewN ?_ _) | (with_reducible refine Below.drew ?_) | (with_reducible refine below_alloc ?_ _) | (with_reducible refine Below.alloc ?_ ?_ _) | (with_reducible refine Below.setCell ?_ ?_ _) | (with_reducible refine below_go ?_ (by with_reducible assumption)) | (with_reducible refine below_then (by with_reducible assumption) ?_ ?_) | go_size))
  have K0 := (((Blk.at_ w 32 [.string nm, .int .i64 st, .slice A n c] (b := w.heap.size) rfl).alloc (.cells ⟨[.string kb, .string ks]⟩ 34)).alloc (.cells ⟨noE⟩ 41)).alloc (.cells ⟨noE⟩ 41)
  have K1 := ((Blk.at_ (w.alloc (.cells ⟨[.string nm, .int .i64 st, .slice A n c]⟩ 32)) 34 [.string kb, .string ks] (b := w.heap.size + 1) (by simp)).alloc (.cells ⟨noE⟩ 41)).alloc (.cells ⟨noE⟩ 41)
  have K2 := (Blk.at_ ((w.alloc (.cells ⟨[.string nm, .int .i64 st, .slice A n c]⟩ 32)).alloc (.cells ⟨[.string kb, .string ks]⟩ 34)) 41 noE (b := w.heap.size + 1 + 1) (by simp)).alloc (.cells ⟨noE⟩ 41)
  have K3 := Blk.at_ (((w.alloc (.cells ⟨[.string nm, .int .i64 st, .slice A n c]⟩ 32)).alloc (.cells ⟨[.string kb, .string ks]⟩ 34)).alloc (.cells ⟨noE⟩ 41)) 41 noE (b := w.heap.size + 1 + 1 + 1) (by simp)
  go_in
  go_wp2_with fail
  obtain ⟨w0, hw0⟩ : ∃ u, u = ((((w.alloc (.cells #[.string nm, .int .i64 st, .slice A n c] 32)).alloc (.cells #[.string kb, .string ks] 34)).alloc (.cells #[.string { data := #[] }, .string { data := #[] }, .string { data := #[] }, .slice none 0 0] 41)).alloc (.cells #[.string { data := #[] }, .string { data := #[] }, .string { data := #[] }, .slice none 0 0] 41)) := ⟨_, rfl⟩
  rw [← hw0] at b0 K0 K1 K2 K3 ⊢
  clear hw0
  have HH := Lib.hid (h.up b0)
  refine (spec_CallHead_no hn HH.out hz hs hnm hst hkb hks hk).mono ?_; rintro e w1 ⟨rfl, hb1⟩
  have L0 := K0.up hb1; have L1 := K1.up hb1
  have k0 := L0.cell 0; have k1 := L0.cell 1; have k2 := L0.cell 2; have q0 := L1.cell 0; have q1 := L1.cell 1
  simp only [List.getElem?_cons_zero, List.getElem?_cons_succ] at k0 k1 k2 q0 q1
  clear K0 K1 L0 L1
  go_wp2_with fail
  refine (spec_CallHead_no hn (HH.out.up hb1) hz hs hnm hst hkb hks hk).mono ?_; rintro e w2 ⟨rfl, hb2⟩
  have C2 := below_go hb1 hb2
  have hB2 := below_go b0 C2
  clear k0 k1 k2 q0 q1
  have M2 := K2.up C2; have M3 := K3.up C2
  have k0 := M3.cell 0; have k1 := M3.cell 1; have k2 := M3.cell 2; have k3 := M3.cell 3
  have d0 := M2.cell 0; have d1 := M2.cell 1; have d2 := M2.cell 2; have d3 := M2.cell 3
  simp only [List.getElem?_cons_zero, List.getElem?_cons_succ] at k0 k1 k2 k3 d0 d1 d2 d3
  have f0 := M2.frozen 0; have f1 := M2.frozen 1; have f2 := M2.frozen 2; have f3 := M2.frozen 3
  go_wp2
  have Z := (((M2.set_ 0 (.string { data := #[] })).set_ 1 (.string { data := #[] })).set_ 2 (.string { data := #[] })).set_ 3 (.slice none 0 0)
  have z0 := Z.cell 0; have z1 := Z.cell 1; have z2 := Z.cell 2; have z3 := Z.cell 3
  simp only [List.set_cons_zero, List.set_cons_succ, List.getElem?_cons_zero, List.getElem?_cons_succ] at z0 z1 z2 z3
  refine bodyPost_ret (v := .tuple #[.agg #[.string { data := #[] }, .string { data := #[] }, .string { data := #[] }, .slice none 0 0], .bool false]) (by simp [results, Tryz.results20, go_sem, z0, z1, z2, z3]) rfl ?_
  exact ⟨rfl, by (repeat' (first | (with_reducible exact Below.refl _ _) | (with_reducible assumption) | (with_reducible refine below_drewN ?_ _) | (with_reducible refine Below.drew ?_) | (with_reducible refine below_alloc ?_ _) | (with_reducible refine Below.alloc ?_ ?_ _) | (with_reducible refine Below.setCell ?_ ?_ _) | (with_reducible refine below_go ?_ (by with_reducible assumption)) | (with_reducible refine below_then (by with_reducible assumption) ?_ ?_) | go_size))⟩
end Go.Proofs.YtmdmnjjlpefigaaGreat
/- The walks of chapter 17: what good calls give (the reference). -/
namespace Go.Proofs.YtmdmnjjlpefigaaGreat
set_option linter.unusedVariables false
set_option linter.unusedSimpArgs false
open Go.ChangeShapes Go.WideShapes Go.ChangeAt Go.RowKit Go.Deep
set_option maxHeartbeats 2000000 in
set_option maxRecDepth 100000 in
theorem spec_l17Of {A : Option Addr} {n c st : Nat} {nm : ByteArray} {l : List ByteArray} {kb ks : ByteArray} {w : World} (hn : l.length = n) (h : Strs w A l) (hk : goodK nm (st : Int) l kb ks = true) (hcap : n ≤ c) :
    Calls Tryz.prog 20 #[.agg #[.string nm, .int .i64 st, .slice A n c], .agg #[.string kb, .string ks]] w fun e w' => ∃ G gn gc, e = .returned (.tuple #[.agg #[.string (cP st l kb ks), .string (cB st l kb ks), .string (cQ st l kb ks), .slice G gn gc], .bool (decide ((gF st l kb ks).length ≤ 130))]) ∧ ((gF st l kb ks).length ≤ 130 → gn = (gF st l kb ks).length ∧ ∃ L, Owned strE 1 9 w' w.heap.size G gn gc L ∧ L.Perm (gF st l kb ks) ∧ Srt L) ∧ Below w.heap.size w w' ∧ RowN st (cQ st l kb ks) := by
  have h8 := (goodK_all hk).1
  have hP := cP_row hk
  have hB := cB_row hk
  have hbg := hB.1
  have hps : (cP st l kb ks).size ≤ 16777216 := by rw [hP.2]; omega
  have HGR := Lib.hid (gF_rows hk)
  have HGF := Lib.hid (show gF st l kb ks = clF st [cP st l kb ks, cB st l kb ks] from rfl)
  have HQD := Lib.hid (show cQ st l kb ks = timesS (cP st l kb ks) (turnS (cB st l kb ks)) from rfl)
  have HPE := Lib.hid (show callHd st l kb ks ⟨#[112]⟩ = cP st l kb ks from rfl)
  have HBE := Lib.hid (show callHd st l kb ks ⟨#[98]⟩ = cB st l kb ks from rfl)
  have b0 : Below w.heap.size w ((((w.alloc (.cells ⟨[.string nm, .int .i64 st, .slice A n c]⟩ 32)).alloc (.cells ⟨[.string kb, .string ks]⟩ 34)).alloc (.cells ⟨noE⟩ 41)).alloc (.cells ⟨noE⟩ 41)) := by (repeat' (first | (with_reducible exact Below.refl _ _) | (with_reducible assumption) | (with_reducible refine below_drewN ?_ _) | (with_reducible refine Below.drew ?_) | (with_reducible refine below_alloc ?_ _) | (with_reducible refine Below.alloc ?_ ?_ _) | (with_reducible refine Below.setCell ?_ ?_ _) | (with_reducible refine below_go ?_ (by with_reducible assumption)) | (with_reducible refine below_then (by with_reducible assumption) ?_ ?_) | go_size))
  have K0 := (((Blk.at_ w 32 [.string nm, .int .i64 st, .slice A n c] (b := w.heap.size) rfl).alloc (.cells ⟨[.string kb, .string ks]⟩ 34)).alloc (.cells ⟨noE⟩ 41)).alloc (.cells ⟨noE⟩ 41)
  have K1 := ((Blk.at_ (w.alloc (.cells ⟨[.string nm, .int .i64 st, .slice A n c]⟩ 32)) 34 [.string kb, .string ks] (b := w.heap.size + 1) (by simp)).alloc (.cells ⟨noE⟩ 41)).alloc (.cells ⟨noE⟩ 41)
  have K2 := (Blk.at_ ((w.alloc (.cells ⟨[.string nm, .int .i64 st, .slice A n c]⟩ 32)).alloc (.cells ⟨[.string kb, .string ks]⟩ 34)) 41 noE (b := w.heap.size + 1 + 1) (by simp)).alloc (.cells ⟨noE⟩ 41)
  have K3 := Blk.at_ (((w.alloc (.cells ⟨[.string nm, .int .i64 st, .slice A n c]⟩ 32)).alloc (.cells ⟨[.string kb, .string ks]⟩ 34)).alloc (.cells ⟨noE⟩ 41)) 41 noE (b := w.heap.size + 1 + 1 + 1) (by simp)
  go_in
  go_wp2_with fail
  obtain ⟨w0, hw0⟩ : ∃ u, u = ((((w.alloc (.cells #[.string nm, .int .i64 st, .slice A n c] 32)).alloc (.cells #[.string kb, .string ks] 34)).alloc (.cells #[.string { data := #[] }, .string { data := #[] }, .string { data := #[] }, .slice none 0 0] 41)).alloc (.cells #[.string { data := #[] }, .string { data := #[] }, .string { data := #[] }, .slice none 0 0] 41)) := ⟨_, rfl⟩
  rw [← hw0] at b0 K0 K1 K2 K3 ⊢
  clear hw0
  have HH := Lib.hid (h.up b0)
  refine (spec_CallHead hn HH.out hk hcap (by simp [isCl, isP, isB, isS, Lib.toList_data])).mono ?_; rw [HPE.out]; rintro e w1 ⟨rfl, hb1⟩
  have L0 := K0.up hb1; have L1 := K1.up hb1
  have k0 := L0.cell 0; have k1 := L0.cell 1; have k2 := L0.cell 2; have q0 := L1.cell 0; have q1 := L1.cell 1
  simp only [List.getElem?_cons_zero, List.getElem?_cons_succ] at k0 k1 k2 q0 q1
  clear K0 K1 L0 L1
  go_wp2_with fail
  refine (spec_CallHead hn (HH.out.up hb1) hk hcap (by simp [isCl, isP, isB, isS, Lib.toList_data])).mono ?_; rw [HBE.out]; rintro e w2 ⟨rfl, hb2⟩
  have C2 := below_go hb1 hb2
  have hB2 := below_go b0 C2
  clear k0 k1 k2 q0 q1 HH h
  have M2 := K2.up C2; have M3 := K3.up C2
  clear K2 K3
  have k0 := M3.cell 0; have k1 := M3.cell 1; have k2 := M3.cell 2; have k3 := M3.cell 3
  simp only [List.getElem?_cons_zero, List.getElem?_cons_succ] at k0 k1 k2 k3
  have f0 := M3.frozen 0; have f1 := M3.frozen 1; have f2 := M3.frozen 2; have f3 := M3.frozen 3
  go_wp2_with fail
  have hne : w.heap.size + 1 + 1 ≠ w.heap.size + 1 + 1 + 1 := by omega
  have N3 : Blk ((w2.setCell ⟨w.heap.size + 1 + 1 + 1, 0, none⟩ (.string (cP st l kb ks))).setCell ⟨w.heap.size + 1 + 1 + 1, 1, none⟩ (.string (cB st l kb ks))) (w.heap.size + 1 + 1 + 1) 41 [.string (cP st l kb ks), .string (cB st l kb ks), .string { data := #[] }, .slice none 0 0] := (M3.set_ 0 _).set_ 1 _
  have N2 : Blk ((w2.setCell ⟨w.heap.size + 1 + 1 + 1, 0, none⟩ (.string (cP st l kb ks))).setCell ⟨w.heap.size + 1 + 1 + 1, 1, none⟩ (.string (cB st l kb ks))) (w.heap.size + 1 + 1) 41 noE := (M2.far hne _).far hne _
  have hB3 : Below w.heap.size w ((w2.setCell ⟨w.heap.size + 1 + 1 + 1, 0, none⟩ (.string (cP st l kb ks))).setCell ⟨w.heap.size + 1 + 1 + 1, 1, none⟩ (.string (cB st l kb ks))) := by (repeat' (first | (with_reducible exact Below.refl _ _) | (with_reducible assumption) | (with_reducible refine below_drewN ?_ _) | (with_reducible refine Below.drew ?_) | (with_reducible refine below_alloc ?_ _) | (with_reducible refine Below.alloc ?_ ?_ _) | (with_reducible refine Below.setCell ?_ ?_ _) | (with_reducible refine below_go ?_ (by with_reducible assumption)) | (with_reducible refine below_then (by with_reducible assumption) ?_ ?_) | go_size))
  obtain ⟨w3, hw3⟩ : ∃ u, u = ((w2.setCell ⟨w.heap.size + 1 + 1 + 1, 0, none⟩ (.string (cP st l kb ks))).setCell ⟨w.heap.size + 1 + 1 + 1, 1, none⟩ (.string (cB st l kb ks))) := ⟨_, rfl⟩
  rw [← hw3] at N3 N2 hB3 ⊢
  clear hw3 M2 M3 k0 k1 k2 k3 f0 f1 f2 f3
  refine (spec_l1Turn hbg).mono ?_; rintro e w4 ⟨rfl, hb4, ht⟩
  rw [hB.2] at ht
  have hft := rowN_fits hP ht
  have hts : (turnS (cB st l kb ks)).size ≤ 16777216 := by rw [ht.2]; omega
  have HQR := Lib.hid (show RowN st (cQ st l kb ks) by rw [HQD.out]; exact hP.times ht)
  have hB4 := below_go hB3 hb4
  have M3 := N3.up hb4; have M2 := N2.up hb4
  clear N3 N2
  go_wp2_with fail
  refine (spec_l1Times hps hts hft).mono ?_; rw [← HQD.out]; rintro e w5 ⟨rfl, rfl⟩
  clear hft ht
  have k0 := M3.cell 0; have k1 := M3.cell 1; have k2 := M3.cell 2; have k3 := M3.cell 3
  simp only [List.getElem?_cons_zero, List.getElem?_cons_succ] at k0 k1 k2 k3
  have f0 := M3.frozen 0; have f1 := M3.frozen 1; have f2 := M3.frozen 2; have f3 := M3.frozen 3
  go_wp2_with fail
  have N3 : Blk (w4.setCell ⟨w.heap.size + 1 + 1 + 1, 2, none⟩ (.string (cQ st l kb ks))) (w.heap.size + 1 + 1 + 1) 41 [.string (cP st l kb ks), .string (cB st l kb ks), .string (cQ st l kb ks), .slice none 0 0] := M3.set_ 2 _
  have N2 := M2.far hne (.string (cQ st l kb ks)) (p := ⟨w.heap.size + 1 + 1 + 1, 2, none⟩)
  have hB5 : Below w.heap.size w (w4.setCell ⟨w.heap.size + 1 + 1 + 1, 2, none⟩ (.string (cQ st l kb ks))) := by (repeat' (first | (with_reducible exact Below.refl _ _) | (with_reducible assumption) | (with_reducible refine below_drewN ?_ _) | (with_reducible refine Below.drew ?_) | (with_reducible refine below_alloc ?_ _) | (with_reducible refine Below.alloc ?_ ?_ _) | (with_reducible refine Below.setCell ?_ ?_ _) | (with_reducible refine below_go ?_ (by with_reducible assumption)) | (with_reducible refine below_then (by with_reducible assumption) ?_ ?_) | go_size))
  have P3 := N3.alloc (.cells #[.string (cP st l kb ks), .string (cB st l kb ks)] 9)
  have P2 := N2.alloc (.cells #[.string (cP st l kb ks), .string (cB st l kb ks)] 9)
  have hB6 := hB5.alloc hB5.size (.cells #[.string (cP st l kb ks), .string (cB st l kb ks)] 9)
  refine (spec_l6Close (n := st) (gs := [cP st l kb ks, cB st l kb ks]) rfl (own_lit2_at (E := 9) (base := 0) (by simp [World.setCell]) (Nat.zero_le _)).recs (by simp) (by simp) h8.1 h8.2 HGR.out).mono ?_
  rw [← HGF.out]
  rintro e w6 ⟨G, gn, gc, rfl, hyes, hno, hb6⟩
  have hB7 := below_go hB6 hb6
  have Q3 := P3.up hb6; have Q2 := P2.up hb6
  have HY := Lib.hid (fun hle => (hyes hle))
  have HNO := Lib.hid hno
  have hbase : w.heap.size ≤ ((w4.setCell ⟨w.heap.size + 1 + 1 + 1, 2, none⟩ (.string (cQ st l kb ks))).alloc (.cells #[.string (cP st l kb ks), .string (cB st l kb ks)] 9)).heap.size := hB6.size
  have HBS := Lib.hid hbase
  clear hyes hno hbase N3 N2 P3 P2 M3 M2 k0 k1 k2 k3 f0 f1 f2 f3
  have k0 := Q3.cell 0; have k1 := Q3.cell 1; have k2 := Q3.cell 2; have k3 := Q3.cell 3
  simp only [List.getElem?_cons_zero, List.getElem?_cons_succ] at k0 k1 k2 k3
  have f0 := Q3.frozen 0; have f1 := Q3.frozen 1; have f2 := Q3.frozen 2; have f3 := Q3.frozen 3
  go_upto_region 11 with fail
  have N3 : Blk (w6.setCell ⟨w.heap.size + 1 + 1 + 1, 3, none⟩ (.slice G gn gc)) (w.heap.size + 1 + 1 + 1) 41 [.string (cP st l kb ks), .string (cB st l kb ks), .string (cQ st l kb ks), .slice G gn gc] := Q3.set_ 3 _
  have N2 := Q2.far hne (.slice G gn gc) (p := ⟨w.heap.size + 1 + 1 + 1, 3, none⟩)
  have hB8 : Below w.heap.size w (w6.setCell ⟨w.heap.size + 1 + 1 + 1, 3, none⟩ (.slice G gn gc)) := by (repeat' (first | (with_reducible exact Below.refl _ _) | (with_reducible assumption) | (with_reducible refine below_drewN ?_ _) | (with_reducible refine Below.drew ?_) | (with_reducible refine below_alloc ?_ _) | (with_reducible refine Below.alloc ?_ ?_ _) | (with_reducible refine Below.setCell ?_ ?_ _) | (with_reducible refine below_go ?_ (by with_reducible assumption)) | (with_reducible refine below_then (by with_reducible assumption) ?_ ?_) | go_size))
  have HY8 := Lib.hid (fun (hle : (gF st l kb ks).length ≤ 800) => (show gn = (gF st l kb ks).length ∧ ∃ L, Owned strE 1 9 (w6.setCell ⟨w.heap.size + 1 + 1 + 1, 3, none⟩ (.slice G gn gc)) w.heap.size G gn gc L ∧ L.Perm (gF st l kb ks) ∧ Srt L by
    obtain ⟨e1, L, ho, hp, hs⟩ := HY.out hle
    have hnb := ho.ne_blk Q3 (by decide)
    exact ⟨e1, L, (ho.kept (only_set w6 (p := ⟨w.heap.size + 1 + 1 + 1, 3, none⟩) _) (fun k hk e => hnb k hk (by injection e with e; exact e.symm))).base_le HBS.out, hp, hs⟩))
  obtain ⟨w8, hw8⟩ : ∃ u, u = (w6.setCell ⟨w.heap.size + 1 + 1 + 1, 3, none⟩ (.slice G gn gc)) := ⟨_, rfl⟩
  rw [← hw8] at N3 N2 hB8 HY8 ⊢
  clear hw8 k0 k1 k2 k3 f0 f1 f2 f3 Q2 Q3 hb6 hb4
  have k0 := N3.cell 0; have k1 := N3.cell 1; have k2 := N3.cell 2; have k3 := N3.cell 3
  have d0 := N2.cell 0; have d1 := N2.cell 1; have d2 := N2.cell 2; have d3 := N2.cell 3
  simp only [List.getElem?_cons_zero, List.getElem?_cons_succ] at k0 k1 k2 k3 d0 d1 d2 d3
  have f0 := N2.frozen 0; have f1 := N2.frozen 1; have f2 := N2.frozen 2; have f3 := N2.frozen 3
  have FIN : Hid (∀ r : Bool, r = decide ((gF st l kb ks).length ≤ 130) → ∃ G' gn' gc', Ending.returned (.tuple #[.agg #[.string (cP st l kb ks), .string (cB st l kb ks), .string (cQ st l kb ks), .slice G gn gc], .bool r]) = Ending.returned (.tuple #[.agg #[.string (cP st l kb ks), .string (cB st l kb ks), .string (cQ st l kb ks), .slice G' gn' gc'], .bool (decide ((gF st l kb ks).length ≤ 130))]) ∧ ((gF st l kb ks).length ≤ 130 → gn' = (gF st l kb ks).length ∧ ∃ L, Owned strE 1 9 ((((w8.setCell ⟨w.heap.size + 1 + 1, 0, none⟩ (.string (cP st l kb ks))).setCell ⟨w.heap.size + 1 + 1, 1, none⟩ (.string (cB st l kb ks))).setCell ⟨w.heap.size + 1 + 1, 2, none⟩ (.string (cQ st l kb ks))).setCell ⟨w.heap.size + 1 + 1, 3, none⟩ (.slice G gn gc)) w.heap.size G' gn' gc' L ∧ L.Perm (gF st l kb ks) ∧ Srt L) ∧ Below w.heap.size w ((((w8.setCell ⟨w.heap.size + 1 + 1, 0, none⟩ (.string (cP st l kb ks))).setCell ⟨w.heap.size + 1 + 1, 1, none⟩ (.string (cB st l kb ks))).setCell ⟨w.heap.size + 1 + 1, 2, none⟩ (.string (cQ st l kb ks))).setCell ⟨w.heap.size + 1 + 1, 3, none⟩ (.slice G gn gc)) ∧ RowN st (cQ st l kb ks)) := Lib.hid (fun r hr => by
    subst hr
    refine ⟨G, gn, gc, rfl, fun hle => ?_, by (repeat' (first | (with_reducible exact Below.refl _ _) | (with_reducible assumption) | (with_reducible refine below_drewN ?_ _) | (with_reducible refine Below.drew ?_) | (with_reducible refine below_alloc ?_ _) | (with_reducible refine Below.alloc ?_ ?_ _) | (with_reducible refine Below.setCell ?_ ?_ _) | (with_reducible refine below_go ?_ (by with_reducible assumption)) | (with_reducible refine below_then (by with_reducible assumption) ?_ ?_) | go_size)), HQR.out⟩
    obtain ⟨e1, L, ho, hp, hs⟩ := HY8.out (by omega)
    exact ⟨e1, L, set4_fin N2 ho (by decide) _ _ _ _, hp, hs⟩)
  by_cases h800 : (gF st l kb ks).length ≤ 800
  · have hgn := Lib.hid (HY8.out h800).1
    have hd8 : decide ((gF st l kb ks).length ≤ 800) = true := decide_eq_true h800
    rw [hd8]
    by_cases h130 : gn ≤ 130
    · have hdec := Lib.hid (show decide ((gF st l kb ks).length ≤ 130) = true from decide_eq_true (by have := hgn.out; omega))
      have hI : (gn : Int) ≤ 130 := by omega
      clear hd8 h800
      go_wp2
      have Z := (((N2.set_ 0 (.string (cP st l kb ks))).set_ 1 (.string (cB st l kb ks))).set_ 2 (.string (cQ st l kb ks))).set_ 3 (.slice G gn gc)
      have z0 := Z.cell 0; have z1 := Z.cell 1; have z2 := Z.cell 2; have z3 := Z.cell 3
      simp only [List.set_cons_zero, List.set_cons_succ, List.getElem?_cons_zero, List.getElem?_cons_succ] at z0 z1 z2 z3
      refine bodyPost_ret (v := .tuple #[.agg #[.string (cP st l kb ks), .string (cB st l kb ks), .string (cQ st l kb ks), .slice G gn gc], .bool true]) (by simp [results, Tryz.results20, go_sem, z0, z1, z2, z3]) rfl ?_
      exact FIN.out true hdec.out.symm
    · have hdec := Lib.hid (show decide ((gF st l kb ks).length ≤ 130) = false from decide_eq_false (by have := hgn.out; omega))
      have hI : ¬ (gn : Int) ≤ 130 := by omega
      clear hd8 h800
      go_wp2
      have Z := (((N2.set_ 0 (.string (cP st l kb ks))).set_ 1 (.string (cB st l kb ks))).set_ 2 (.string (cQ st l kb ks))).set_ 3 (.slice G gn gc)
      have z0 := Z.cell 0; have z1 := Z.cell 1; have z2 := Z.cell 2; have z3 := Z.cell 3
      simp only [List.set_cons_zero, List.set_cons_succ, List.getElem?_cons_zero, List.getElem?_cons_succ] at z0 z1 z2 z3
      refine bodyPost_ret (v := .tuple #[.agg #[.string (cP st l kb ks), .string (cB st l kb ks), .string (cQ st l kb ks), .slice G gn gc], .bool false]) (by simp [results, Tryz.results20, go_sem, z0, z1, z2, z3]) rfl ?_
      exact FIN.out false hdec.out.symm
  · have hdec := Lib.hid (show decide ((gF st l kb ks).length ≤ 130) = false from decide_eq_false (by omega))
    have hd8 : decide ((gF st l kb ks).length ≤ 800) = false := decide_eq_false h800
    rw [hd8]
    clear hd8 h800
    go_wp2
    have Z := (((N2.set_ 0 (.string (cP st l kb ks))).set_ 1 (.string (cB st l kb ks))).set_ 2 (.string (cQ st l kb ks))).set_ 3 (.slice G gn gc)
    have z0 := Z.cell 0; have z1 := Z.cell 1; have z2 := Z.cell 2; have z3 := Z.cell 3
    simp only [List.set_cons_zero, List.set_cons_succ, List.getElem?_cons_zero, List.getElem?_cons_succ] at z0 z1 z2 z3
    refine bodyPost_ret (v := .tuple #[.agg #[.string (cP st l kb ks), .string (cB st l kb ks), .string (cQ st l kb ks), .slice G gn gc], .bool false]) (by simp [results, Tryz.results20, go_sem, z0, z1, z2, z3]) rfl ?_
    exact FIN.out false hdec.out.symm
end Go.Proofs.YtmdmnjjlpefigaaGreat
/- The walks of chapter 17: the next head of a row (the reference). Printed by gen17k.py. -/
namespace Go.Proofs.YtmdmnjjlpefigaaGreat
set_option linter.unusedVariables false
set_option linter.unusedSimpArgs false
open Go.ChangeShapes Go.WideShapes Go.ChangeAt Go.RowKit Go.Deep
set_option maxHeartbeats 2000000 in
set_option maxRecDepth 100000 in
theorem spec_l17Bobs {A : Option Addr} {n c st : Nat} {nm : ByteArray} {l : List ByteArray} {kb ks : ByteArray} {T : List ByteArray} {AT : Option Addr} {NT cT : Nat} {w : World} (hn : l.length = n) (h : Strs w A l) (hk : goodK nm (st : Int) l kb ks = true) (hcap : n ≤ c) (hNT : T.length = NT) (hT : Strs w AT T) (hzT : NT ≤ 16777216) :
    Calls Tryz.prog 14 #[.agg #[.string nm, .int .i64 st, .slice A n c], .agg #[.string kb, .string ks], .slice AT NT cT] w fun e w' => ∃ G gn gc, e = .returned (.tuple #[.agg #[.string (cP st l kb ks), .string (cB st l kb ks), .string (cQ st l kb ks), .slice G gn gc], .bool (ok17 st l kb ks T)]) ∧ ((gF st l kb ks).length ≤ 130 → gn = (gF st l kb ks).length ∧ ∃ L, Owned strE 1 9 w' w.heap.size G gn gc L ∧ L.Perm (gF st l kb ks) ∧ Srt L) ∧ Below w.heap.size w w' := by
  have HO17 := Lib.hid (show ok17 st l kb ks T = (decide ((gF st l kb ks).length ≤ 130) && (rowsInB (gF st l kb ks) T && closedB (cQ st l kb ks) T)) from rfl)
  have HGR := Lib.hid (gF_row hk)
  have b0 : Below w.heap.size w (((w.alloc (.cells ⟨[.string nm, .int .i64 st, .slice A n c]⟩ 32)).alloc (.cells ⟨[.string kb, .string ks]⟩ 34)).alloc (.cells ⟨noE⟩ 41)) := by (repeat' (first | (with_reducible exact Below.refl _ _) | (with_reducible assumption) | (with_reducible refine below_drewN ?_ _) | (with_reducible refine Below.drew ?_) | (with_reducible refine below_alloc ?_ _) | (with_reducible refine Below.alloc ?_ ?_ _) | (with_reducible refine Below.setCell ?_ ?_ _) | (with_reducible refine below_go ?_ (by with_reducible assumption)) | (with_reducible refine below_then (by with_reducible assumption) ?_ ?_) | go_size))
  have K2 := Blk.at_ ((w.alloc (.cells ⟨[.string nm, .int .i64 st, .slice A n c]⟩ 32)).alloc (.cells ⟨[.string kb, .string ks]⟩ 34)) 41 noE (b := w.heap.size + 1 + 1) (by simp)
  go_in
  go_wp2_with fail
  obtain ⟨w0, hw0⟩ : ∃ u, u = (((w.alloc (.cells #[.string nm, .int .i64 st, .slice A n c] 32)).alloc (.cells #[.string kb, .string ks] 34)).alloc (.cells #[.string { data := #[] }, .string { data := #[] }, .string { data := #[] }, .slice none 0 0] 41)) := ⟨_, rfl⟩
  rw [← hw0] at b0 K2 ⊢
  clear hw0
  refine (spec_l17Of hn (h.up b0) hk hcap).mono ?_; rintro e w1 ⟨G, gn, gc, rfl, hyes, hb1, hq⟩
  have HQ := Lib.hid hq
  have HY := Lib.hid hyes
  clear hyes hq h
  have hB1 := below_go b0 hb1
  have hb2 : Below w1.heap.size w1 (w1.alloc (.cells ⟨[.string (cP st l kb ks), .string (cB st l kb ks), .string (cQ st l kb ks), .slice G gn gc]⟩ 41)) := by (repeat' (first | (with_reducible exact Below.refl _ _) | (with_reducible assumption) | (with_reducible refine below_drewN ?_ _) | (with_reducible refine Below.drew ?_) | (with_reducible refine below_alloc ?_ _) | (with_reducible refine Below.alloc ?_ ?_ _) | (with_reducible refine Below.setCell ?_ ?_ _) | (with_reducible refine below_go ?_ (by with_reducible assumption)) | (with_reducible refine below_then (by with_reducible assumption) ?_ ?_) | go_size))
  have KX := Blk.at_ w1 41 [.string (cP st l kb ks), .string (cB st l kb ks), .string (cQ st l kb ks), .slice G gn gc] (b := w1.heap.size) rfl
  have M2 := K2.up hb1
  clear K2
  go_wp2_with fail
  obtain ⟨w2, hw2⟩ : ∃ u, u = (w1.alloc (.cells #[.string (cP st l kb ks), .string (cB st l kb ks), .string (cQ st l kb ks), .slice G gn gc] 41)) := ⟨_, rfl⟩
  have N2 := M2.up hb2
  have sz2 : w1.heap.size < w2.heap.size := by rw [hw2]; simp
  have HY2 := Lib.hid (fun (hle : (gF st l kb ks).length ≤ 130) => (show ∃ L, Owned strE 1 9 w2 w0.heap.size G gn gc L ∧ L.Perm (gF st l kb ks) ∧ Srt L by
    obtain ⟨_, L, ho, hp, hs⟩ := HY.out hle
    exact ⟨L, by rw [hw2]; exact ho.alloc _, hp, hs⟩))
  rw [← hw2] at hb2 KX N2 ⊢
  clear hw2
  have hp2 : w.heap.size + 1 + 1 < w1.heap.size := by have := M2.lt; exact this
  have hB2 := below_go hB1 hb2
  have carry : Hid (∀ u : World, Below w2.heap.size w2 u → u.cell? ⟨w1.heap.size, 0, none⟩ = some (.string (cP st l kb ks)) ∧ u.cell? ⟨w1.heap.size, 1, none⟩ = some (.string (cB st l kb ks)) ∧ u.cell? ⟨w1.heap.size, 2, none⟩ = some (.string (cQ st l kb ks)) ∧ u.cell? ⟨w1.heap.size, 3, none⟩ = some (.slice G gn gc)) := Lib.hid (fun u hu => by
    have L0 := KX.up hu
    exact ⟨by simpa using L0.cell 0, by simpa using L0.cell 1, by simpa using L0.cell 2, by simpa using L0.cell 3⟩)
  have carryS : Hid (∀ (u : World) (x0 x1 x2 x3 : Value), Below w2.heap.size w2 u → ((((u.setCell ⟨w.heap.size + 1 + 1, 0, none⟩ x0).setCell ⟨w.heap.size + 1 + 1, 1, none⟩ x1).setCell ⟨w.heap.size + 1 + 1, 2, none⟩ x2).setCell ⟨w.heap.size + 1 + 1, 3, none⟩ x3).cell? ⟨w1.heap.size, 0, none⟩ = some (.string (cP st l kb ks)) ∧ ((((u.setCell ⟨w.heap.size + 1 + 1, 0, none⟩ x0).setCell ⟨w.heap.size + 1 + 1, 1, none⟩ x1).setCell ⟨w.heap.size + 1 + 1, 2, none⟩ x2).setCell ⟨w.heap.size + 1 + 1, 3, none⟩ x3).cell? ⟨w1.heap.size, 1, none⟩ = some (.string (cB st l kb ks)) ∧ ((((u.setCell ⟨w.heap.size + 1 + 1, 0, none⟩ x0).setCell ⟨w.heap.size + 1 + 1, 1, none⟩ x1).setCell ⟨w.heap.size + 1 + 1, 2, none⟩ x2).setCell ⟨w.heap.size + 1 + 1, 3, none⟩ x3).cell? ⟨w1.heap.size, 2, none⟩ = some (.string (cQ st l kb ks)) ∧ ((((u.setCell ⟨w.heap.size + 1 + 1, 0, none⟩ x0).setCell ⟨w.heap.size + 1 + 1, 1, none⟩ x1).setCell ⟨w.heap.size + 1 + 1, 2, none⟩ x2).setCell ⟨w.heap.size + 1 + 1, 3, none⟩ x3).cell? ⟨w1.heap.size, 3, none⟩ = some (.slice G gn gc)) := Lib.hid (fun u x0 x1 x2 x3 hu => by
    have L0 := carry.out u hu
    have oth : ∀ (v : World) (i j : Nat) (x : Value), (v.setCell ⟨w.heap.size + 1 + 1, i, none⟩ x).cell? ⟨w1.heap.size, j, none⟩ = v.cell? ⟨w1.heap.size, j, none⟩ := fun v i j x => World.cell?_setCell_other _ _ _ _ (by intro e; injection e with e; omega)
    simp only [oth]
    exact L0)
  have HT2 := Lib.hid (hT.up hB2)
  have HN := Lib.hid N2
  have HK := Lib.hid KX
  have fin : Hid (∀ (u : World) (r : Bool), Below w2.heap.size w2 u → r = ok17 st l kb ks T → Blk u (w.heap.size + 1 + 1) 41 noE → ∃ G' gn' gc', Ending.returned (.tuple #[.agg #[.string (cP st l kb ks), .string (cB st l kb ks), .string (cQ st l kb ks), .slice G gn gc], .bool r]) = Ending.returned (.tuple #[.agg #[.string (cP st l kb ks), .string (cB st l kb ks), .string (cQ st l kb ks), .slice G' gn' gc'], .bool (ok17 st l kb ks T)]) ∧ ((gF st l kb ks).length ≤ 130 → gn' = (gF st l kb ks).length ∧ ∃ L, Owned strE 1 9 ((((u.setCell ⟨w.heap.size + 1 + 1, 0, none⟩ (.string (cP st l kb ks))).setCell ⟨w.heap.size + 1 + 1, 1, none⟩ (.string (cB st l kb ks))).setCell ⟨w.heap.size + 1 + 1, 2, none⟩ (.string (cQ st l kb ks))).setCell ⟨w.heap.size + 1 + 1, 3, none⟩ (.slice G gn gc)) w.heap.size G' gn' gc' L ∧ L.Perm (gF st l kb ks) ∧ Srt L) ∧ Below w.heap.size w ((((u.setCell ⟨w.heap.size + 1 + 1, 0, none⟩ (.string (cP st l kb ks))).setCell ⟨w.heap.size + 1 + 1, 1, none⟩ (.string (cB st l kb ks))).setCell ⟨w.heap.size + 1 + 1, 2, none⟩ (.string (cQ st l kb ks))).setCell ⟨w.heap.size + 1 + 1, 3, none⟩ (.slice G gn gc))) := Lib.hid (fun u r hu hr hbk => by
    subst hr
    refine ⟨G, gn, gc, rfl, fun hle => ?_, ?_⟩
    · obtain ⟨L, ho, hp, hs⟩ := HY2.out hle
      exact ⟨(HY.out hle).1, L, set4_fin hbk ((ho.up hu).base_le b0.size) (by decide) _ _ _ _, hp, hs⟩
    · have hBu := below_go hB2 hu
      exact (((hBu.setCell (p := ⟨_, 0, none⟩) (by simp; omega) _).setCell (p := ⟨_, 1, none⟩) (by simp; omega) _).setCell (p := ⟨_, 2, none⟩) (by simp; omega) _).setCell (p := ⟨_, 3, none⟩) (by simp; omega) _)
  by_cases hle : (gF st l kb ks).length ≤ 130
  · obtain ⟨L, hoL, hpL, hsL⟩ := HY2.out hle
    have HL := Lib.hid hoL
    have HPL := Lib.hid hpL
    have HSL := Lib.hid hsL
    have hgz : gn ≤ 16777216 := by have := (HY.out hle).1; omega
    have hdec : decide ((gF st l kb ks).length ≤ 130) = true := decide_eq_true hle
    have cI := Lib.hid (fun (u : World) (hb : Below w2.heap.size w2 u) => spec_rows17 (p := cP st l kb ks) (b := cB st l kb ks) (q := cQ st l kb ks) (gc := gc) (c := cT) HL.out.len ((HL.out.up hb).recs) hgz hNT (HT2.out.up hb) hzT)
    clear hoL hpL hsL
    have HRP := Lib.hid (rowsIn_perm (B := T) HPL.out)
    rcases hr : rowsInB L T
    · have e0 := Lib.hid (show false = ok17 st l kb ks T by rw [HO17.out, ← HRP.out, hr, Bool.false_and, Bool.and_false])
      have HR := Lib.hid hr
      clear hr
      rw [hdec]
      have CD : Below w2.heap.size w2 w2.drew := (Below.refl _ _).drew
      refine wp_region_held_drew (S := fun u => u.cell? ⟨w1.heap.size, 0, none⟩ = some (.string (cP st l kb ks)) ∧ u.cell? ⟨w1.heap.size, 1, none⟩ = some (.string (cB st l kb ks)) ∧ u.cell? ⟨w1.heap.size, 2, none⟩ = some (.string (cQ st l kb ks)) ∧ u.cell? ⟨w1.heap.size, 3, none⟩ = some (.slice G gn gc)) (by kernel_rfl) (carry.out _ (Below.refl _ _).drew) (fun hHeld => ?_)
      refine wpAnyH_take (i := 0) (oi := { dst := some 16, op := _, type := _, pos := _, after := _, guard := _ }) (v := ?_) rfl (by kernel_rfl) (by kernel_rfl) (by kernel_rfl) (fun _ _ _ h => h) (Or.inl ⟨by rfl, ?_⟩) (by assumption) ?_
      rotate_left
      · (intro w hSw; (try dsimp only at hSw); go_simp) <;> with_reducible rfl
      try simp only [Act.put, List.setIfInBounds_toArray, List.set_cons_zero, List.set_cons_succ]
      refine wpAnyH_take (i := 1) (oi := { dst := some 17, op := _, type := _, pos := _, after := _, guard := _ }) (v := ?_) rfl (by kernel_rfl) (by kernel_rfl) (by kernel_rfl) (fun _ _ _ h => h) (Or.inl ⟨by rfl, ?_⟩) (by assumption) ?_
      rotate_left
      · (intro w hSw; (try dsimp only at hSw); go_simp) <;> with_reducible rfl
      try simp only [Act.put, List.setIfInBounds_toArray, List.set_cons_zero, List.set_cons_succ]
      refine wpAnyH_take (i := 2) (oi := { dst := some 18, op := _, type := _, pos := _, after := _, guard := _ }) (v := ?_) rfl (by kernel_rfl) (by kernel_rfl) (by kernel_rfl) (fun _ _ _ h => h) (Or.inl ⟨by rfl, ?_⟩) (by assumption) ?_
      rotate_left
      · (intro w hSw; (try dsimp only at hSw); go_simp) <;> with_reducible rfl
      try simp only [Act.put, List.setIfInBounds_toArray, List.set_cons_zero, List.set_cons_succ]
      refine wpAnyH_take (i := 3) (oi := { dst := some 19, op := _, type := _, pos := _, after := _, guard := _ }) (v := ?_) rfl (by kernel_rfl) (by kernel_rfl) (by kernel_rfl) (fun _ _ _ h => h) (Or.inl ⟨by rfl, ?_⟩) (by assumption) ?_
      rotate_left
      · (intro w hSw; (try dsimp only at hSw); go_simp) <;> with_reducible rfl
      try simp only [Act.put, List.setIfInBounds_toArray, List.set_cons_zero, List.set_cons_succ]
      refine wpAnyH_take (i := 4) (oi := { dst := some 20, op := _, type := _, pos := _, after := _, guard := _ }) (v := ?_) rfl (by kernel_rfl) (by kernel_rfl) (by kernel_rfl) (fun _ _ _ h => h) (Or.inl ⟨by rfl, ?_⟩) (by assumption) ?_
      rotate_left
      · (intro w hSw; (try dsimp only at hSw); go_simp) <;> with_reducible rfl
      try simp only [Act.put, List.setIfInBounds_toArray, List.set_cons_zero, List.set_cons_succ]
      refine wpAnyH_ready (rs := [5]) (by kernel_rfl) (by simp) ?_
      refine AllReadyH.cons (o := _) rfl (fun K hK => ?_) AllReadyH.nil
      go_simp
      refine (cI.out _ CD).mono ?_; rw [HR.out]; rintro e w3 ⟨rfl, hbd3⟩
      have C1 := CD.trans (hbd3.mono CD.size)
      try go_wp2_with fail
      refine hK.out _ _ (carry.out _ C1) (fun hHeld => ?_)
      clear hK K
      try simp only [Act.put, List.setIfInBounds_toArray, List.set_cons_zero, List.set_cons_succ]
      refine wpAnyH_take (i := 6) (oi := { dst := some 22, op := _, type := _, pos := _, after := _, guard := _ }) (v := ?_) rfl (by kernel_rfl) (by kernel_rfl) (by kernel_rfl) (fun _ _ _ h => h) (Or.inl ⟨by rfl, ?_⟩) (by assumption) ?_
      rotate_left
      · (intro w hSw; (try dsimp only at hSw); go_simp) <;> with_reducible rfl
      try simp only [Act.put, List.setIfInBounds_toArray, List.set_cons_zero, List.set_cons_succ]
      refine wpAnyH_take (i := 7) (oi := { dst := some 23, op := _, type := _, pos := _, after := _, guard := _ }) (v := ?_) rfl (by kernel_rfl) (by kernel_rfl) (by kernel_rfl) (fun _ _ _ h => h) (Or.inl ⟨by rfl, ?_⟩) (by assumption) ?_
      rotate_left
      · (intro w hSw; (try dsimp only at hSw); go_simp) <;> with_reducible rfl
      try simp only [Act.put, List.setIfInBounds_toArray, List.set_cons_zero, List.set_cons_succ]
      refine wpAnyH_take (i := 8) (oi := { dst := some 24, op := _, type := _, pos := _, after := _, guard := _ }) (v := undef) rfl (by kernel_rfl) (by kernel_rfl) (by kernel_rfl) (fun _ _ _ h => h) (Or.inr ⟨by rfl, rfl⟩) (by assumption) ?_
      try simp only [Act.put, List.setIfInBounds_toArray, List.set_cons_zero, List.set_cons_succ]
      refine wpAnyH_take (i := 9) (oi := { dst := some 25, op := _, type := _, pos := _, after := _, guard := _ }) (v := undef) rfl (by kernel_rfl) (by kernel_rfl) (by kernel_rfl) (fun _ _ _ h => h) (Or.inr ⟨by rfl, rfl⟩) (by assumption) ?_
      try simp only [Act.put, List.setIfInBounds_toArray, List.set_cons_zero, List.set_cons_succ]
      refine wpAnyH_ready (rs := [10]) (by kernel_rfl) (by simp) ?_
      refine AllReadyH.cons (o := _) rfl (fun K hK => ?_) AllReadyH.nil
      go_simp
      refine hK.out _ _ (carry.out _ C1) (fun hHeld => ?_)
      clear hK K
      try simp only [Act.put, List.setIfInBounds_toArray, List.set_cons_zero, List.set_cons_succ]
      refine wpAnyH_take (i := 11) (oi := { dst := some 27, op := _, type := _, pos := _, after := _, guard := _ }) (v := ?_) rfl (by kernel_rfl) (by kernel_rfl) (by kernel_rfl) (fun _ _ _ h => h) (Or.inl ⟨by rfl, ?_⟩) (by assumption) ?_
      rotate_left
      · (intro w hSw; (try dsimp only at hSw); go_simp) <;> with_reducible rfl
      try simp only [Act.put, List.setIfInBounds_toArray, List.set_cons_zero, List.set_cons_succ]
      have KZ := HN.out.up C1
      have z0 := KZ.cell 0; have z1 := KZ.cell 1; have z2 := KZ.cell 2; have z3 := KZ.cell 3
      simp only [List.getElem?_cons_zero, List.getElem?_cons_succ] at z0 z1 z2 z3
      have f0 := KZ.frozen 0; have f1 := KZ.frozen 1; have f2 := KZ.frozen 2; have f3 := KZ.frozen 3
      refine wpAnyH_ready (rs := [12]) (by kernel_rfl) (by simp) ?_
      refine AllReadyH.cons (o := _) rfl (fun K hK => ?_) AllReadyH.nil
      go_simp
      refine hK.out _ _ (carryS.out _ _ _ _ _ C1) (fun hHeld => ?_)
      clear hK K
      try simp only [Act.put, List.setIfInBounds_toArray, List.set_cons_zero, List.set_cons_succ]
      refine wpAnyH_take (i := 13) (oi := { dst := some 7, op := _, type := _, pos := _, after := _, guard := _ }) (v := ?_) rfl (by kernel_rfl) (by kernel_rfl) (by kernel_rfl) (fun _ _ _ h => h) (Or.inl ⟨by rfl, ?_⟩) (by assumption) ?_
      rotate_left
      · (intro w hSw; (try dsimp only at hSw); go_simp) <;> with_reducible rfl
      try simp only [Act.put, List.setIfInBounds_toArray, List.set_cons_zero, List.set_cons_succ]
      refine wpAnyH_done (by kernel_rfl) ?_ _
      try simp only [Act.put, List.setIfInBounds_toArray, List.set_cons_zero, List.set_cons_succ]
      go_wp2
      have Z := (((KZ.set_ 0 (.string (cP st l kb ks))).set_ 1 (.string (cB st l kb ks))).set_ 2 (.string (cQ st l kb ks))).set_ 3 (.slice G gn gc)
      have y0 := Z.cell 0; have y1 := Z.cell 1; have y2 := Z.cell 2; have y3 := Z.cell 3
      simp only [List.set_cons_zero, List.set_cons_succ, List.getElem?_cons_zero, List.getElem?_cons_succ] at y0 y1 y2 y3
      refine bodyPost_ret (v := .tuple #[.agg #[.string (cP st l kb ks), .string (cB st l kb ks), .string (cQ st l kb ks), .slice G gn gc], .bool (false)]) (by simp [results, Tryz.results14, go_sem, y0, y1, y2, y3]) rfl ?_
      exact fin.out _ _ C1 e0.out KZ
    · have HIT := Lib.hid (rowsIn_t hr)
      have HTR := Lib.hid (fun s hs => HGR.out s (HPL.out.mem_iff.1 (HIT.out.1 s hs)))
      have cA := Lib.hid (fun (u : World) (hb : Below w2.heap.size w2 u) => spec_good17 (p := cP st l kb ks) (b := cB st l kb ks) (G := G) (gn := gn) (gc := gc) (c := cT) HQ.out hNT (HT2.out.up hb) hzT HTR.out)
      have e0 := Lib.hid (show closedB (cQ st l kb ks) T = ok17 st l kb ks T by rw [HO17.out, ← HRP.out, hr, hdec, Bool.true_and, Bool.true_and])
      have HR := Lib.hid hr
      clear hr
      rw [hdec]
      have CD : Below w2.heap.size w2 w2.drew := (Below.refl _ _).drew
      refine wp_region_held_drew (S := fun u => u.cell? ⟨w1.heap.size, 0, none⟩ = some (.string (cP st l kb ks)) ∧ u.cell? ⟨w1.heap.size, 1, none⟩ = some (.string (cB st l kb ks)) ∧ u.cell? ⟨w1.heap.size, 2, none⟩ = some (.string (cQ st l kb ks)) ∧ u.cell? ⟨w1.heap.size, 3, none⟩ = some (.slice G gn gc)) (by kernel_rfl) (carry.out _ (Below.refl _ _).drew) (fun hHeld => ?_)
      refine wpAnyH_take (i := 0) (oi := { dst := some 16, op := _, type := _, pos := _, after := _, guard := _ }) (v := ?_) rfl (by kernel_rfl) (by kernel_rfl) (by kernel_rfl) (fun _ _ _ h => h) (Or.inl ⟨by rfl, ?_⟩) (by assumption) ?_
      rotate_left
      · (intro w hSw; (try dsimp only at hSw); go_simp) <;> with_reducible rfl
      try simp only [Act.put, List.setIfInBounds_toArray, List.set_cons_zero, List.set_cons_succ]
      refine wpAnyH_take (i := 1) (oi := { dst := some 17, op := _, type := _, pos := _, after := _, guard := _ }) (v := ?_) rfl (by kernel_rfl) (by kernel_rfl) (by kernel_rfl) (fun _ _ _ h => h) (Or.inl ⟨by rfl, ?_⟩) (by assumption) ?_
      rotate_left
      · (intro w hSw; (try dsimp only at hSw); go_simp) <;> with_reducible rfl
      try simp only [Act.put, List.setIfInBounds_toArray, List.set_cons_zero, List.set_cons_succ]
      refine wpAnyH_take (i := 2) (oi := { dst := some 18, op := _, type := _, pos := _, after := _, guard := _ }) (v := ?_) rfl (by kernel_rfl) (by kernel_rfl) (by kernel_rfl) (fun _ _ _ h => h) (Or.inl ⟨by rfl, ?_⟩) (by assumption) ?_
      rotate_left
      · (intro w hSw; (try dsimp only at hSw); go_simp) <;> with_reducible rfl
      try simp only [Act.put, List.setIfInBounds_toArray, List.set_cons_zero, List.set_cons_succ]
      refine wpAnyH_take (i := 3) (oi := { dst := some 19, op := _, type := _, pos := _, after := _, guard := _ }) (v := ?_) rfl (by kernel_rfl) (by kernel_rfl) (by kernel_rfl) (fun _ _ _ h => h) (Or.inl ⟨by rfl, ?_⟩) (by assumption) ?_
      rotate_left
      · (intro w hSw; (try dsimp only at hSw); go_simp) <;> with_reducible rfl
      try simp only [Act.put, List.setIfInBounds_toArray, List.set_cons_zero, List.set_cons_succ]
      refine wpAnyH_take (i := 4) (oi := { dst := some 20, op := _, type := _, pos := _, after := _, guard := _ }) (v := ?_) rfl (by kernel_rfl) (by kernel_rfl) (by kernel_rfl) (fun _ _ _ h => h) (Or.inl ⟨by rfl, ?_⟩) (by assumption) ?_
      rotate_left
      · (intro w hSw; (try dsimp only at hSw); go_simp) <;> with_reducible rfl
      try simp only [Act.put, List.setIfInBounds_toArray, List.set_cons_zero, List.set_cons_succ]
      refine wpAnyH_ready (rs := [5]) (by kernel_rfl) (by simp) ?_
      refine AllReadyH.cons (o := _) rfl (fun K hK => ?_) AllReadyH.nil
      go_simp
      refine (cI.out _ CD).mono ?_; rw [HR.out]; rintro e w3 ⟨rfl, hbd3⟩
      have C1 := CD.trans (hbd3.mono CD.size)
      try go_wp2_with fail
      refine hK.out _ _ (carry.out _ C1) (fun hHeld => ?_)
      clear hK K
      try simp only [Act.put, List.setIfInBounds_toArray, List.set_cons_zero, List.set_cons_succ]
      refine wpAnyH_take (i := 6) (oi := { dst := some 22, op := _, type := _, pos := _, after := _, guard := _ }) (v := ?_) rfl (by kernel_rfl) (by kernel_rfl) (by kernel_rfl) (fun _ _ _ h => h) (Or.inl ⟨by rfl, ?_⟩) (by assumption) ?_
      rotate_left
      · (intro w hSw; (try dsimp only at hSw); go_simp) <;> with_reducible rfl
      try simp only [Act.put, List.setIfInBounds_toArray, List.set_cons_zero, List.set_cons_succ]
      refine wpAnyH_take (i := 7) (oi := { dst := some 23, op := _, type := _, pos := _, after := _, guard := _ }) (v := ?_) rfl (by kernel_rfl) (by kernel_rfl) (by kernel_rfl) (fun _ _ _ h => h) (Or.inl ⟨by rfl, ?_⟩) (by assumption) ?_
      rotate_left
      · (intro w hSw; (try dsimp only at hSw); go_simp) <;> with_reducible rfl
      try simp only [Act.put, List.setIfInBounds_toArray, List.set_cons_zero, List.set_cons_succ]
      refine wpAnyH_take (i := 8) (oi := { dst := some 24, op := _, type := _, pos := _, after := _, guard := _ }) (v := ?_) rfl (by kernel_rfl) (by kernel_rfl) (by kernel_rfl) (fun _ _ _ h => h) (Or.inl ⟨by rfl, ?_⟩) (by assumption) ?_
      rotate_left
      · (intro w hSw; (try dsimp only at hSw); go_simp) <;> with_reducible rfl
      try simp only [Act.put, List.setIfInBounds_toArray, List.set_cons_zero, List.set_cons_succ]
      refine wpAnyH_take (i := 9) (oi := { dst := some 25, op := _, type := _, pos := _, after := _, guard := _ }) (v := ?_) rfl (by kernel_rfl) (by kernel_rfl) (by kernel_rfl) (fun _ _ _ h => h) (Or.inl ⟨by rfl, ?_⟩) (by assumption) ?_
      rotate_left
      · (intro w hSw; (try dsimp only at hSw); go_simp) <;> with_reducible rfl
      try simp only [Act.put, List.setIfInBounds_toArray, List.set_cons_zero, List.set_cons_succ]
      refine wpAnyH_ready (rs := [10]) (by kernel_rfl) (by simp) ?_
      refine AllReadyH.cons (o := _) rfl (fun K hK => ?_) AllReadyH.nil
      go_simp
      refine (cA.out _ C1).mono ?_; rintro e w4 ⟨rfl, hb4⟩
      have C2 := C1.trans (hb4.mono C1.size)
      try go_wp2_with fail
      refine hK.out _ _ (carry.out _ C2) (fun hHeld => ?_)
      clear hK K
      try simp only [Act.put, List.setIfInBounds_toArray, List.set_cons_zero, List.set_cons_succ]
      refine wpAnyH_take (i := 11) (oi := { dst := some 27, op := _, type := _, pos := _, after := _, guard := _ }) (v := ?_) rfl (by kernel_rfl) (by kernel_rfl) (by kernel_rfl) (fun _ _ _ h => h) (Or.inl ⟨by rfl, ?_⟩) (by assumption) ?_
      rotate_left
      · (intro w hSw; (try dsimp only at hSw); go_simp) <;> with_reducible rfl
      try simp only [Act.put, List.setIfInBounds_toArray, List.set_cons_zero, List.set_cons_succ]
      have KZ := HN.out.up C2
      have z0 := KZ.cell 0; have z1 := KZ.cell 1; have z2 := KZ.cell 2; have z3 := KZ.cell 3
      simp only [List.getElem?_cons_zero, List.getElem?_cons_succ] at z0 z1 z2 z3
      have f0 := KZ.frozen 0; have f1 := KZ.frozen 1; have f2 := KZ.frozen 2; have f3 := KZ.frozen 3
      refine wpAnyH_ready (rs := [12]) (by kernel_rfl) (by simp) ?_
      refine AllReadyH.cons (o := _) rfl (fun K hK => ?_) AllReadyH.nil
      go_simp
      refine hK.out _ _ (carryS.out _ _ _ _ _ C2) (fun hHeld => ?_)
      clear hK K
      try simp only [Act.put, List.setIfInBounds_toArray, List.set_cons_zero, List.set_cons_succ]
      refine wpAnyH_take (i := 13) (oi := { dst := some 7, op := _, type := _, pos := _, after := _, guard := _ }) (v := ?_) rfl (by kernel_rfl) (by kernel_rfl) (by kernel_rfl) (fun _ _ _ h => h) (Or.inl ⟨by rfl, ?_⟩) (by assumption) ?_
      rotate_left
      · (intro w hSw; (try dsimp only at hSw); go_simp) <;> with_reducible rfl
      try simp only [Act.put, List.setIfInBounds_toArray, List.set_cons_zero, List.set_cons_succ]
      refine wpAnyH_done (by kernel_rfl) ?_ _
      try simp only [Act.put, List.setIfInBounds_toArray, List.set_cons_zero, List.set_cons_succ]
      go_wp2
      have Z := (((KZ.set_ 0 (.string (cP st l kb ks))).set_ 1 (.string (cB st l kb ks))).set_ 2 (.string (cQ st l kb ks))).set_ 3 (.slice G gn gc)
      have y0 := Z.cell 0; have y1 := Z.cell 1; have y2 := Z.cell 2; have y3 := Z.cell 3
      simp only [List.set_cons_zero, List.set_cons_succ, List.getElem?_cons_zero, List.getElem?_cons_succ] at y0 y1 y2 y3
      refine bodyPost_ret (v := .tuple #[.agg #[.string (cP st l kb ks), .string (cB st l kb ks), .string (cQ st l kb ks), .slice G gn gc], .bool (closedB (cQ st l kb ks) T)]) (by simp [results, Tryz.results14, go_sem, y0, y1, y2, y3]) rfl ?_
      exact fin.out _ _ C2 e0.out KZ
  · have hdec : decide ((gF st l kb ks).length ≤ 130) = false := decide_eq_false hle
    have e0 := Lib.hid (show false = ok17 st l kb ks T by rw [HO17.out, hdec, Bool.false_and])
    rw [hdec]
    have CD : Below w2.heap.size w2 w2.drew := (Below.refl _ _).drew
    refine wp_region_held_drew (S := fun u => u.cell? ⟨w1.heap.size, 0, none⟩ = some (.string (cP st l kb ks)) ∧ u.cell? ⟨w1.heap.size, 1, none⟩ = some (.string (cB st l kb ks)) ∧ u.cell? ⟨w1.heap.size, 2, none⟩ = some (.string (cQ st l kb ks)) ∧ u.cell? ⟨w1.heap.size, 3, none⟩ = some (.slice G gn gc)) (by kernel_rfl) (carry.out _ (Below.refl _ _).drew) (fun hHeld => ?_)
    refine wpAnyH_take (i := 0) (oi := { dst := some 16, op := _, type := _, pos := _, after := _, guard := _ }) (v := ?_) rfl (by kernel_rfl) (by kernel_rfl) (by kernel_rfl) (fun _ _ _ h => h) (Or.inl ⟨by rfl, ?_⟩) (by assumption) ?_
    rotate_left
    · (intro w hSw; (try dsimp only at hSw); go_simp) <;> with_reducible rfl
    try simp only [Act.put, List.setIfInBounds_toArray, List.set_cons_zero, List.set_cons_succ]
    refine wpAnyH_take (i := 1) (oi := { dst := some 17, op := _, type := _, pos := _, after := _, guard := _ }) (v := ?_) rfl (by kernel_rfl) (by kernel_rfl) (by kernel_rfl) (fun _ _ _ h => h) (Or.inl ⟨by rfl, ?_⟩) (by assumption) ?_
    rotate_left
    · (intro w hSw; (try dsimp only at hSw); go_simp) <;> with_reducible rfl
    try simp only [Act.put, List.setIfInBounds_toArray, List.set_cons_zero, List.set_cons_succ]
    refine wpAnyH_take (i := 2) (oi := { dst := some 18, op := _, type := _, pos := _, after := _, guard := _ }) (v := ?_) rfl (by kernel_rfl) (by kernel_rfl) (by kernel_rfl) (fun _ _ _ h => h) (Or.inl ⟨by rfl, ?_⟩) (by assumption) ?_
    rotate_left
    · (intro w hSw; (try dsimp only at hSw); go_simp) <;> with_reducible rfl
    try simp only [Act.put, List.setIfInBounds_toArray, List.set_cons_zero, List.set_cons_succ]
    generalize w2.drew = wd at CD hHeld ⊢
    refine wpAnyH_take (i := 3) (oi := { dst := some 19, op := _, type := _, pos := _, after := _, guard := _ }) (v := undef) rfl (by kernel_rfl) (by kernel_rfl) (by kernel_rfl) (fun _ _ _ h => h) (Or.inr ⟨by rfl, rfl⟩) (by assumption) ?_
    try simp only [Act.put, List.setIfInBounds_toArray, List.set_cons_zero, List.set_cons_succ]
    refine wpAnyH_take (i := 4) (oi := { dst := some 20, op := _, type := _, pos := _, after := _, guard := _ }) (v := undef) rfl (by kernel_rfl) (by kernel_rfl) (by kernel_rfl) (fun _ _ _ h => h) (Or.inr ⟨by rfl, rfl⟩) (by assumption) ?_
    try simp only [Act.put, List.setIfInBounds_toArray, List.set_cons_zero, List.set_cons_succ]
    refine wpAnyH_ready (rs := [5]) (by kernel_rfl) (by simp) ?_
    refine AllReadyH.cons (o := _) rfl (fun K hK => ?_) AllReadyH.nil
    go_simp
    refine hK.out _ _ (carry.out _ CD) (fun hHeld => ?_)
    clear hK K
    try simp only [Act.put, List.setIfInBounds_toArray, List.set_cons_zero, List.set_cons_succ]
    refine wpAnyH_take (i := 6) (oi := { dst := some 22, op := _, type := _, pos := _, after := _, guard := _ }) (v := ?_) rfl (by kernel_rfl) (by kernel_rfl) (by kernel_rfl) (fun _ _ _ h => h) (Or.inl ⟨by rfl, ?_⟩) (by assumption) ?_
    rotate_left
    · (intro w hSw; (try dsimp only at hSw); go_simp) <;> with_reducible rfl
    try simp only [Act.put, List.setIfInBounds_toArray, List.set_cons_zero, List.set_cons_succ]
    refine wpAnyH_take (i := 7) (oi := { dst := some 23, op := _, type := _, pos := _, after := _, guard := _ }) (v := ?_) rfl (by kernel_rfl) (by kernel_rfl) (by kernel_rfl) (fun _ _ _ h => h) (Or.inl ⟨by rfl, ?_⟩) (by assumption) ?_
    rotate_left
    · (intro w hSw; (try dsimp only at hSw); go_simp) <;> with_reducible rfl
    try simp only [Act.put, List.setIfInBounds_toArray, List.set_cons_zero, List.set_cons_succ]
    refine wpAnyH_take (i := 8) (oi := { dst := some 24, op := _, type := _, pos := _, after := _, guard := _ }) (v := undef) rfl (by kernel_rfl) (by kernel_rfl) (by kernel_rfl) (fun _ _ _ h => h) (Or.inr ⟨by rfl, rfl⟩) (by assumption) ?_
    try simp only [Act.put, List.setIfInBounds_toArray, List.set_cons_zero, List.set_cons_succ]
    refine wpAnyH_take (i := 9) (oi := { dst := some 25, op := _, type := _, pos := _, after := _, guard := _ }) (v := undef) rfl (by kernel_rfl) (by kernel_rfl) (by kernel_rfl) (fun _ _ _ h => h) (Or.inr ⟨by rfl, rfl⟩) (by assumption) ?_
    try simp only [Act.put, List.setIfInBounds_toArray, List.set_cons_zero, List.set_cons_succ]
    refine wpAnyH_ready (rs := [10]) (by kernel_rfl) (by simp) ?_
    refine AllReadyH.cons (o := _) rfl (fun K hK => ?_) AllReadyH.nil
    go_simp
    refine hK.out _ _ (carry.out _ CD) (fun hHeld => ?_)
    clear hK K
    try simp only [Act.put, List.setIfInBounds_toArray, List.set_cons_zero, List.set_cons_succ]
    refine wpAnyH_take (i := 11) (oi := { dst := some 27, op := _, type := _, pos := _, after := _, guard := _ }) (v := ?_) rfl (by kernel_rfl) (by kernel_rfl) (by kernel_rfl) (fun _ _ _ h => h) (Or.inl ⟨by rfl, ?_⟩) (by assumption) ?_
    rotate_left
    · (intro w hSw; (try dsimp only at hSw); go_simp) <;> with_reducible rfl
    try simp only [Act.put, List.setIfInBounds_toArray, List.set_cons_zero, List.set_cons_succ]
    have KZ := HN.out.up CD
    have z0 := KZ.cell 0; have z1 := KZ.cell 1; have z2 := KZ.cell 2; have z3 := KZ.cell 3
    simp only [List.getElem?_cons_zero, List.getElem?_cons_succ] at z0 z1 z2 z3
    have f0 := KZ.frozen 0; have f1 := KZ.frozen 1; have f2 := KZ.frozen 2; have f3 := KZ.frozen 3
    refine wpAnyH_ready (rs := [12]) (by kernel_rfl) (by simp) ?_
    refine AllReadyH.cons (o := _) rfl (fun K hK => ?_) AllReadyH.nil
    go_simp
    refine hK.out _ _ (carryS.out _ _ _ _ _ CD) (fun hHeld => ?_)
    clear hK K
    try simp only [Act.put, List.setIfInBounds_toArray, List.set_cons_zero, List.set_cons_succ]
    refine wpAnyH_take (i := 13) (oi := { dst := some 7, op := _, type := _, pos := _, after := _, guard := _ }) (v := ?_) rfl (by kernel_rfl) (by kernel_rfl) (by kernel_rfl) (fun _ _ _ h => h) (Or.inl ⟨by rfl, ?_⟩) (by assumption) ?_
    rotate_left
    · (intro w hSw; (try dsimp only at hSw); go_simp) <;> with_reducible rfl
    try simp only [Act.put, List.setIfInBounds_toArray, List.set_cons_zero, List.set_cons_succ]
    refine wpAnyH_done (by kernel_rfl) ?_ _
    try simp only [Act.put, List.setIfInBounds_toArray, List.set_cons_zero, List.set_cons_succ]
    go_wp2
    have Z := (((KZ.set_ 0 (.string (cP st l kb ks))).set_ 1 (.string (cB st l kb ks))).set_ 2 (.string (cQ st l kb ks))).set_ 3 (.slice G gn gc)
    have y0 := Z.cell 0; have y1 := Z.cell 1; have y2 := Z.cell 2; have y3 := Z.cell 3
    simp only [List.set_cons_zero, List.set_cons_succ, List.getElem?_cons_zero, List.getElem?_cons_succ] at y0 y1 y2 y3
    refine bodyPost_ret (v := .tuple #[.agg #[.string (cP st l kb ks), .string (cB st l kb ks), .string (cQ st l kb ks), .slice G gn gc], .bool (false)]) (by simp [results, Tryz.results14, go_sem, y0, y1, y2, y3]) rfl ?_
    exact fin.out _ _ CD e0.out KZ
set_option maxHeartbeats 2000000 in
set_option maxRecDepth 100000 in
theorem spec_l17Bobs_no {A : Option Addr} {n c : Nat} {nm : ByteArray} {st : Int} {l : List ByteArray} {kb ks : ByteArray} {T : List ByteArray} {AT : Option Addr} {NT cT : Nat} {w : World} (hn : l.length = n) (h : Strs w A l) (hz : n ≤ 1048576) (hs : ∀ s ∈ l, s.size ≤ 16777216) (hnm : nm.size ≤ 16777216) (hst : I64 st) (hkb : kb.size ≤ 16777216) (hks : ks.size ≤ 16777216) (hk : goodK nm st l kb ks = false) :
    Calls Tryz.prog 14 #[.agg #[.string nm, .int .i64 st, .slice A n c], .agg #[.string kb, .string ks], .slice AT NT cT] w fun e w' => e = .returned (.tuple #[.agg #[.string { data := #[] }, .string { data := #[] }, .string { data := #[] }, .slice none 0 0], .bool false]) ∧ Below w.heap.size w w' := by
  have b0 : Below w.heap.size w (((w.alloc (.cells ⟨[.string nm, .int .i64 st, .slice A n c]⟩ 32)).alloc (.cells ⟨[.string kb, .string ks]⟩ 34)).alloc (.cells ⟨noE⟩ 41)) := by (repeat' (first | (with_reducible exact Below.refl _ _) | (with_reducible assumption) | (with_reducible refine below_drewN ?_ _) | (with_reducible refine Below.drew ?_) | (with_reducible refine below_alloc ?_ _) | (with_reducible refine Below.alloc ?_ ?_ _) | (with_reducible refine Below.setCell ?_ ?_ _) | (with_reducible refine below_go ?_ (by with_reducible assumption)) | (with_reducible refine below_then (by with_reducible assumption) ?_ ?_) | go_size))
  have K2 := Blk.at_ ((w.alloc (.cells ⟨[.string nm, .int .i64 st, .slice A n c]⟩ 32)).alloc (.cells ⟨[.string kb, .string ks]⟩ 34)) 41 noE (b := w.heap.size + 1 + 1) (by simp)
  go_in
  go_wp2_with fail
  obtain ⟨w0, hw0⟩ : ∃ u, u = (((w.alloc (.cells #[.string nm, .int .i64 st, .slice A n c] 32)).alloc (.cells #[.string kb, .string ks] 34)).alloc (.cells #[.string { data := #[] }, .string { data := #[] }, .string { data := #[] }, .slice none 0 0] 41)) := ⟨_, rfl⟩
  rw [← hw0] at b0 K2 ⊢
  clear hw0
  refine (spec_l17Of_no hn (h.up b0) hz hs hnm hst hkb hks hk).mono ?_; rintro e w1 ⟨rfl, hb1⟩
  have hB1 := below_go b0 hb1
  have hb2 : Below w1.heap.size w1 (w1.alloc (.cells ⟨noE⟩ 41)) := by (repeat' (first | (with_reducible exact Below.refl _ _) | (with_reducible assumption) | (with_reducible refine below_drewN ?_ _) | (with_reducible refine Below.drew ?_) | (with_reducible refine below_alloc ?_ _) | (with_reducible refine Below.alloc ?_ ?_ _) | (with_reducible refine Below.setCell ?_ ?_ _) | (with_reducible refine below_go ?_ (by with_reducible assumption)) | (with_reducible refine below_then (by with_reducible assumption) ?_ ?_) | go_size))
  have KX := Blk.at_ w1 41 noE (b := w1.heap.size) rfl
  have M2 := K2.up hb1
  clear K2
  go_wp2_with fail
  obtain ⟨w2, hw2⟩ : ∃ u, u = (w1.alloc (.cells #[.string { data := #[] }, .string { data := #[] }, .string { data := #[] }, .slice none 0 0] 41)) := ⟨_, rfl⟩
  have N2 := M2.up hb2
  have sz2 : w1.heap.size < w2.heap.size := by rw [hw2]; simp
  rw [← hw2] at hb2 KX N2 ⊢
  clear hw2
  have hp2 : w.heap.size + 1 + 1 < w1.heap.size := by have := M2.lt; exact this
  have hB2 := below_go hB1 hb2
  have carry : Hid (∀ u : World, Below w2.heap.size w2 u → u.cell? ⟨w1.heap.size, 0, none⟩ = some (.string { data := #[] }) ∧ u.cell? ⟨w1.heap.size, 1, none⟩ = some (.string { data := #[] }) ∧ u.cell? ⟨w1.heap.size, 2, none⟩ = some (.string { data := #[] }) ∧ u.cell? ⟨w1.heap.size, 3, none⟩ = some (.slice none 0 0)) := Lib.hid (fun u hu => by
    have L0 := KX.up hu
    exact ⟨by simpa using L0.cell 0, by simpa using L0.cell 1, by simpa using L0.cell 2, by simpa using L0.cell 3⟩)
  have oth : Hid (∀ (v : World) (i j : Nat) (x : Value), (v.setCell ⟨w.heap.size + 1 + 1, i, none⟩ x).cell? ⟨w1.heap.size, j, none⟩ = v.cell? ⟨w1.heap.size, j, none⟩) := Lib.hid (fun v i j x => World.cell?_setCell_other _ _ _ _ (by intro e; injection e with e; omega))
  have HN := Lib.hid N2
  have CD : Below w2.heap.size w2 w2.drew := (Below.refl _ _).drew
  refine wp_region_held_drew (S := fun u => u.cell? ⟨w1.heap.size, 0, none⟩ = some (.string { data := #[] }) ∧ u.cell? ⟨w1.heap.size, 1, none⟩ = some (.string { data := #[] }) ∧ u.cell? ⟨w1.heap.size, 2, none⟩ = some (.string { data := #[] }) ∧ u.cell? ⟨w1.heap.size, 3, none⟩ = some (.slice none 0 0)) (by kernel_rfl) (carry.out _ (Below.refl _ _).drew) (fun hHeld => ?_)
  refine wpAnyH_take (i := 0) (oi := { dst := some 16, op := _, type := _, pos := _, after := _, guard := _ }) (v := ?_) rfl (by kernel_rfl) (by kernel_rfl) (by kernel_rfl) (fun _ _ _ h => h) (Or.inl ⟨by rfl, ?_⟩) (by assumption) ?_
  rotate_left
  · (intro w hSw; (try dsimp only at hSw); go_simp) <;> with_reducible rfl
  try simp only [Act.put, List.setIfInBounds_toArray, List.set_cons_zero, List.set_cons_succ]
  refine wpAnyH_take (i := 1) (oi := { dst := some 17, op := _, type := _, pos := _, after := _, guard := _ }) (v := ?_) rfl (by kernel_rfl) (by kernel_rfl) (by kernel_rfl) (fun _ _ _ h => h) (Or.inl ⟨by rfl, ?_⟩) (by assumption) ?_
  rotate_left
  · (intro w hSw; (try dsimp only at hSw); go_simp) <;> with_reducible rfl
  try simp only [Act.put, List.setIfInBounds_toArray, List.set_cons_zero, List.set_cons_succ]
  refine wpAnyH_take (i := 2) (oi := { dst := some 18, op := _, type := _, pos := _, after := _, guard := _ }) (v := ?_) rfl (by kernel_rfl) (by kernel_rfl) (by kernel_rfl) (fun _ _ _ h => h) (Or.inl ⟨by rfl, ?_⟩) (by assumption) ?_
  rotate_left
  · (intro w hSw; (try dsimp only at hSw); go_simp) <;> with_reducible rfl
  try simp only [Act.put, List.setIfInBounds_toArray, List.set_cons_zero, List.set_cons_succ]
  generalize w2.drew = wd at CD hHeld ⊢
  refine wpAnyH_take (i := 3) (oi := { dst := some 19, op := _, type := _, pos := _, after := _, guard := _ }) (v := undef) rfl (by kernel_rfl) (by kernel_rfl) (by kernel_rfl) (fun _ _ _ h => h) (Or.inr ⟨by rfl, rfl⟩) (by assumption) ?_
  try simp only [Act.put, List.setIfInBounds_toArray, List.set_cons_zero, List.set_cons_succ]
  refine wpAnyH_take (i := 4) (oi := { dst := some 20, op := _, type := _, pos := _, after := _, guard := _ }) (v := undef) rfl (by kernel_rfl) (by kernel_rfl) (by kernel_rfl) (fun _ _ _ h => h) (Or.inr ⟨by rfl, rfl⟩) (by assumption) ?_
  try simp only [Act.put, List.setIfInBounds_toArray, List.set_cons_zero, List.set_cons_succ]
  refine wpAnyH_ready (rs := [5]) (by kernel_rfl) (by simp) ?_
  refine AllReadyH.cons (o := _) rfl (fun K hK => ?_) AllReadyH.nil
  go_simp
  refine hK.out _ _ (carry.out _ CD) (fun hHeld => ?_)
  clear hK K
  try simp only [Act.put, List.setIfInBounds_toArray, List.set_cons_zero, List.set_cons_succ]
  refine wpAnyH_take (i := 6) (oi := { dst := some 22, op := _, type := _, pos := _, after := _, guard := _ }) (v := ?_) rfl (by kernel_rfl) (by kernel_rfl) (by kernel_rfl) (fun _ _ _ h => h) (Or.inl ⟨by rfl, ?_⟩) (by assumption) ?_
  rotate_left
  · (intro w hSw; (try dsimp only at hSw); go_simp) <;> with_reducible rfl
  try simp only [Act.put, List.setIfInBounds_toArray, List.set_cons_zero, List.set_cons_succ]
  refine wpAnyH_take (i := 7) (oi := { dst := some 23, op := _, type := _, pos := _, after := _, guard := _ }) (v := ?_) rfl (by kernel_rfl) (by kernel_rfl) (by kernel_rfl) (fun _ _ _ h => h) (Or.inl ⟨by rfl, ?_⟩) (by assumption) ?_
  rotate_left
  · (intro w hSw; (try dsimp only at hSw); go_simp) <;> with_reducible rfl
  try simp only [Act.put, List.setIfInBounds_toArray, List.set_cons_zero, List.set_cons_succ]
  refine wpAnyH_take (i := 8) (oi := { dst := some 24, op := _, type := _, pos := _, after := _, guard := _ }) (v := undef) rfl (by kernel_rfl) (by kernel_rfl) (by kernel_rfl) (fun _ _ _ h => h) (Or.inr ⟨by rfl, rfl⟩) (by assumption) ?_
  try simp only [Act.put, List.setIfInBounds_toArray, List.set_cons_zero, List.set_cons_succ]
  refine wpAnyH_take (i := 9) (oi := { dst := some 25, op := _, type := _, pos := _, after := _, guard := _ }) (v := undef) rfl (by kernel_rfl) (by kernel_rfl) (by kernel_rfl) (fun _ _ _ h => h) (Or.inr ⟨by rfl, rfl⟩) (by assumption) ?_
  try simp only [Act.put, List.setIfInBounds_toArray, List.set_cons_zero, List.set_cons_succ]
  refine wpAnyH_ready (rs := [10]) (by kernel_rfl) (by simp) ?_
  refine AllReadyH.cons (o := _) rfl (fun K hK => ?_) AllReadyH.nil
  go_simp
  refine hK.out _ _ (carry.out _ CD) (fun hHeld => ?_)
  clear hK K
  try simp only [Act.put, List.setIfInBounds_toArray, List.set_cons_zero, List.set_cons_succ]
  refine wpAnyH_take (i := 11) (oi := { dst := some 27, op := _, type := _, pos := _, after := _, guard := _ }) (v := ?_) rfl (by kernel_rfl) (by kernel_rfl) (by kernel_rfl) (fun _ _ _ h => h) (Or.inl ⟨by rfl, ?_⟩) (by assumption) ?_
  rotate_left
  · (intro w hSw; (try dsimp only at hSw); go_simp) <;> with_reducible rfl
  try simp only [Act.put, List.setIfInBounds_toArray, List.set_cons_zero, List.set_cons_succ]
  have KZ := HN.out.up CD
  have z0 := KZ.cell 0; have z1 := KZ.cell 1; have z2 := KZ.cell 2; have z3 := KZ.cell 3
  simp only [List.getElem?_cons_zero, List.getElem?_cons_succ] at z0 z1 z2 z3
  have f0 := KZ.frozen 0; have f1 := KZ.frozen 1; have f2 := KZ.frozen 2; have f3 := KZ.frozen 3
  refine wpAnyH_ready (rs := [12]) (by kernel_rfl) (by simp) ?_
  refine AllReadyH.cons (o := _) rfl (fun K hK => ?_) AllReadyH.nil
  go_simp
  refine hK.out _ _ (by simp only [oth.out]; exact carry.out _ CD) (fun hHeld => ?_)
  clear hK K
  try simp only [Act.put, List.setIfInBounds_toArray, List.set_cons_zero, List.set_cons_succ]
  refine wpAnyH_take (i := 13) (oi := { dst := some 7, op := _, type := _, pos := _, after := _, guard := _ }) (v := ?_) rfl (by kernel_rfl) (by kernel_rfl) (by kernel_rfl) (fun _ _ _ h => h) (Or.inl ⟨by rfl, ?_⟩) (by assumption) ?_
  rotate_left
  · (intro w hSw; (try dsimp only at hSw); go_simp) <;> with_reducible rfl
  try simp only [Act.put, List.setIfInBounds_toArray, List.set_cons_zero, List.set_cons_succ]
  refine wpAnyH_done (by kernel_rfl) ?_ _
  try simp only [Act.put, List.setIfInBounds_toArray, List.set_cons_zero, List.set_cons_succ]
  go_wp2
  have Z := (((KZ.set_ 0 (.string { data := #[] })).set_ 1 (.string { data := #[] })).set_ 2 (.string { data := #[] })).set_ 3 (.slice none 0 0)
  have y0 := Z.cell 0; have y1 := Z.cell 1; have y2 := Z.cell 2; have y3 := Z.cell 3
  simp only [List.set_cons_zero, List.set_cons_succ, List.getElem?_cons_zero, List.getElem?_cons_succ] at y0 y1 y2 y3
  refine bodyPost_ret (v := .tuple #[.agg #[.string { data := #[] }, .string { data := #[] }, .string { data := #[] }, .slice none 0 0], .bool (false)]) (by simp [results, Tryz.results14, go_sem, y0, y1, y2, y3]) rfl ?_
  have hBD := below_go hB2 CD
  exact ⟨rfl, by (repeat' (first | (with_reducible exact Below.refl _ _) | (with_reducible assumption) | (with_reducible refine below_drewN ?_ _) | (with_reducible refine Below.drew ?_) | (with_reducible refine below_alloc ?_ _) | (with_reducible refine Below.alloc ?_ ?_ _) | (with_reducible refine Below.setCell ?_ ?_ _) | (with_reducible refine below_go ?_ (by with_reducible assumption)) | (with_reducible refine below_then (by with_reducible assumption) ?_ ?_) | go_size))⟩
end Go.Proofs.YtmdmnjjlpefigaaGreat
/- The walks of chapter 17: the touch along a ring, both sides. -/
namespace Go.Proofs.YtmdmnjjlpefigaaGreat
set_option linter.unusedVariables false
set_option linter.unusedSimpArgs false
open Go.ChangeShapes Go.WideShapes Go.ChangeAt Go.RowKit Go.Deep
noncomputable def rgM (p b : ByteArray) (B : List ByteArray) (h : ByteArray) : Nat := by
  classical exact if hx : ∃ m, RingM p b B h m then hx.choose else 0
theorem rgM_eq {p b h : ByteArray} {B : List ByteArray} {m : Nat} (hm : RingM p b B h m) : rgM p b B h = m := by
  have he : ∃ m, RingM p b B h m := ⟨m, hm⟩
  rw [rgM, dif_pos he]; exact he.choose_spec.uniq hm
noncomputable def okRT (nm : ByteArray) (st : Int) (l : List ByteArray) (kb ks : ByteArray) (T : List ByteArray) (x : ByteArray) : Bool := okNH nm st l kb ks T x && decide (rgM (cP st.toNat l kb ks) (cB st.toNat l kb ks) T x ≤ 60)
noncomputable def rtR (nm : ByteArray) (st : Int) (l : List ByteArray) (kb ks : ByteArray) (T : List ByteArray) (x : ByteArray) : ByteArray := if okRT nm st l kb ks T x = true then rgS T (ringL (cP st.toNat l kb ks) (cB st.toNat l kb ks) T x (rgM (cP st.toNat l kb ks) (cB st.toNat l kb ks) T x)) (rgM (cP st.toNat l kb ks) (cB st.toNat l kb ks) T x) else { data := #[] }
theorem rtR_f {nm : ByteArray} {st : Int} {l : List ByteArray} {kb ks : ByteArray} {T : List ByteArray} {x : ByteArray} (h : okRT nm st l kb ks T x = false) : rtR nm st l kb ks T x = { data := #[] } := if_neg (by rw [h]; simp)
theorem rtR_t {nm : ByteArray} {st m : Nat} {l : List ByteArray} {kb ks : ByteArray} {T : List ByteArray} {x : ByteArray} (h : okRT nm (st : Int) l kb ks T x = true) (hm : RingM (cP st l kb ks) (cB st l kb ks) T x m) : rtR nm (st : Int) l kb ks T x = rgS T (ringL (cP st l kb ks) (cB st l kb ks) T x m) m := by
  rw [rtR, if_pos h]; show rgS T (ringL (cP st l kb ks) (cB st l kb ks) T x (rgM (cP st l kb ks) (cB st l kb ks) T x)) (rgM (cP st l kb ks) (cB st l kb ks) T x) = _; rw [rgM_eq hm]
theorem rt_size {B L : List ByteArray} {k : Nat} (h : k ≤ L.length) (s : ByteArray) (hs : s = rgS B L k) : s.size = k := by rw [hs]; exact rgS_size h
set_option maxHeartbeats 2000000 in
set_option maxRecDepth 100000 in
theorem impl_RingTouchOf_no {A : Option Addr} {n c : Nat} {nm : ByteArray} {st : Int} {l : List ByteArray} {kb ks : ByteArray} {T : List ByteArray} {AT : Option Addr} {NT cT : Nat} {x : ByteArray} {w : World} (hn : l.length = n) (h : Strs w A l) (hz : n ≤ 1048576) (hs : ∀ s ∈ l, s.size ≤ 16777216) (hnm : nm.size ≤ 16777216) (hst : I64 st) (hkb : kb.size ≤ 16777216) (hks : ks.size ≤ 16777216) (hk : goodK nm st l kb ks = false) :
    Calls Tryz.prog 11 #[.agg #[.string nm, .int .i64 st, .slice A n c], .agg #[.string kb, .string ks], .slice AT NT cT, .string x] w fun e w' => e = .returned (.tuple #[.string (rtR nm st l kb ks T x), .bool (okRT nm st l kb ks T x)]) ∧ Below w.heap.size w w' := by
  have b0 : Below w.heap.size w ((w.alloc (.cells ⟨[.string nm, .int .i64 st, .slice A n c]⟩ 32)).alloc (.cells ⟨[.string kb, .string ks]⟩ 34)) := by (repeat' (first | (with_reducible exact Below.refl _ _) | (with_reducible assumption) | (with_reducible refine below_drewN ?_ _) | (with_reducible refine Below.drew ?_) | (with_reducible refine below_alloc ?_ _) | (with_reducible refine Below.alloc ?_ ?_ _) | (with_reducible refine Below.setCell ?_ ?_ _) | (with_reducible refine below_go ?_ (by with_reducible assumption)) | (with_reducible refine below_then (by with_reducible assumption) ?_ ?_) | go_size))
  have e0 : okRT nm st l kb ks T x = false := by rw [okRT, okNH, hk]; rfl
  have E0 := Lib.hid e0
  have E1 := Lib.hid (rtR_f e0)
  clear e0
  go_in
  go_wp2_with fail
  obtain ⟨w0, hw0⟩ : ∃ u, u = ((w.alloc (.cells #[.string nm, .int .i64 st, .slice A n c] 32)).alloc (.cells #[.string kb, .string ks] 34)) := ⟨_, rfl⟩
  rw [← hw0] at b0 ⊢
  clear hw0
  refine (impl_goodBlocks_no (T := T) hn (h.up b0) hz hs hnm hst hkb hks hk).mono ?_; rintro e w1 ⟨rfl, hb1⟩
  have hB1 := below_go b0 hb1
  go_wp2
  go_ret2
  rw [E0.out, E1.out]
  exact ⟨rfl, by (repeat' (first | (with_reducible exact Below.refl _ _) | (with_reducible assumption) | (with_reducible refine below_drewN ?_ _) | (with_reducible refine Below.drew ?_) | (with_reducible refine below_alloc ?_ _) | (with_reducible refine Below.alloc ?_ ?_ _) | (with_reducible refine Below.setCell ?_ ?_ _) | (with_reducible refine below_go ?_ (by with_reducible assumption)) | (with_reducible refine below_then (by with_reducible assumption) ?_ ?_) | go_size))⟩
set_option maxHeartbeats 2000000 in
set_option maxRecDepth 100000 in
theorem impl_RingTouchOf_yes {A : Option Addr} {n c st : Nat} {nm : ByteArray} {l : List ByteArray} {kb ks : ByteArray} {T : List ByteArray} {AT : Option Addr} {NT cT : Nat} {x : ByteArray} {w : World} (hn : l.length = n) (h : Strs w A l) (hk : goodK nm (st : Int) l kb ks = true) (hNT : T.length = NT) (hT : Strs w AT T) (hzT : NT ≤ 16777216) :
    Calls Tryz.prog 11 #[.agg #[.string nm, .int .i64 st, .slice A n c], .agg #[.string kb, .string ks], .slice AT NT cT, .string x] w fun e w' => e = .returned (.tuple #[.string (rtR nm st l kb ks T x), .bool (okRT nm st l kb ks T x)]) ∧ Below w.heap.size w w' := by
  have HO := Lib.hid (show okRT nm (st : Int) l kb ks T x = ((ok17 st l kb ks T && inL (gF st l kb ks) x) && decide (rgM (cP st l kb ks) (cB st l kb ks) T x ≤ 60)) by rw [okRT, okNH, hk, Bool.true_and]; rfl)
  have HP := Lib.hid (cP_row hk)
  have HB := Lib.hid (cB_row hk)
  have HGR := Lib.hid (gF_row hk)
  have b0 : Below w.heap.size w ((w.alloc (.cells ⟨[.string nm, .int .i64 st, .slice A n c]⟩ 32)).alloc (.cells ⟨[.string kb, .string ks]⟩ 34)) := by (repeat' (first | (with_reducible exact Below.refl _ _) | (with_reducible assumption) | (with_reducible refine below_drewN ?_ _) | (with_reducible refine Below.drew ?_) | (with_reducible refine below_alloc ?_ _) | (with_reducible refine Below.alloc ?_ ?_ _) | (with_reducible refine Below.setCell ?_ ?_ _) | (with_reducible refine below_go ?_ (by with_reducible assumption)) | (with_reducible refine below_then (by with_reducible assumption) ?_ ?_) | go_size))
  go_in
  go_wp2_with fail
  obtain ⟨w0, hw0⟩ : ∃ u, u = ((w.alloc (.cells #[.string nm, .int .i64 st, .slice A n c] 32)).alloc (.cells #[.string kb, .string ks] 34)) := ⟨_, rfl⟩
  rw [← hw0] at b0 ⊢
  clear hw0
  refine (impl_goodBlocks hn (h.up b0) hk hNT (hT.up b0) hzT).mono ?_; rintro e w1 ⟨G, gn, gc, rfl, hyes, hb1⟩
  have HY := Lib.hid hyes
  have hB1 := below_go b0 hb1
  have HT := Lib.hid (hT.up hB1)
  clear hyes hT h
  rcases hok : ok17 st l kb ks T
  · have e0 := Lib.hid (show okRT nm (st : Int) l kb ks T x = false by rw [HO.out, hok, Bool.false_and, Bool.false_and])
    have E1 := Lib.hid (rtR_f e0.out)
    go_wp2
    go_ret2
    rw [e0.out, E1.out]
    exact ⟨rfl, by (repeat' (first | (with_reducible exact Below.refl _ _) | (with_reducible assumption) | (with_reducible refine below_drewN ?_ _) | (with_reducible refine Below.drew ?_) | (with_reducible refine below_alloc ?_ _) | (with_reducible refine Below.alloc ?_ ?_ _) | (with_reducible refine Below.setCell ?_ ?_ _) | (with_reducible refine below_go ?_ (by with_reducible assumption)) | (with_reducible refine below_then (by with_reducible assumption) ?_ ?_) | go_size))⟩
  · obtain ⟨h1, h2, h3⟩ := ok17_t hok
    obtain ⟨hgn, L, ho, hp, hs⟩ := HY.out h1
    obtain ⟨h4, h5⟩ := rowsIn_t h2
    have hgz : gn ≤ 16777216 := by omega
    have HIN := Lib.hid (inL_perm hp x)
    have HL := Lib.hid ho
    have HS := Lib.hid hs
    have HS5 := Lib.hid h5
    have HBR := Lib.hid (fun s hs => HGR.out s (h4 s hs))
    have HCL := Lib.hid h3
    have hb2 : Below w1.heap.size w1 (w1.alloc (.cells ⟨[.string (cP st l kb ks), .string (cB st l kb ks), .slice G gn gc, .string (cQ st l kb ks)]⟩ 47)) := by (repeat' (first | (with_reducible exact Below.refl _ _) | (with_reducible assumption) | (with_reducible refine below_drewN ?_ _) | (with_reducible refine Below.drew ?_) | (with_reducible refine below_alloc ?_ _) | (with_reducible refine Below.alloc ?_ ?_ _) | (with_reducible refine Below.setCell ?_ ?_ _) | (with_reducible refine below_go ?_ (by with_reducible assumption)) | (with_reducible refine below_then (by with_reducible assumption) ?_ ?_) | go_size))
    have KX := Blk.at_ w1 47 [.string (cP st l kb ks), .string (cB st l kb ks), .slice G gn gc, .string (cQ st l kb ks)] (b := w1.heap.size) rfl
    clear ho hs hp hgn h1 h2 h3 h4 h5
    go_wp2_with fail
    obtain ⟨w2, hw2⟩ : ∃ u, u = (w1.alloc (.cells #[.string (cP st l kb ks), .string (cB st l kb ks), .slice G gn gc, .string (cQ st l kb ks)] 47)) := ⟨_, rfl⟩
    rw [← hw2] at hb2 KX ⊢
    clear hw2
    refine (impl_has (s := x) HL.out.len ((HL.out.up hb2).recs) hgz HS.out).mono ?_; rintro e w3 ⟨rfl, hb3⟩
    have hB3 := below_go (below_go hB1 hb2) hb3
    have C3 := below_go hb2 hb3
    have L0 := KX.up hb3
    have k0 : w3.cell? ⟨w1.heap.size, 0, none⟩ = some (.string (cP st l kb ks)) := by simpa using L0.cell 0
    have k1 : w3.cell? ⟨w1.heap.size, 1, none⟩ = some (.string (cB st l kb ks)) := by simpa using L0.cell 1
    have k2 : w3.cell? ⟨w1.heap.size, 2, none⟩ = some (.slice G gn gc) := by simpa using L0.cell 2
    have k3 : w3.cell? ⟨w1.heap.size, 3, none⟩ = some (.string (cQ st l kb ks)) := by simpa using L0.cell 3
    clear L0 KX
    rcases hin : inL L x
    · have e0 := Lib.hid (show okRT nm (st : Int) l kb ks T x = false by rw [HO.out, hok, ← HIN.out, hin]; rfl)
      have E1 := Lib.hid (rtR_f e0.out)
      go_wp2
      go_ret2
      rw [e0.out, E1.out]
      exact ⟨rfl, hB3⟩
    · have hx := HGR.out x (inL_iff.1 (by rw [← HIN.out, hin]))
      have HX := Lib.hid hx
      obtain ⟨m, hm, hm4⟩ := ring_ex HP.out HB.out HBR.out HCL.out hx
      have HM := Lib.hid hm
      have HOK := Lib.hid (show okRT nm (st : Int) l kb ks T x = decide (m ≤ 60) by rw [HO.out, hok, ← HIN.out, hin, rgM_eq hm]; rfl)
      have HRL := Lib.hid (ringL_len (cP st l kb ks) (cB st l kb ks) T x m)
      have HRR := Lib.hid (ringL_row (m := m) HP.out HB.out hx (B := T))
      clear hx hm
      have HNT := Lib.hid hNT
      clear hNT
      go_wp2_with fail
      refine (impl_ring HP.out HB.out HX.out HNT.out (HT.out.up C3) hzT HS5.out HM.out hm4).mono ?_; rintro e w4 ⟨A4, c4, rfl, ho4, hb4⟩
      have HL4 := Lib.hid ho4
      have hB4 := below_go hB3 hb4
      have C4 := below_go C3 hb4
      clear ho4
      by_cases h60 : m ≤ 60
      · have e0 := Lib.hid (show okRT nm (st : Int) l kb ks T x = true by rw [HOK.out, decide_eq_true h60])
        have E1 := Lib.hid (rtR_t e0.out HM.out)
        have hI : ¬ (60 : Int) < (m : Int) := by omega
        skip
        go_wp2
        go_loopw [13, 41] (fun t i wr => ∃ k : Nat, k ≤ m ∧ i = .int .i64 k ∧ t = .string (rgS T (ringL (cP st l kb ks) (cB st l kb ks) T x m) k) ∧ Below w4.heap.size w4 wr) (fun _ i _ => m - (intOf i).toNat)
        case atStart => exact ⟨0, Nat.zero_le _, rfl, rfl, Below.refl _ _⟩
        case round =>
          obtain ⟨k, hk, rfl, rfl, hbr⟩ := hrel
          rename World => wr
          obtain ⟨s, hs0⟩ : ∃ s, s = rgS T (ringL (cP st l kb ks) (cB st l kb ks) T x m) k := ⟨_, rfl⟩
          have hsk := rt_size (by rw [HRL.out]; exact hk) s hs0
          have HSE := Lib.hid hs0
          rw [← hs0]
          clear hs0
          by_cases hlt : k < m
          · have hstr := (HL4.out.up hbr).recs
            obtain ⟨b1, o1, y, hA1, hbb, hy, hcy⟩ := hstr.at_str (by rw [HRL.out]; exact hlt)
            subst hA1
            have hyz : y.size ≤ 16777216 := by have := (HRR.out y (List.mem_of_getElem? hy)); have := this.2; have := HP.out.st; omega
            have HSU := Lib.hid (rgS_succ (B := T) hy)
            clear hy hstr
            have HTr := Lib.hid ((HT.out.up C4).up hbr)
            rcases hin2 : inL T y
            · have HS2 := Lib.hid (show s ++ { data := #[112] } = rgS T (ringL (cP st l kb ks) (cB st l kb ks) T x m) (k + 1) by rw [HSU.out, rgC_f hin2, HSE.out])
              have hs2 : (s ++ ({ data := #[112] } : ByteArray)).size = k + 1 := by rw [ByteArray.size_append, hsk]; rfl
              have HI := Lib.hid hin2
              clear hin2
              go_wp2_with (first | (go_at_call 18; refine (impl_has HNT.out HTr.out hzT HS5.out).mono ?_; rw [HI.out]; rintro e w9 ⟨rfl, hb9⟩))
              go_roundw
              case rel => exact ⟨k + 1, by omega, by go_num, by rw [← HS2.out], below_go hbr hb9⟩
              case measure => simp [intOf]; omega
            · have HS2 := Lib.hid (show s ++ { data := #[98] } = rgS T (ringL (cP st l kb ks) (cB st l kb ks) T x m) (k + 1) by rw [HSU.out, rgC_t hin2, HSE.out])
              have hs2 : (s ++ ({ data := #[98] } : ByteArray)).size = k + 1 := by rw [ByteArray.size_append, hsk]; rfl
              have HI := Lib.hid hin2
              clear hin2
              go_wp2_with (first | (go_at_call 18; refine (impl_has HNT.out HTr.out hzT HS5.out).mono ?_; rw [HI.out]; rintro e w9 ⟨rfl, hb9⟩))
              go_roundw
              case rel => exact ⟨k + 1, by omega, by go_num, by rw [← HS2.out], below_go hbr hb9⟩
              case measure => simp [intOf]; omega
          · obtain rfl : k = m := by omega
            go_wp2
            go_ret2
            rw [e0.out, E1.out, HSE.out]
            exact ⟨rfl, below_go hB4 hbr⟩
      · have e0 := Lib.hid (show okRT nm (st : Int) l kb ks T x = false by rw [HOK.out, decide_eq_false h60])
        have E1 := Lib.hid (rtR_f e0.out)
        have hI : (60 : Int) < (m : Int) := by omega
        go_wp2
        go_ret2
        rw [e0.out, E1.out]
        exact ⟨rfl, hB4⟩
set_option maxHeartbeats 2000000 in
set_option maxRecDepth 100000 in
theorem spec_RingTouchOf_no {A : Option Addr} {n c : Nat} {nm : ByteArray} {st : Int} {l : List ByteArray} {kb ks : ByteArray} {T : List ByteArray} {AT : Option Addr} {NT cT : Nat} {x : ByteArray} {w : World} (hn : l.length = n) (h : Strs w A l) (hz : n ≤ 1048576) (hs : ∀ s ∈ l, s.size ≤ 16777216) (hnm : nm.size ≤ 16777216) (hst : I64 st) (hkb : kb.size ≤ 16777216) (hks : ks.size ≤ 16777216) (hk : goodK nm st l kb ks = false) :
    Calls Tryz.prog 7 #[.agg #[.string nm, .int .i64 st, .slice A n c], .agg #[.string kb, .string ks], .slice AT NT cT, .string x] w fun e w' => e = .returned (.tuple #[.string (rtR nm st l kb ks T x), .bool (okRT nm st l kb ks T x)]) ∧ Below w.heap.size w w' := by
  have b0 : Below w.heap.size w ((w.alloc (.cells ⟨[.string nm, .int .i64 st, .slice A n c]⟩ 32)).alloc (.cells ⟨[.string kb, .string ks]⟩ 34)) := by (repeat' (first | (with_reducible exact Below.refl _ _) | (with_reducible assumption) | (with_reducible refine below_drewN ?_ _) | (with_reducible refine Below.drew ?_) | (with_reducible refine below_alloc ?_ _) | (with_reducible refine Below.alloc ?_ ?_ _) | (with_reducible refine Below.setCell ?_ ?_ _) | (with_reducible refine below_go ?_ (by with_reducible assumption)) | (with_reducible refine below_then (by with_reducible assumption) ?_ ?_) | go_size))
  have e0 : okRT nm st l kb ks T x = false := by rw [okRT, okNH, hk]; rfl
  have E0 := Lib.hid e0
  have E1 := Lib.hid (rtR_f e0)
  clear e0
  go_in
  go_wp2_with fail
  obtain ⟨w0, hw0⟩ : ∃ u, u = ((w.alloc (.cells #[.string nm, .int .i64 st, .slice A n c] 32)).alloc (.cells #[.string kb, .string ks] 34)) := ⟨_, rfl⟩
  rw [← hw0] at b0 ⊢
  clear hw0
  refine (spec_l17Bobs_no (T := T) hn (h.up b0) hz hs hnm hst hkb hks hk).mono ?_; rintro e w1 ⟨rfl, hb1⟩
  have hB1 := below_go b0 hb1
  go_wp2
  go_ret2
  rw [E0.out, E1.out]
  exact ⟨rfl, by (repeat' (first | (with_reducible exact Below.refl _ _) | (with_reducible assumption) | (with_reducible refine below_drewN ?_ _) | (with_reducible refine Below.drew ?_) | (with_reducible refine below_alloc ?_ _) | (with_reducible refine Below.alloc ?_ ?_ _) | (with_reducible refine Below.setCell ?_ ?_ _) | (with_reducible refine below_go ?_ (by with_reducible assumption)) | (with_reducible refine below_then (by with_reducible assumption) ?_ ?_) | go_size))⟩
set_option maxHeartbeats 2000000 in
set_option maxRecDepth 100000 in
theorem spec_RingTouchOf_yes {A : Option Addr} {n c st : Nat} {nm : ByteArray} {l : List ByteArray} {kb ks : ByteArray} {T : List ByteArray} {AT : Option Addr} {NT cT : Nat} {x : ByteArray} {w : World} (hn : l.length = n) (h : Strs w A l) (hk : goodK nm (st : Int) l kb ks = true) (hcap : n ≤ c) (hNT : T.length = NT) (hT : Strs w AT T) (hzT : NT ≤ 16777216) :
    Calls Tryz.prog 7 #[.agg #[.string nm, .int .i64 st, .slice A n c], .agg #[.string kb, .string ks], .slice AT NT cT, .string x] w fun e w' => e = .returned (.tuple #[.string (rtR nm st l kb ks T x), .bool (okRT nm st l kb ks T x)]) ∧ Below w.heap.size w w' := by
  have HO := Lib.hid (show okRT nm (st : Int) l kb ks T x = ((ok17 st l kb ks T && inL (gF st l kb ks) x) && decide (rgM (cP st l kb ks) (cB st l kb ks) T x ≤ 60)) by rw [okRT, okNH, hk, Bool.true_and]; rfl)
  have HP := Lib.hid (cP_row hk)
  have HB := Lib.hid (cB_row hk)
  have HGR := Lib.hid (gF_row hk)
  have b0 : Below w.heap.size w ((w.alloc (.cells ⟨[.string nm, .int .i64 st, .slice A n c]⟩ 32)).alloc (.cells ⟨[.string kb, .string ks]⟩ 34)) := by (repeat' (first | (with_reducible exact Below.refl _ _) | (with_reducible assumption) | (with_reducible refine below_drewN ?_ _) | (with_reducible refine Below.drew ?_) | (with_reducible refine below_alloc ?_ _) | (with_reducible refine Below.alloc ?_ ?_ _) | (with_reducible refine Below.setCell ?_ ?_ _) | (with_reducible refine below_go ?_ (by with_reducible assumption)) | (with_reducible refine below_then (by with_reducible assumption) ?_ ?_) | go_size))
  go_in
  go_wp2_with fail
  obtain ⟨w0, hw0⟩ : ∃ u, u = ((w.alloc (.cells #[.string nm, .int .i64 st, .slice A n c] 32)).alloc (.cells #[.string kb, .string ks] 34)) := ⟨_, rfl⟩
  rw [← hw0] at b0 ⊢
  clear hw0
  refine (spec_l17Bobs hn (h.up b0) hk hcap hNT (hT.up b0) hzT).mono ?_; rintro e w1 ⟨G, gn, gc, rfl, hyes, hb1⟩
  have HY := Lib.hid hyes
  have hB1 := below_go b0 hb1
  have HT := Lib.hid (hT.up hB1)
  clear hyes hT h
  rcases hok : ok17 st l kb ks T
  · have e0 := Lib.hid (show okRT nm (st : Int) l kb ks T x = false by rw [HO.out, hok, Bool.false_and, Bool.false_and])
    have E1 := Lib.hid (rtR_f e0.out)
    go_wp2
    go_ret2
    rw [e0.out, E1.out]
    exact ⟨rfl, by (repeat' (first | (with_reducible exact Below.refl _ _) | (with_reducible assumption) | (with_reducible refine below_drewN ?_ _) | (with_reducible refine Below.drew ?_) | (with_reducible refine below_alloc ?_ _) | (with_reducible refine Below.alloc ?_ ?_ _) | (with_reducible refine Below.setCell ?_ ?_ _) | (with_reducible refine below_go ?_ (by with_reducible assumption)) | (with_reducible refine below_then (by with_reducible assumption) ?_ ?_) | go_size))⟩
  · obtain ⟨h1, h2, h3⟩ := ok17_t hok
    obtain ⟨hgn, L, ho, hp, hs⟩ := HY.out h1
    obtain ⟨h4, h5⟩ := rowsIn_t h2
    have hgz : gn ≤ 16777216 := by omega
    have HIN := Lib.hid (inL_perm hp x)
    have HL := Lib.hid ho
    have HS := Lib.hid hs
    have HS5 := Lib.hid h5
    have HBR := Lib.hid (fun s hs => HGR.out s (h4 s hs))
    have HCL := Lib.hid h3
    have hb2 : Below w1.heap.size w1 (w1.alloc (.cells ⟨[.string (cP st l kb ks), .string (cB st l kb ks), .string (cQ st l kb ks), .slice G gn gc]⟩ 41)) := by (repeat' (first | (with_reducible exact Below.refl _ _) | (with_reducible assumption) | (with_reducible refine below_drewN ?_ _) | (with_reducible refine Below.drew ?_) | (with_reducible refine below_alloc ?_ _) | (with_reducible refine Below.alloc ?_ ?_ _) | (with_reducible refine Below.setCell ?_ ?_ _) | (with_reducible refine below_go ?_ (by with_reducible assumption)) | (with_reducible refine below_then (by with_reducible assumption) ?_ ?_) | go_size))
    have KX := Blk.at_ w1 41 [.string (cP st l kb ks), .string (cB st l kb ks), .string (cQ st l kb ks), .slice G gn gc] (b := w1.heap.size) rfl
    clear ho hs hp hgn h1 h2 h3 h4 h5
    go_wp2_with fail
    obtain ⟨w2, hw2⟩ : ∃ u, u = (w1.alloc (.cells #[.string (cP st l kb ks), .string (cB st l kb ks), .string (cQ st l kb ks), .slice G gn gc] 41)) := ⟨_, rfl⟩
    rw [← hw2] at hb2 KX ⊢
    clear hw2
    refine (spec_l1HasS (s := x) HL.out.len ((HL.out.up hb2).recs) hgz).mono ?_; rintro e w3 ⟨rfl, hw3⟩
    have hb3 : Below w2.heap.size w2 w3 := by rw [← hw3]; exact Below.refl _ _
    have hB3 := below_go (below_go hB1 hb2) hb3
    have C3 := below_go hb2 hb3
    have L0 := KX.up hb3
    have k0 : w3.cell? ⟨w1.heap.size, 0, none⟩ = some (.string (cP st l kb ks)) := by simpa using L0.cell 0
    have k1 : w3.cell? ⟨w1.heap.size, 1, none⟩ = some (.string (cB st l kb ks)) := by simpa using L0.cell 1
    have k2 : w3.cell? ⟨w1.heap.size, 2, none⟩ = some (.string (cQ st l kb ks)) := by simpa using L0.cell 2
    have k3 : w3.cell? ⟨w1.heap.size, 3, none⟩ = some (.slice G gn gc) := by simpa using L0.cell 3
    clear L0
    rcases hin : inL L x
    · have e0 := Lib.hid (show okRT nm (st : Int) l kb ks T x = false by rw [HO.out, hok, ← HIN.out, hin]; rfl)
      have E1 := Lib.hid (rtR_f e0.out)
      go_wp2
      go_ret2
      rw [e0.out, E1.out]
      exact ⟨rfl, hB3⟩
    · have hx := HGR.out x (inL_iff.1 (by rw [← HIN.out, hin]))
      have HX := Lib.hid hx
      obtain ⟨m, hm, hm4⟩ := ring_ex HP.out HB.out HBR.out HCL.out hx
      have HM := Lib.hid hm
      have HOK := Lib.hid (show okRT nm (st : Int) l kb ks T x = decide (m ≤ 60) by rw [HO.out, hok, ← HIN.out, hin, rgM_eq hm]; rfl)
      have HRL := Lib.hid (ringL_len (cP st l kb ks) (cB st l kb ks) T x m)
      have HRR := Lib.hid (ringL_row (m := m) HP.out HB.out hx (B := T))
      clear hx hm
      have HNT := Lib.hid hNT
      clear hNT
      go_wp2_with fail
      refine (spec_ring HP.out HB.out HX.out HNT.out (HT.out.up C3) hzT HM.out hm4).mono ?_; rintro e w4 ⟨A4, c4, rfl, ho4, hb4⟩
      have HL4 := Lib.hid ho4
      have hB4 := below_go hB3 hb4
      have C4 := below_go C3 hb4
      clear ho4
      by_cases h60 : m ≤ 60
      · have e0 := Lib.hid (show okRT nm (st : Int) l kb ks T x = true by rw [HOK.out, decide_eq_true h60])
        have E1 := Lib.hid (rtR_t e0.out HM.out)
        have hI : ¬ (60 : Int) < (m : Int) := by omega
        have L4 := KX.up (below_go hb3 hb4)
        have q0 : w4.cell? ⟨w1.heap.size, 0, none⟩ = some (.string (cP st l kb ks)) := by simpa using L4.cell 0
        have q1 : w4.cell? ⟨w1.heap.size, 1, none⟩ = some (.string (cB st l kb ks)) := by simpa using L4.cell 1
        have q2 : w4.cell? ⟨w1.heap.size, 2, none⟩ = some (.string (cQ st l kb ks)) := by simpa using L4.cell 2
        have q3 : w4.cell? ⟨w1.heap.size, 3, none⟩ = some (.slice G gn gc) := by simpa using L4.cell 3
        clear L4
        go_wp2_with fail
        refine (spec_ring HP.out HB.out HX.out HNT.out (HT.out.up C4) hzT HM.out hm4).mono ?_; rintro e w5 ⟨A5, c5, rfl, ho5, hb5⟩
        have HL5 := Lib.hid ho5
        have hB5 := below_go hB4 hb5
        have C5 := below_go C4 hb5
        clear ho5 q0 q1 q2 q3
        go_wp2
        go_loopw [12, 44] (fun t i wr => ∃ k : Nat, k ≤ m ∧ i = .int .i64 k ∧ t = .string (rgS T (ringL (cP st l kb ks) (cB st l kb ks) T x m) k) ∧ Below w5.heap.size w5 wr) (fun _ i _ => m - (intOf i).toNat)
        case atStart => exact ⟨0, Nat.zero_le _, rfl, rfl, Below.refl _ _⟩
        case round =>
          obtain ⟨k, hk, rfl, rfl, hbr⟩ := hrel
          rename World => wr
          obtain ⟨s, hs0⟩ : ∃ s, s = rgS T (ringL (cP st l kb ks) (cB st l kb ks) T x m) k := ⟨_, rfl⟩
          have hsk := rt_size (by rw [HRL.out]; exact hk) s hs0
          have HSE := Lib.hid hs0
          rw [← hs0]
          clear hs0
          by_cases hlt : k < m
          · have hstr := (HL5.out.up hbr).recs
            obtain ⟨b1, o1, y, hA1, hbb, hy, hcy⟩ := hstr.at_str (by rw [HRL.out]; exact hlt)
            subst hA1
            have hyz : y.size ≤ 16777216 := by have := (HRR.out y (List.mem_of_getElem? hy)); have := this.2; have := HP.out.st; omega
            have HSU := Lib.hid (rgS_succ (B := T) hy)
            clear hy hstr
            have HTr := Lib.hid ((HT.out.up C5).up hbr)
            rcases hin2 : inL T y
            · have HS2 := Lib.hid (show s ++ { data := #[112] } = rgS T (ringL (cP st l kb ks) (cB st l kb ks) T x m) (k + 1) by rw [HSU.out, rgC_f hin2, HSE.out])
              have hs2 : (s ++ ({ data := #[112] } : ByteArray)).size = k + 1 := by rw [ByteArray.size_append, hsk]; rfl
              have HI := Lib.hid hin2
              clear hin2
              go_wp2_with (first | (go_at_call 15; refine (spec_l1HasS HNT.out HTr.out hzT).mono ?_; rw [HI.out]; rintro e w' ⟨rfl, rfl⟩))
              go_roundw
              case rel => exact ⟨k + 1, by omega, by go_num, by rw [← HS2.out], hbr⟩
              case measure => simp [intOf]; omega
            · have HS2 := Lib.hid (show s ++ { data := #[98] } = rgS T (ringL (cP st l kb ks) (cB st l kb ks) T x m) (k + 1) by rw [HSU.out, rgC_t hin2, HSE.out])
              have hs2 : (s ++ ({ data := #[98] } : ByteArray)).size = k + 1 := by rw [ByteArray.size_append, hsk]; rfl
              have HI := Lib.hid hin2
              clear hin2
              go_wp2_with (first | (go_at_call 15; refine (spec_l1HasS HNT.out HTr.out hzT).mono ?_; rw [HI.out]; rintro e w' ⟨rfl, rfl⟩))
              go_roundw
              case rel => exact ⟨k + 1, by omega, by go_num, by rw [← HS2.out], hbr⟩
              case measure => simp [intOf]; omega
          · obtain rfl : k = m := by omega
            go_wp2
            go_ret2
            rw [e0.out, E1.out, HSE.out]
            exact ⟨rfl, below_go hB5 hbr⟩
      · have e0 := Lib.hid (show okRT nm (st : Int) l kb ks T x = false by rw [HOK.out, decide_eq_false h60])
        have E1 := Lib.hid (rtR_f e0.out)
        have hI : (60 : Int) < (m : Int) := by omega
        go_wp2
        go_ret2
        rw [e0.out, E1.out]
        exact ⟨rfl, hB4⟩
theorem impl_RingTouchOf {A : Option Addr} {n c : Nat} {nm : ByteArray} {st : Int} {l : List ByteArray} {kb ks : ByteArray} {t : ByteArray} {AB : Option Addr} {NB cB : Nat} {lB : List ByteArray} {w : World} (hn : l.length = n) (h : Strs w A l) (hz : n ≤ 1048576) (hs : ∀ s ∈ l, s.size ≤ 16777216) (hnm : nm.size ≤ 16777216) (hst : I64 st) (hkb : kb.size ≤ 16777216) (hks : ks.size ≤ 16777216) (_ht : t.size ≤ 16777216) (hNB : lB.length = NB) (hB : Strs w AB lB) (nB : NB ≤ 1048576) (_hbB : ∀ s ∈ lB, s.size ≤ 16777216) :
    Calls Tryz.prog 11 #[.agg #[.string nm, .int .i64 st, .slice A n c], .agg #[.string kb, .string ks], .slice AB NB cB, .string t] w fun e w' => e = .returned (.tuple #[.string (rtR nm st l kb ks lB t), .bool (okRT nm st l kb ks lB t)]) ∧ Below w.heap.size w w' := by
  rcases hk : goodK nm st l kb ks
  · exact impl_RingTouchOf_no hn h hz hs hnm hst hkb hks hk
  · obtain ⟨m, rfl⟩ : ∃ m : Nat, st = (m : Int) := ⟨st.toNat, by
      have := (goodM_t (goodK_t hk).1).2.1
      omega⟩
    exact impl_RingTouchOf_yes hn h hk hNB hB (by omega)
theorem spec_RingTouchOf {A : Option Addr} {n c : Nat} {nm : ByteArray} {st : Int} {l : List ByteArray} {kb ks : ByteArray} {t : ByteArray} {AB : Option Addr} {NB cB : Nat} {lB : List ByteArray} {w : World} (hn : l.length = n) (h : Strs w A l) (hz : n ≤ 1048576) (hs : ∀ s ∈ l, s.size ≤ 16777216) (hnm : nm.size ≤ 16777216) (hst : I64 st) (hkb : kb.size ≤ 16777216) (hks : ks.size ≤ 16777216) (hcap : n ≤ c) (_ht : t.size ≤ 16777216) (hNB : lB.length = NB) (hB : Strs w AB lB) (nB : NB ≤ 1048576) (_hbB : ∀ s ∈ lB, s.size ≤ 16777216) :
    Calls Tryz.prog 7 #[.agg #[.string nm, .int .i64 st, .slice A n c], .agg #[.string kb, .string ks], .slice AB NB cB, .string t] w fun e w' => e = .returned (.tuple #[.string (rtR nm st l kb ks lB t), .bool (okRT nm st l kb ks lB t)]) ∧ Below w.heap.size w w' := by
  rcases hk : goodK nm st l kb ks
  · exact spec_RingTouchOf_no hn h hz hs hnm hst hkb hks hk
  · obtain ⟨m, rfl⟩ : ∃ m : Nat, st = (m : Int) := ⟨st.toNat, by
      have := (goodM_t (goodK_t hk).1).2.1
      omega⟩
    exact spec_RingTouchOf_yes hn h hk hcap hNB hB (by omega)
end Go.Proofs.YtmdmnjjlpefigaaGreat
/- The walk through FnExactRingTouchOf: both sides give the same, the arguments are left alone. -/
namespace Go.Proofs.YtmdmnjjlpefigaaGreat
set_option linter.unusedVariables false
set_option linter.unusedSimpArgs false
open Go.ChangeShapes Go.WideShapes Go.ChangeAt Go.RowKit Go.Deep
set_option maxHeartbeats 4000000 in
set_option maxRecDepth 100000 in
theorem law_RingTouchOf (nm : ByteArray) (st : Int) (A : Option Addr) (c : Nat) (l : List ByteArray) (kb ks : ByteArray) (AB : Option Addr) (cB : Nat) (lB : List ByteArray) (t : ByteArray) (w : World) (hnm : nm.size ≤ maxLen) (hst : -9223372036854775808 ≤ st ∧ st ≤ 9223372036854775807) (h : Recs strE 1 w A l) (hm : l.length ≤ 9223372036854775807) (hb : ∀ x ∈ l, x.size ≤ maxLen) (hkb : kb.size ≤ maxLen) (hks : ks.size ≤ maxLen) (hB : Recs strE 1 w AB lB) (hmB : lB.length ≤ 9223372036854775807) (hbB : ∀ x ∈ lB, x.size ≤ maxLen) (ht : t.size ≤ maxLen) :
    Calls Tryz.prog 3 #[.agg #[.string nm, .int .i64 st, .slice A l.length c], .agg #[.string kb, .string ks], .slice AB lB.length cB, .string t] w fun e w' => e = .returned (.bool true) ∧ Below w.heap.size w w' := by
  obtain ⟨Z0, hZ0⟩ : ∃ z, z = szM nm l := ⟨_, rfl⟩
  obtain ⟨Z1, hZ1⟩ : ∃ z, z = szK kb ks := ⟨_, rfl⟩
  have y0 : (nm.size : Int) + szS l = Z0 := hZ0.symm
  have y1 : (kb.size : Int) + (ks.size : Int) = Z1 := hZ1.symm
  have y2 := szS_len l
  have y4 := szS_len lB
  by_cases zt : (t.size : Int) ≤ 1048576
  · by_cases z0 : Z0 ≤ 1048576
    · by_cases z1 : Z1 ≤ 1048576 - Z0
      · by_cases z2 : szS lB ≤ 1048576 - Z0 - Z1
        · have hs1 : ∀ s ∈ l, s.size ≤ 16777216 := fun s hs => by (have := szS_each l s hs; omega)
          have hnm1 : nm.size ≤ 16777216 := by omega
          have hkb1 : kb.size ≤ 16777216 := by omega
          have hks1 : ks.size ≤ 16777216 := by omega
          have hI : I64 st := by unfold I64; omega
          have hl1 : l.length ≤ 1048576 := by omega
          have ht1 : t.size ≤ 16777216 := by omega
          have nB1 : lB.length ≤ 1048576 := by omega
          have nB : lB.length ≤ 1048576 := nB1
          have hbB1 : ∀ s ∈ lB, s.size ≤ 16777216 := fun s hs => by (have := szS_each lB s hs; omega)
          have HZ0 : Hid (leftV 1048576 (szM nm l) = 1048576 - Z0) := Lib.hid (by rw [← hZ0]; exact leftV_t z0)
          have HZ1 : Hid (leftV (1048576 - Z0) (szK kb ks) = 1048576 - Z0 - Z1) := Lib.hid (by rw [← hZ1]; exact leftV_t z1)
          have m0 : (0 : Int) ≤ 1048576 - Z0 := by omega
          have m1 : (0 : Int) ≤ 1048576 - Z0 - Z1 := by omega
          have m2 : (0 : Int) ≤ 1048576 - Z0 - Z1 - szS lB := by omega
          have p0 : 0 ≤ Z0 := by omega
          have p1 : 0 ≤ Z1 := by omega
          clear hZ0 hZ1 y0 y1
          have b0 : Below w.heap.size w ((w.alloc (.cells ⟨[.string nm, .int .i64 st, .slice A l.length c]⟩ 24)).alloc (.cells ⟨[.string kb, .string ks]⟩ 26)) := by (repeat' (first | (with_reducible exact Below.refl _ _) | (with_reducible assumption) | (with_reducible refine below_drewN ?_ _) | (with_reducible refine Below.drew ?_) | (with_reducible refine below_alloc ?_ _) | (with_reducible refine Below.alloc ?_ ?_ _) | (with_reducible refine Below.setCell ?_ ?_ _) | (with_reducible refine below_go ?_ (by with_reducible assumption)) | (with_reducible refine below_then (by with_reducible assumption) ?_ ?_) | go_size))
          have K0 := ((Blk.at_ w 24 [.string nm, .int .i64 st, .slice A l.length c] (b := w.heap.size) (by simp)).alloc (.cells ⟨[.string kb, .string ks]⟩ 26))
          have K1 := (Blk.at_ (w.alloc (.cells ⟨[.string nm, .int .i64 st, .slice A l.length c]⟩ 24)) 26 [.string kb, .string ks] (b := w.heap.size + 1) (by simp))
          go_in
          go_wp2_with fail
          obtain ⟨w0, hw0⟩ : ∃ u, u = ((w.alloc (.cells #[.string nm, .int .i64 st, .slice A l.length c] 24)).alloc (.cells #[.string kb, .string ks] 26)) := ⟨_, rfl⟩
          rw [← hw0] at b0 K0 K1 ⊢
          have z0 : w.heap.size + 2 ≤ w0.heap.size := by rw [hw0]; simp
          clear hw0
          have carry : Hid (∀ u : World, Below w0.heap.size w0 u → (u.cell? ⟨w.heap.size, 0, none⟩ = some (.string nm) ∧ u.cell? ⟨w.heap.size, 1, none⟩ = some (.int .i64 st) ∧ u.cell? ⟨w.heap.size, 2, none⟩ = some (.slice A l.length c)) ∧ (u.cell? ⟨w.heap.size + 1, 0, none⟩ = some (.string kb) ∧ u.cell? ⟨w.heap.size + 1, 1, none⟩ = some (.string ks))) := Lib.hid (fun u hu => by
            have J0 := K0.up hu; have J1 := K1.up hu
            exact ⟨⟨by simpa using J0.cell 0, by simpa using J0.cell 1, by simpa using J0.cell 2⟩, ⟨by simpa using J1.cell 0, by simpa using J1.cell 1⟩⟩)
          clear K0 K1
          have B0 := Below.refl w0.heap.size w0
          have H0 := b0
          obtain ⟨⟨k1_0_0, k1_0_1, k1_0_2⟩, ⟨k1_1_0, k1_1_1⟩⟩ := carry.out _ B0
          refine (laws_szMethod rfl (h.below H0 (Nat.le_refl _)) (by omega) (by omega) hm hb hnm).mono ?_; rw [HZ0.out]; rintro e w1 ⟨rfl, hb1⟩
          clear k1_0_0 k1_0_1 k1_0_2 k1_1_0 k1_1_1
          have sz1 : w0.heap.size ≤ w1.heap.size := hb1.size
          have B1 := B0.trans (hb1.mono B0.size)
          have H1 := b0.trans (B1.mono b0.size)
          obtain ⟨⟨k2_0_0, k2_0_1, k2_0_2⟩, ⟨k2_1_0, k2_1_1⟩⟩ := carry.out _ B1
          go_wp2_with fail
          refine (laws_szCalls (by omega) (by omega) hkb hks).mono ?_; rw [HZ1.out]; rintro e w2 ⟨rfl, hb2⟩
          clear k2_0_0 k2_0_1 k2_0_2 k2_1_0 k2_1_1
          have sz2 : w1.heap.size ≤ w2.heap.size := hb2.size
          have B2 := B1.trans (hb2.mono B1.size)
          have H2 := b0.trans (B2.mono b0.size)
          obtain ⟨⟨k3_0_0, k3_0_1, k3_0_2⟩, ⟨k3_1_0, k3_1_1⟩⟩ := carry.out _ B2
          go_wp2_with fail
          refine (laws_szStringS_ok _ _ _ _ _ _ rfl (hB.below H2 (Nat.le_refl _)) (by omega) (by omega) hmB hbB (by omega)).mono ?_; rintro e w' ⟨rfl, rfl⟩
          clear k3_0_0 k3_0_1 k3_0_2 k3_1_0 k3_1_1
          have HS := Lib.hid hs1
          go_wp2_with fail
          go_region_held3 (fun u => (u.cell? ⟨w.heap.size, 0, none⟩ = some (.string nm) ∧ u.cell? ⟨w.heap.size, 1, none⟩ = some (.int .i64 st) ∧ u.cell? ⟨w.heap.size, 2, none⟩ = some (.slice A l.length c)) ∧ (u.cell? ⟨w.heap.size + 1, 0, none⟩ = some (.string kb) ∧ u.cell? ⟨w.heap.size + 1, 1, none⟩ = some (.string ks))) (first | exact carry.out _ B6 | exact carry.out _ B5 | exact carry.out _ B4 | exact carry.out _ B3 | exact carry.out _ B2.drew) (first | (go_at_call 7; ((refine (spec_RingTouchOf rfl omW_5.recs (by omega) HS.out hnm1 hI hkb1 hks1 (Nat.le_refl _) ht1 rfl obW.recs nB hbB1).mono ?_); rintro e w6 ⟨rfl, hb6⟩; have sz6 : w5.heap.size ≤ w6.heap.size := hb6.size; have B6 := B5.trans (hb6.mono B5.size); have H6 := b0.trans (B6.mono b0.size); have omW_6 := omW_5.up hb6; have obW_6 := obW.up hb6)) | (go_at_call 10; ((with_reducible refine (laws_toStringS _ _ _ _ _ rfl (hB.below H4 (Nat.le_refl _)) nB1).mono ?_); rintro e w5 ⟨gbW, rfl, obW, hb5⟩; have sz5 : w4.heap.size ≤ w5.heap.size := hb5.size; have B5 := B4.trans (hb5.mono B4.size); have H5 := b0.trans (B5.mono b0.size); have omW_5 := omW_4.up hb5)) | (go_at_call 9; ((refine (laws_toCalls).mono ?_); rintro e w4 ⟨rfl, hb4⟩; have sz4 : w3.heap.size ≤ w4.heap.size := hb4.size; have B4 := B3.trans (hb4.mono B3.size); have H4 := b0.trans (B4.mono b0.size); have omW_4 := omW.up hb4)) | (go_at_call 8; ((with_reducible refine (laws_toMethod (st := st) (nm := nm) rfl (h.below H2 (Nat.le_refl _)).drew (by omega)).mono ?_); rintro e w3 ⟨gomW, rfl, omW, hbd3⟩; have hb3 := below_of_drew hbd3; have sz3 : w2.heap.size ≤ w3.heap.size := hb3.size; have B3 := B2.trans (hb3.mono B2.size); have H3 := b0.trans (B3.mono b0.size))))
          obtain ⟨⟨k4_0_0, k4_0_1, k4_0_2⟩, ⟨k4_1_0, k4_1_1⟩⟩ := carry.out _ B6
          go_wp2_with fail
          refine (laws_toMethod (st := st) (nm := nm) rfl (h.below H6 (Nat.le_refl _)) (by omega)).mono ?_; rintro e w7 ⟨gx, rfl, ox, hb7⟩
          clear k4_0_0 k4_0_1 k4_0_2 k4_1_0 k4_1_1
          have sz7 : w6.heap.size ≤ w7.heap.size := hb7.size
          have B7 := B6.trans (hb7.mono B6.size)
          have H7 := b0.trans (B7.mono b0.size)
          have omW_7 := omW_6.up hb7
          have obW_7 := obW_6.up hb7
          have rox := ox.range
          go_wp2_with fail
          have hb8 : Below w7.heap.size w7 (w7.alloc (.cells ⟨[.string nm, .int .i64 st, .slice (some ⟨gx, 0, none⟩) l.length l.length]⟩ 32)) := by (repeat' (first | (with_reducible exact Below.refl _ _) | (with_reducible assumption) | (with_reducible refine below_drewN ?_ _) | (with_reducible refine Below.drew ?_) | (with_reducible refine below_alloc ?_ _) | (with_reducible refine Below.alloc ?_ ?_ _) | (with_reducible refine Below.setCell ?_ ?_ _) | (with_reducible refine below_go ?_ (by with_reducible assumption)) | (with_reducible refine below_then (by with_reducible assumption) ?_ ?_) | go_size))
          have XD := Blk.at_ w7 32 [.string nm, .int .i64 st, .slice (some ⟨gx, 0, none⟩) l.length l.length] (b := w7.heap.size) rfl
          obtain ⟨w8, hw8⟩ : ∃ u, u = (w7.alloc (.cells #[.string nm, .int .i64 st, .slice (some ⟨gx, 0, none⟩) l.length l.length] 32)) := ⟨_, rfl⟩
          rw [← hw8] at hb8 XD ⊢
          clear hw8
          have sz8 : w7.heap.size ≤ w8.heap.size := hb8.size
          have B8 := B7.trans (hb8.mono B7.size)
          have H8 := b0.trans (B8.mono b0.size)
          have omW_8 := omW_7.up hb8
          have obW_8 := obW_7.up hb8
          have ox_8 := ox.up hb8
          have carryX : Hid (∀ u : World, Below w8.heap.size w8 u → u.cell? ⟨w7.heap.size, 0, none⟩ = some (.string nm) ∧ u.cell? ⟨w7.heap.size, 1, none⟩ = some (.int .i64 st) ∧ u.cell? ⟨w7.heap.size, 2, none⟩ = some (.slice (some ⟨gx, 0, none⟩) l.length l.length)) := Lib.hid (fun u hu => by
            have J := XD.up hu
            exact ⟨by simpa using J.cell 0, by simpa using J.cell 1, by simpa using J.cell 2⟩)
          clear XD
          have D8 := Below.refl w8.heap.size w8
          refine (laws_toStringS _ _ _ _ _ rfl (hB.below H8 (Nat.le_refl _)) nB1).mono ?_; rintro e w9 ⟨gys, rfl, oys, hb9⟩
          have sz9 : w8.heap.size ≤ w9.heap.size := hb9.size
          have B9 := B8.trans (hb9.mono B8.size)
          have H9 := b0.trans (B9.mono b0.size)
          have omW_9 := omW_8.up hb9
          have obW_9 := obW_8.up hb9
          have ox_9 := ox_8.up hb9
          have D9 := D8.trans (hb9.mono D8.size)
          go_wp2_with fail
          go_region_held3 (fun u => (u.cell? ⟨w.heap.size, 0, none⟩ = some (.string nm) ∧ u.cell? ⟨w.heap.size, 1, none⟩ = some (.int .i64 st) ∧ u.cell? ⟨w.heap.size, 2, none⟩ = some (.slice A l.length c)) ∧ (u.cell? ⟨w.heap.size + 1, 0, none⟩ = some (.string kb) ∧ u.cell? ⟨w.heap.size + 1, 1, none⟩ = some (.string ks)) ∧ (u.cell? ⟨w7.heap.size, 0, none⟩ = some (.string nm) ∧ u.cell? ⟨w7.heap.size, 1, none⟩ = some (.int .i64 st) ∧ u.cell? ⟨w7.heap.size, 2, none⟩ = some (.slice (some ⟨gx, 0, none⟩) l.length l.length))) (first | exact ⟨(carry.out _ B11).1, (carry.out _ B11).2, (carryX.out _ D11)⟩ | exact ⟨(carry.out _ B10).1, (carry.out _ B10).2, (carryX.out _ D10)⟩ | exact ⟨(carry.out _ B9.drew).1, (carry.out _ B9.drew).2, (carryX.out _ D9.drew)⟩) (first | (go_at_call 11; ((refine (impl_RingTouchOf rfl ox_10.recs (by omega) HS.out hnm1 hI hkb1 hks1  ht1 rfl oys_10.recs nB hbB1).mono ?_); rintro e w11 ⟨rfl, hb11⟩; have sz11 : w10.heap.size ≤ w11.heap.size := hb11.size; have B11 := B10.trans (hb11.mono B10.size); have H11 := b0.trans (B11.mono b0.size); have omW_11 := omW_10.up hb11; have obW_11 := obW_10.up hb11; have ox_11 := ox_10.up hb11; have oys_11 := oys_10.up hb11; have D11 := D10.trans (hb11.mono D10.size))) | (go_at_call 9; ((refine (laws_toCalls).mono ?_); rintro e w10 ⟨rfl, hbd10⟩; have hb10 := below_of_drew hbd10; have sz10 : w9.heap.size ≤ w10.heap.size := hb10.size; have B10 := B9.trans (hb10.mono B9.size); have H10 := b0.trans (B10.mono b0.size); have omW_10 := omW_9.up hb10; have obW_10 := obW_9.up hb10; have ox_10 := ox_9.up hb10; have oys_10 := oys.up hb10; have D10 := D9.trans (hb10.mono D9.size))))
          go_wp2_with fail
          go_region_held3 (fun u => (u.cell? ⟨w.heap.size, 0, none⟩ = some (.string nm) ∧ u.cell? ⟨w.heap.size, 1, none⟩ = some (.int .i64 st) ∧ u.cell? ⟨w.heap.size, 2, none⟩ = some (.slice A l.length c)) ∧ (u.cell? ⟨w.heap.size + 1, 0, none⟩ = some (.string kb) ∧ u.cell? ⟨w.heap.size + 1, 1, none⟩ = some (.string ks)) ∧ (u.cell? ⟨w7.heap.size, 0, none⟩ = some (.string nm) ∧ u.cell? ⟨w7.heap.size, 1, none⟩ = some (.int .i64 st) ∧ u.cell? ⟨w7.heap.size, 2, none⟩ = some (.slice (some ⟨gx, 0, none⟩) l.length l.length))) (first | exact ⟨(carry.out _ B13).1, (carry.out _ B13).2, (carryX.out _ D13)⟩ | exact ⟨(carry.out _ B12).1, (carry.out _ B12).2, (carryX.out _ D12)⟩ | exact ⟨(carry.out _ B11.drew).1, (carry.out _ B11.drew).2, (carryX.out _ D11.drew)⟩) (first | (go_at_call 12; ((refine (laws_eqMethod rfl ox_12.recs ot.recs (by omega)).mono ?_); rintro e w13 ⟨rfl, hb13⟩; have sz13 : w12.heap.size ≤ w13.heap.size := hb13.size; have B13 := B12.trans (hb13.mono B12.size); have H13 := b0.trans (B13.mono b0.size); have omW_13 := omW_12.up hb13; have obW_13 := obW_12.up hb13; have ox_13 := ox_12.up hb13; have oys_13 := oys_12.up hb13; have ot_13 := ot.up hb13; have D13 := D12.trans (hb13.mono D12.size))) | (go_at_call 8; ((with_reducible refine (laws_toMethod (st := st) (nm := nm) rfl (h.below H11 (Nat.le_refl _)).drew (by omega)).mono ?_); rintro e w12 ⟨gt, rfl, ot, hbd12⟩; have hb12 := below_of_drew hbd12; have sz12 : w11.heap.size ≤ w12.heap.size := hb12.size; have B12 := B11.trans (hb12.mono B11.size); have H12 := b0.trans (B12.mono b0.size); have omW_12 := omW_11.up hb12; have obW_12 := obW_11.up hb12; have ox_12 := ox_11.up hb12; have oys_12 := oys_11.up hb12; have D12 := D11.trans (hb12.mono D11.size))))
          go_wp2_with fail
          refine (laws_toStringS _ _ _ _ _ rfl (hB.below H13 (Nat.le_refl _)) nB1).mono ?_; rintro e w14 ⟨gts, rfl, ots, hb14⟩
          have sz14 : w13.heap.size ≤ w14.heap.size := hb14.size
          have B14 := B13.trans (hb14.mono B13.size)
          have H14 := b0.trans (B14.mono b0.size)
          have omW_14 := omW_13.up hb14
          have obW_14 := obW_13.up hb14
          have ox_14 := ox_13.up hb14
          have oys_14 := oys_13.up hb14
          have D14 := D13.trans (hb14.mono D13.size)
          go_wp2_with fail
          refine (laws_eqStringS _ _ _ _ _ _ _ _ _ rfl rfl oys_14.recs ots.recs (by omega) (by omega)).mono ?_; rintro e w15 ⟨rfl, hb15⟩
          have sz15 : w14.heap.size ≤ w15.heap.size := hb15.size
          have B15 := B14.trans (hb15.mono B14.size)
          have H15 := b0.trans (B15.mono b0.size)
          have omW_15 := omW_14.up hb15
          have obW_15 := obW_14.up hb15
          have ox_15 := ox_14.up hb15
          have oys_15 := oys_14.up hb15
          have ots_15 := ots.up hb15
          have D15 := D14.trans (hb15.mono D14.size)
          go_wp2
          go_ret
          exact ⟨rfl, H15⟩
        · unfold maxLen at ht
          have HZ0 : Hid (leftV 1048576 (szM nm l) = 1048576 - Z0) := Lib.hid (by rw [← hZ0]; exact leftV_t z0)
          have m0 : (0 : Int) ≤ 1048576 - Z0 := by omega
          have p0 : 0 ≤ Z0 := by omega
          have HZ1 : Hid (leftV (1048576 - Z0) (szK kb ks) = 1048576 - Z0 - Z1) := Lib.hid (by rw [← hZ1]; exact leftV_t z1)
          have m1 : (0 : Int) ≤ 1048576 - Z0 - Z1 := by omega
          have p1 : 0 ≤ Z1 := by omega
          clear hZ0 hZ1 y0 y1
          have b0 : Below w.heap.size w ((w.alloc (.cells ⟨[.string nm, .int .i64 st, .slice A l.length c]⟩ 24)).alloc (.cells ⟨[.string kb, .string ks]⟩ 26)) := by (repeat' (first | (with_reducible exact Below.refl _ _) | (with_reducible assumption) | (with_reducible refine below_drewN ?_ _) | (with_reducible refine Below.drew ?_) | (with_reducible refine below_alloc ?_ _) | (with_reducible refine Below.alloc ?_ ?_ _) | (with_reducible refine Below.setCell ?_ ?_ _) | (with_reducible refine below_go ?_ (by with_reducible assumption)) | (with_reducible refine below_then (by with_reducible assumption) ?_ ?_) | go_size))
          have K0 := ((Blk.at_ w 24 [.string nm, .int .i64 st, .slice A l.length c] (b := w.heap.size) (by simp)).alloc (.cells ⟨[.string kb, .string ks]⟩ 26))
          have K1 := (Blk.at_ (w.alloc (.cells ⟨[.string nm, .int .i64 st, .slice A l.length c]⟩ 24)) 26 [.string kb, .string ks] (b := w.heap.size + 1) (by simp))
          go_in
          go_wp2_with fail
          obtain ⟨w0, hw0⟩ : ∃ u, u = ((w.alloc (.cells #[.string nm, .int .i64 st, .slice A l.length c] 24)).alloc (.cells #[.string kb, .string ks] 26)) := ⟨_, rfl⟩
          rw [← hw0] at b0 K0 K1 ⊢
          have z0 : w.heap.size + 2 ≤ w0.heap.size := by rw [hw0]; simp
          clear hw0
          have carry : Hid (∀ u : World, Below w0.heap.size w0 u → (u.cell? ⟨w.heap.size, 0, none⟩ = some (.string nm) ∧ u.cell? ⟨w.heap.size, 1, none⟩ = some (.int .i64 st) ∧ u.cell? ⟨w.heap.size, 2, none⟩ = some (.slice A l.length c)) ∧ (u.cell? ⟨w.heap.size + 1, 0, none⟩ = some (.string kb) ∧ u.cell? ⟨w.heap.size + 1, 1, none⟩ = some (.string ks))) := Lib.hid (fun u hu => by
            have J0 := K0.up hu; have J1 := K1.up hu
            exact ⟨⟨by simpa using J0.cell 0, by simpa using J0.cell 1, by simpa using J0.cell 2⟩, ⟨by simpa using J1.cell 0, by simpa using J1.cell 1⟩⟩)
          clear K0 K1
          have B0 := Below.refl w0.heap.size w0
          have H0 := b0
          obtain ⟨⟨k1_0_0, k1_0_1, k1_0_2⟩, ⟨k1_1_0, k1_1_1⟩⟩ := carry.out _ B0
          refine (laws_szMethod rfl (h.below H0 (Nat.le_refl _)) (by omega) (by omega) hm hb hnm).mono ?_; rw [HZ0.out]; rintro e w1 ⟨rfl, hb1⟩
          clear k1_0_0 k1_0_1 k1_0_2 k1_1_0 k1_1_1
          have sz1 : w0.heap.size ≤ w1.heap.size := hb1.size
          have B1 := B0.trans (hb1.mono B0.size)
          have H1 := b0.trans (B1.mono b0.size)
          obtain ⟨⟨k2_0_0, k2_0_1, k2_0_2⟩, ⟨k2_1_0, k2_1_1⟩⟩ := carry.out _ B1
          go_wp2_with fail
          refine (laws_szCalls (by omega) (by omega) hkb hks).mono ?_; rw [HZ1.out]; rintro e w2 ⟨rfl, hb2⟩
          clear k2_0_0 k2_0_1 k2_0_2 k2_1_0 k2_1_1
          have sz2 : w1.heap.size ≤ w2.heap.size := hb2.size
          have B2 := B1.trans (hb2.mono B1.size)
          have H2 := b0.trans (B2.mono b0.size)
          obtain ⟨⟨k3_0_0, k3_0_1, k3_0_2⟩, ⟨k3_1_0, k3_1_1⟩⟩ := carry.out _ B2
          go_wp2_with fail
          refine (laws_szStringS_no _ _ _ _ _ _ rfl (hB.below H2 (Nat.le_refl _)) (by omega) (by omega) hmB hbB (by omega)).mono ?_; rintro e w' ⟨rfl, rfl⟩
          go_wp2
          go_ret
          exact ⟨rfl, H2⟩
      · unfold maxLen at ht
        have HZ0 : Hid (leftV 1048576 (szM nm l) = 1048576 - Z0) := Lib.hid (by rw [← hZ0]; exact leftV_t z0)
        have m0 : (0 : Int) ≤ 1048576 - Z0 := by omega
        have p0 : 0 ≤ Z0 := by omega
        have HZ1 : Hid (leftV (1048576 - Z0) (szK kb ks) = -1) := Lib.hid (by rw [← hZ1]; exact leftV_f (by omega))
        clear hZ0 hZ1 y0 y1
        have b0 : Below w.heap.size w ((w.alloc (.cells ⟨[.string nm, .int .i64 st, .slice A l.length c]⟩ 24)).alloc (.cells ⟨[.string kb, .string ks]⟩ 26)) := by (repeat' (first | (with_reducible exact Below.refl _ _) | (with_reducible assumption) | (with_reducible refine below_drewN ?_ _) | (with_reducible refine Below.drew ?_) | (with_reducible refine below_alloc ?_ _) | (with_reducible refine Below.alloc ?_ ?_ _) | (with_reducible refine Below.setCell ?_ ?_ _) | (with_reducible refine below_go ?_ (by with_reducible assumption)) | (with_reducible refine below_then (by with_reducible assumption) ?_ ?_) | go_size))
        have K0 := ((Blk.at_ w 24 [.string nm, .int .i64 st, .slice A l.length c] (b := w.heap.size) (by simp)).alloc (.cells ⟨[.string kb, .string ks]⟩ 26))
        have K1 := (Blk.at_ (w.alloc (.cells ⟨[.string nm, .int .i64 st, .slice A l.length c]⟩ 24)) 26 [.string kb, .string ks] (b := w.heap.size + 1) (by simp))
        go_in
        go_wp2_with fail
        obtain ⟨w0, hw0⟩ : ∃ u, u = ((w.alloc (.cells #[.string nm, .int .i64 st, .slice A l.length c] 24)).alloc (.cells #[.string kb, .string ks] 26)) := ⟨_, rfl⟩
        rw [← hw0] at b0 K0 K1 ⊢
        have z0 : w.heap.size + 2 ≤ w0.heap.size := by rw [hw0]; simp
        clear hw0
        have carry : Hid (∀ u : World, Below w0.heap.size w0 u → (u.cell? ⟨w.heap.size, 0, none⟩ = some (.string nm) ∧ u.cell? ⟨w.heap.size, 1, none⟩ = some (.int .i64 st) ∧ u.cell? ⟨w.heap.size, 2, none⟩ = some (.slice A l.length c)) ∧ (u.cell? ⟨w.heap.size + 1, 0, none⟩ = some (.string kb) ∧ u.cell? ⟨w.heap.size + 1, 1, none⟩ = some (.string ks))) := Lib.hid (fun u hu => by
          have J0 := K0.up hu; have J1 := K1.up hu
          exact ⟨⟨by simpa using J0.cell 0, by simpa using J0.cell 1, by simpa using J0.cell 2⟩, ⟨by simpa using J1.cell 0, by simpa using J1.cell 1⟩⟩)
        clear K0 K1
        have B0 := Below.refl w0.heap.size w0
        have H0 := b0
        obtain ⟨⟨k1_0_0, k1_0_1, k1_0_2⟩, ⟨k1_1_0, k1_1_1⟩⟩ := carry.out _ B0
        refine (laws_szMethod rfl (h.below H0 (Nat.le_refl _)) (by omega) (by omega) hm hb hnm).mono ?_; rw [HZ0.out]; rintro e w1 ⟨rfl, hb1⟩
        clear k1_0_0 k1_0_1 k1_0_2 k1_1_0 k1_1_1
        have sz1 : w0.heap.size ≤ w1.heap.size := hb1.size
        have B1 := B0.trans (hb1.mono B0.size)
        have H1 := b0.trans (B1.mono b0.size)
        obtain ⟨⟨k2_0_0, k2_0_1, k2_0_2⟩, ⟨k2_1_0, k2_1_1⟩⟩ := carry.out _ B1
        go_wp2_with fail
        refine (laws_szCalls (by omega) (by omega) hkb hks).mono ?_; rw [HZ1.out]; rintro e w2 ⟨rfl, hb2⟩
        go_wp2
        go_ret
        exact ⟨rfl, below_go H1 hb2⟩
    · unfold maxLen at ht
      have HZ0 : Hid (leftV 1048576 (szM nm l) = -1) := Lib.hid (by rw [← hZ0]; exact leftV_f (by omega))
      clear hZ0 hZ1 y0 y1
      have b0 : Below w.heap.size w ((w.alloc (.cells ⟨[.string nm, .int .i64 st, .slice A l.length c]⟩ 24)).alloc (.cells ⟨[.string kb, .string ks]⟩ 26)) := by (repeat' (first | (with_reducible exact Below.refl _ _) | (with_reducible assumption) | (with_reducible refine below_drewN ?_ _) | (with_reducible refine Below.drew ?_) | (with_reducible refine below_alloc ?_ _) | (with_reducible refine Below.alloc ?_ ?_ _) | (with_reducible refine Below.setCell ?_ ?_ _) | (with_reducible refine below_go ?_ (by with_reducible assumption)) | (with_reducible refine below_then (by with_reducible assumption) ?_ ?_) | go_size))
      have K0 := ((Blk.at_ w 24 [.string nm, .int .i64 st, .slice A l.length c] (b := w.heap.size) (by simp)).alloc (.cells ⟨[.string kb, .string ks]⟩ 26))
      have K1 := (Blk.at_ (w.alloc (.cells ⟨[.string nm, .int .i64 st, .slice A l.length c]⟩ 24)) 26 [.string kb, .string ks] (b := w.heap.size + 1) (by simp))
      go_in
      go_wp2_with fail
      obtain ⟨w0, hw0⟩ : ∃ u, u = ((w.alloc (.cells #[.string nm, .int .i64 st, .slice A l.length c] 24)).alloc (.cells #[.string kb, .string ks] 26)) := ⟨_, rfl⟩
      rw [← hw0] at b0 K0 K1 ⊢
      have z0 : w.heap.size + 2 ≤ w0.heap.size := by rw [hw0]; simp
      clear hw0
      have carry : Hid (∀ u : World, Below w0.heap.size w0 u → (u.cell? ⟨w.heap.size, 0, none⟩ = some (.string nm) ∧ u.cell? ⟨w.heap.size, 1, none⟩ = some (.int .i64 st) ∧ u.cell? ⟨w.heap.size, 2, none⟩ = some (.slice A l.length c)) ∧ (u.cell? ⟨w.heap.size + 1, 0, none⟩ = some (.string kb) ∧ u.cell? ⟨w.heap.size + 1, 1, none⟩ = some (.string ks))) := Lib.hid (fun u hu => by
        have J0 := K0.up hu; have J1 := K1.up hu
        exact ⟨⟨by simpa using J0.cell 0, by simpa using J0.cell 1, by simpa using J0.cell 2⟩, ⟨by simpa using J1.cell 0, by simpa using J1.cell 1⟩⟩)
      clear K0 K1
      have B0 := Below.refl w0.heap.size w0
      have H0 := b0
      obtain ⟨⟨k1_0_0, k1_0_1, k1_0_2⟩, ⟨k1_1_0, k1_1_1⟩⟩ := carry.out _ B0
      refine (laws_szMethod rfl (h.below H0 (Nat.le_refl _)) (by omega) (by omega) hm hb hnm).mono ?_; rw [HZ0.out]; rintro e w1 ⟨rfl, hb1⟩
      go_wp2
      go_ret
      exact ⟨rfl, below_go H0 hb1⟩
  · clear hZ0 hZ1 y0 y1
    unfold maxLen at ht
    have hT : (1048576 : Int) < (t.size : Int) := by omega
    go_in
    go_wp2
    go_ret
    exact ⟨rfl, by (repeat' (first | (with_reducible exact Below.refl _ _) | (with_reducible assumption) | (with_reducible refine below_drewN ?_ _) | (with_reducible refine Below.drew ?_) | (with_reducible refine below_alloc ?_ _) | (with_reducible refine Below.alloc ?_ ?_ _) | (with_reducible refine Below.setCell ?_ ?_ _) | (with_reducible refine below_go ?_ (by with_reducible assumption)) | (with_reducible refine below_then (by with_reducible assumption) ?_ ?_) | go_size))⟩
end Go.Proofs.YtmdmnjjlpefigaaGreat
