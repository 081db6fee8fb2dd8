/- The walk through FnExactReadProof: both sides give the same, the result is memory of its own. -/
import Derived.Test.YtoheahbkopbmhaaDoorW20x
import Derived.Test.YtoheahbkopbmhaaDoorCproof
namespace Go.Proofs.YtoheahbkopbmhaaDoor
set_option linter.unusedVariables false
set_option linter.unusedSimpArgs false
open Go.ChangeShapes Go.WideShapes Go.ChangeAt Go.RowKit Go.Deep
set_option maxHeartbeats 4000000 in
set_option maxRecDepth 100000 in
theorem law_ReadProof (s : ByteArray) (w : World) (_hs : s.size ≤ maxLen) (m : Int) (hm : w.cell? ⟨0, 0, none⟩ = some (.int .i64 m)) (hmw : 0 < w.heap.size) :
    Calls Tryd.prog 3 #[.string s] w fun e w' => e = .returned (.bool true) ∧ Below w.heap.size w w' := by
  clear _hs
  by_cases hz : s.size ≤ 1048576
  · have hI : ¬ ((1048576 : Int) < (s.size : Int)) := by omega
    have hlen := rp_len s
    obtain ⟨H, hH⟩ : ∃ H, H = (rpR s).1 := ⟨_, rfl⟩
    obtain ⟨M, hM⟩ : ∃ M, M = (rpR s).2 := ⟨_, rfl⟩
    obtain ⟨rb, hrb⟩ : ∃ b, b = rpOk s := ⟨_, rfl⟩
    have HI := Lib.hid (show ∀ u : World, Below w.heap.size w u → Calls Tryd.prog 5 #[.string s] u fun e w' => ∃ AH cH AL cL, e = .returned (.tuple #[.agg #[.slice AH H.length cH, .slice AL M.length cL], .bool rb]) ∧ Owned strE 1 9 w' u.heap.size AH H.length cH H ∧ Owned lineE 3 33 w' u.heap.size AL M.length cL M ∧ Below u.heap.size u w' from fun u hu => by
      rw [hH, hM, hrb]
      exact impl_ReadProof hz ((hu.cell (p := ⟨0, 0, none⟩) hmw).trans hm) (Nat.lt_of_lt_of_le hmw hu.size))
    have HS := Lib.hid (show Calls Tryd.prog 4 #[.string s] w fun e w' => ∃ AH cH AL cL, e = .returned (.tuple #[.agg #[.slice AH H.length cH, .slice AL M.length cL], .bool rb]) ∧ Owned strE 1 9 w' w.heap.size AH H.length cH H ∧ Owned lineE 3 33 w' w.heap.size AL M.length cL M ∧ Below w.heap.size w w' by
      rw [hH, hM, hrb]
      exact spec_ReadProof hz hm hmw)
    rw [← hH, ← hM] at hlen
    have hl1 := hlen.1
    have hl2 := hlen.2
    have hbb : (rb == rb) = true := by simp
    clear hH hM hrb hlen hm hmw
    go_in
    go_wp2_with fail
    refine (HS.out).mono ?_; rintro e w1 ⟨AW, cW, BW, dW, rfl, oW, oX, hb1⟩
    have hsW := hb1.size
    have b2 : Below w1.heap.size w1 (w1.alloc (.cells #[.slice AW H.length cW, .slice BW M.length dW] 25)) := by (repeat' (first | (with_reducible exact Below.refl _ _) | (with_reducible assumption) | (with_reducible refine below_drewN ?_ _) | (with_reducible refine Below.drew ?_) | (with_reducible refine below_alloc ?_ _) | (with_reducible refine Below.alloc ?_ ?_ _) | (with_reducible refine Below.setCell ?_ ?_ _) | (with_reducible refine below_go ?_ (by with_reducible assumption)) | (with_reducible refine below_then (by with_reducible assumption) ?_ ?_) | go_size))
    have K2 := Blk.at_ w1 25 [.slice AW H.length cW, .slice BW M.length dW] (b := w1.heap.size) rfl
    go_upto_region 4 with fail
    obtain ⟨pW, hpW⟩ : ∃ p, p = w1.heap.size := ⟨_, rfl⟩
    obtain ⟨w2, hw2⟩ : ∃ u, u = w1.alloc (.cells #[.slice AW H.length cW, .slice BW M.length dW] 25) := ⟨_, rfl⟩
    have hs2 : w2.heap.size = w1.heap.size + 1 := by rw [hw2]; simp
    rw [← hw2] at b2 K2
    rw [← hw2, ← hpW]
    rw [← hpW] at K2
    have HPW := Lib.hid hpW
    have HS2 := Lib.hid hs2
    have B2 := below_go hb1 b2
    have OW2 := Lib.hid (oW.up b2)
    have OX2 := Lib.hid (oX.up b2)
    have RW := Lib.hid oW.range
    have RX := Lib.hid oX.range
    clear hpW hw2 hs2 b2 oW oX hb1
    go_wp2_with fail
    refine (HI.out w2 B2).mono ?_; rintro e w3 ⟨AG, cG, BG, dG, rfl, oG, oGL, hb3⟩
    have hs23 := hb3.size
    have b4 : Below w3.heap.size w3 (w3.alloc (.cells #[.slice AG H.length cG, .slice BG M.length dG] 25)) := by (repeat' (first | (with_reducible exact Below.refl _ _) | (with_reducible assumption) | (with_reducible refine below_drewN ?_ _) | (with_reducible refine Below.drew ?_) | (with_reducible refine below_alloc ?_ _) | (with_reducible refine Below.alloc ?_ ?_ _) | (with_reducible refine Below.setCell ?_ ?_ _) | (with_reducible refine below_go ?_ (by with_reducible assumption)) | (with_reducible refine below_then (by with_reducible assumption) ?_ ?_) | go_size))
    have K4 := Blk.at_ w3 25 [.slice AG H.length cG, .slice BG M.length dG] (b := w3.heap.size) rfl
    go_upto_region 5 with fail
    obtain ⟨pG, hpG⟩ : ∃ p, p = w3.heap.size := ⟨_, rfl⟩
    obtain ⟨w4, hw4⟩ : ∃ u, u = w3.alloc (.cells #[.slice AG H.length cG, .slice BG M.length dG] 25) := ⟨_, rfl⟩
    rw [← hw4] at b4 K4
    rw [← hw4, ← hpG]
    rw [← hpG] at K4
    have B34 := hb3.trans (b4.mono hb3.size)
    have B4 := below_go B2 B34
    have K2' := K2.up B34
    have OW4 := Lib.hid (OW2.out.up B34)
    have OX4 := Lib.hid (OX2.out.up B34)
    have OG4 := Lib.hid (oG.up b4)
    have OL4 := Lib.hid (oGL.up b4)
    have hs24 : w2.heap.size ≤ w4.heap.size := B34.size
    clear hpG hw4 b4 oG oGL hb3 B34 K2 OW2 OX2
    have c0 := K2'.cell 0; have c1 := K2'.cell 1; have d0 := K4.cell 0; have d1 := K4.cell 1
    simp only [List.getElem?_cons_zero, List.getElem?_cons_succ] at c0 c1 d0 d1
    go_wp2_with fail
    refine (laws_eqProof _ _ _ _ _ _ _ _ _ _ _ _ _ _ _ _ _ rfl rfl rfl rfl OG4.out.recs OW4.out.recs OL4.out.recs OX4.out.recs (by omega) (by omega) (by omega) (by omega)).mono ?_
    rw [show (decide (H = H) && decide (M = M)) = true by simp]
    rintro e w5 ⟨rfl, hb5⟩
    have B5 := below_go B4 hb5
    have K2a := K2'.up hb5
    have K4a := K4.up hb5
    have OW5 := Lib.hid (OW4.out.up hb5)
    have OX5 := Lib.hid (OX4.out.up hb5)
    have OG5 := Lib.hid (OG4.out.up hb5)
    have OL5 := Lib.hid (OL4.out.up hb5)
    have hs25 : w2.heap.size ≤ w5.heap.size := Nat.le_trans hs24 hb5.size
    clear hb5 c0 c1 d0 d1 K2' K4 OW4 OX4 OG4 OL4 B4
    have d0 := K4a.cell 0; have d1 := K4a.cell 1
    simp only [List.getElem?_cons_zero, List.getElem?_cons_succ] at d0 d1
    go_wp2_with fail
    refine (laws_markProof _ _ _ _ _ _ w2.heap.size _ _ _ _ OG5.out OL5.out hs25 (by omega) (by omega) (by decide)).mono ?_
    rintro e w6 ⟨rfl, oG6, oL6, hb6, hF, hP⟩
    obtain ⟨v, hv⟩ : ∃ v : Int, v = 1 + (H.length : Int) + 3 * (M.length : Int) := ⟨_, rfl⟩
    rw [← hv]
    have hv0 : ¬ v < 0 := by omega
    have HV := Lib.hid hv
    have K2b := Lib.hid (hP _ _ _ K2a (ownNeBlk OG5.out K2a (by decide)) (ownNeBlk OL5.out K2a (by decide)))
    have K4b := Lib.hid (hP _ _ _ K4a (ownNeBlk OG5.out K4a (by decide)) (ownNeBlk OL5.out K4a (by decide)))
    have OW6 := Lib.hid (hF _ _ _ _ _ _ _ _ _ OW5.out (fun k hk => ⟨fun e => by have a1 := (RW.out k hk).2; have a2 := (OG5.out.blk e).1; have a3 := HS2.out; omega, fun e => by have a1 := (RW.out k hk).2; have a2 := (OL5.out.blk e).1; have a3 := HS2.out; omega⟩))
    have OX6 := Lib.hid (hF _ _ _ _ _ _ _ _ _ OX5.out (fun k hk => ⟨fun e => by have a1 := (RX.out k hk).2; have a2 := (OG5.out.blk e).1; have a3 := HS2.out; omega, fun e => by have a1 := (RX.out k hk).2; have a2 := (OL5.out.blk e).1; have a3 := HS2.out; omega⟩))
    have OG6 := Lib.hid oG6
    have OL6 := Lib.hid oL6
    have B6 : Below w.heap.size w w6 := B5.trans (hb6.mono (by have := B2.size; omega))
    clear hv oG6 oL6 hb6 hF hP d0 d1 K2a K4a OW5 OX5 OG5 OL5
    have d0 := K4b.out.cell 0; have d1 := K4b.out.cell 1
    simp only [List.getElem?_cons_zero, List.getElem?_cons_succ] at d0 d1
    go_wp2_with fail
    refine (laws_heldProof _ _ _ _ _ _ 1 _ OG6.out.recs OL6.out.recs (by omega) (by omega) (by decide)).mono ?_
    rw [← HV.out]
    rintro e w7 ⟨rfl, hb7⟩
    have B7 := below_go B6 hb7
    have K2c := Lib.hid (K2b.out.up hb7)
    have K4c := Lib.hid (K4b.out.up hb7)
    have OW7 := Lib.hid (OW6.out.up hb7)
    have OX7 := Lib.hid (OX6.out.up hb7)
    have OG7 := Lib.hid (OG6.out.up hb7)
    have OL7 := Lib.hid (OL6.out.up hb7)
    clear hb7 d0 d1 K2b K4b OW6 OX6 OG6 OL6
    go_wp2_with fail
    refine (HI.out w7 B7).mono ?_; rintro e w8 ⟨AY, cY, BY, dY, rfl, oY, oYL, hb8⟩
    have hs78 := hb8.size
    have b9 : Below w8.heap.size w8 (w8.alloc (.cells #[.slice AY H.length cY, .slice BY M.length dY] 25)) := by (repeat' (first | (with_reducible exact Below.refl _ _) | (with_reducible assumption) | (with_reducible refine below_drewN ?_ _) | (with_reducible refine Below.drew ?_) | (with_reducible refine below_alloc ?_ _) | (with_reducible refine Below.alloc ?_ ?_ _) | (with_reducible refine Below.setCell ?_ ?_ _) | (with_reducible refine below_go ?_ (by with_reducible assumption)) | (with_reducible refine below_then (by with_reducible assumption) ?_ ?_) | go_size))
    have K9 := Blk.at_ w8 25 [.slice AY H.length cY, .slice BY M.length dY] (b := w8.heap.size) rfl
    go_upto_region 16 with fail
    obtain ⟨pY, hpY⟩ : ∃ p, p = w8.heap.size := ⟨_, rfl⟩
    obtain ⟨w9, hw9⟩ : ∃ u, u = w8.alloc (.cells #[.slice AY H.length cY, .slice BY M.length dY] 25) := ⟨_, rfl⟩
    rw [← hw9] at b9 K9
    rw [← hw9, ← hpY]
    rw [← hpY] at K9
    have B89 := hb8.trans (b9.mono hb8.size)
    have B9 := below_go B7 B89
    have K2d := K2c.out.up B89
    have K4d := Lib.hid (K4c.out.up B89)
    have OW9 := Lib.hid (OW7.out.up B89)
    have OX9 := Lib.hid (OX7.out.up B89)
    have OG9 := Lib.hid (OG7.out.up B89)
    have OL9 := Lib.hid (OL7.out.up B89)
    have OY9 := Lib.hid (oY.up b9)
    have OZ9 := Lib.hid (oYL.up b9)
    clear hpY hw9 b9 oY oYL hb8 B89 K2c K4c OW7 OX7 OG7 OL7
    have c0 := K2d.cell 0; have c1 := K2d.cell 1; have d0 := K9.cell 0; have d1 := K9.cell 1
    simp only [List.getElem?_cons_zero, List.getElem?_cons_succ] at c0 c1 d0 d1
    go_wp2_with fail
    refine (laws_eqProof _ _ _ _ _ _ _ _ _ _ _ _ _ _ _ _ _ rfl rfl rfl rfl OY9.out.recs OW9.out.recs OZ9.out.recs OX9.out.recs (by omega) (by omega) (by omega) (by omega)).mono ?_
    rw [show (decide (H = H) && decide (M = M)) = true by simp]
    rintro e w10 ⟨rfl, hb10⟩
    have B10 := below_go B9 hb10
    have K4e := K4d.out.up hb10
    have OG10 := OG9.out.up hb10
    have OL10 := OL9.out.up hb10
    clear c0 c1 d0 d1 hb10 K2d K9
    have d0 := K4e.cell 0; have d1 := K4e.cell 1
    simp only [List.getElem?_cons_zero, List.getElem?_cons_succ] at d0 d1
    go_wp2_with fail
    refine (laws_heldProof _ _ _ _ _ _ 1 _ OG10.recs OL10.recs (by omega) (by omega) (by decide)).mono ?_
    rw [← HV.out]
    rintro e w11 ⟨rfl, hb11⟩
    go_wp2
    go_ret
    exact ⟨rfl, below_go B10 hb11⟩
  · have hI : (1048576 : Int) < (s.size : Int) := by omega
    go_in
    go_wp2
    go_ret
    exact ⟨rfl, Below.refl _ _⟩
end Go.Proofs.YtoheahbkopbmhaaDoor
