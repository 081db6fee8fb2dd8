/- Texts 7 of 7 that the claim leans on: plain laws and the walks' contracts, in order. -/
import Derived.Test.YtidolgonmimicaaGreatMParts6
/- The walks through the generator of spoilt texts. -/
namespace Go.Proofs.YtidolgonmimicaaGreat
set_option linter.unusedVariables false
set_option linter.unusedSimpArgs false
open Go.ChangeShapes Go.WideShapes Go.ChangeAt Go.RowKit Go.Deep
set_option maxHeartbeats 1000000 in
set_option maxRecDepth 100000 in
theorem cur_spoilt {A : Option Addr} {n c a p B : Nat} {t v : ByteArray} {w0 w : World} (hS : Src w0 A n) (hb : Below w0.heap.size w0 w) (hp : w0.heap.size ≤ p) (hc : Cur w p A n c a) (ha : a ≤ 1000000) (ht : t.size ≤ B) (hB : B ≤ 40000) (hv0 : 0 < v.size) (hv : v.size ≤ 200) :
    Calls Tryz.prog 73 #[.pointer (some ⟨p, 0, none⟩), .string t, .string v] w fun e w' => ∃ s : ByteArray, e = .returned (.string s) ∧ s.size ≤ B + 2 ∧ Cur w' p A n c (a + 20) ∧ w.grownBy w' (some p) := by
  have HS := Lib.hid hS
  have G : Hid (∀ u : World, w.grownBy u (some p) → Below w0.heap.size w0 u) := Lib.hid (fun u hg => grown_below hb hp hg)
  go_in
  go_wp2_with fail
  refine (cur_pick hS hb hp hc (by omega) (by decide) (by decide)).mono ?_; rintro e w1 ⟨x, rfl, ⟨x0, x1⟩, hc1, hg1⟩
  obtain ⟨k0, rfl⟩ := Int.eq_ofNat_of_zero_le x0
  have hk0 : k0 ≤ 1 := by omega
  have hk1 : (1 : Int) + (k0 : Int) = ((k0 + 1 : Nat) : Int) := by omega
  clear hS x0 x1
  go_wp2
  go_loopw [1, 7, 8, 9, 44, 55] (fun vt vn _ _ _ _ wr => ∃ (k : Nat) (s : ByteArray), vt = .string s ∧ vn = .int .i64 k ∧ k ≤ 2 ∧ s.size + k ≤ B + 2 ∧ Cur wr p A n c (a + 1 + 5 * (2 - k)) ∧ Hid (w.grownBy wr (some p))) (fun _ vn _ _ _ _ _ => (intOf vn).toNat)
  case atStart => exact ⟨k0 + 1, t, rfl, rfl, by omega, by omega, hc1.mono (by omega), Lib.hid hg1⟩
  case round =>
    obtain ⟨k, s, rfl, rfl, hk, hs, hc, HG⟩ := hrel
    rename World => wr
    by_cases h0 : 0 < k
    · have hI : (k : Int) > 0 := by omega
      by_cases h1 : 0 < s.size
      · have hJ : (s.size : Int) > 0 := by omega
        go_wp2_with fail
        refine (cur_pickL HS.out (G.out _ HG.out) hp hc (by omega) (by omega) (by omega)).mono ?_; rintro e w2 ⟨y, rfl, ⟨y0, y1⟩, hc2, hg2⟩
        obtain ⟨i, rfl⟩ := Int.eq_ofNat_of_zero_le y0
        have hi : i < s.size := by omega
        have HG2 := Lib.hid (grownBy_trans HG.out hg2)
        clear y0 y1 hg2 HG hc
        go_wp2_with fail
        refine (cur_pick HS.out (G.out _ HG2.out) hp hc2 (by omega) (by omega) (by omega)).mono ?_; rintro e w3 ⟨z, rfl, ⟨z0, z1⟩, hc3, hg3⟩
        obtain ⟨j, rfl⟩ := Int.eq_ofNat_of_zero_le z0
        have hj : j < v.size := by omega
        have HG3 := Lib.hid (grownBy_trans HG2.out hg3)
        clear z0 z1 hg3 HG2 hc2
        have cv : ∀ x : Int, (convert 22 9 (.slice (some ⟨w3.heap.size, 0, none⟩) 1 1)).run Tryz.prog (w3.alloc (.cells #[.int .u8 x] 5)) = .ok (.string (strOfNums [x])) (w3.alloc (.cells #[.int .u8 x] 5)) := fun x =>
          run_convert_bytes_arg _ 22 5 Tryz.underlying22 Tryz.underlying5 w3.heap.size 0 1 1 [x] rfl (fun i hi => by
            obtain rfl : i = 0 := by omega
            exact (Blk.at_ w3 5 [.int .u8 x] rfl).cell 0) 9 Tryz.underlying9
        have hbA : ∀ x : Int, Below w3.heap.size w3 (w3.alloc (.cells #[.int .u8 x] 5)) := fun x => below_alloc (Below.refl _ _) _
        go_wp2_with fail
        obtain ⟨x5, hx5⟩ : ∃ x : Int, x = ((v[j].toNat : Nat) : Int) := ⟨_, rfl⟩
        rw [← hx5]
        obtain ⟨W, hW⟩ : ∃ W, W = strOfNums [x5] := ⟨_, rfl⟩
        have hW1 : W.size = 1 := by rw [hW]; rfl
        rw [← hW]
        have hb4 := hbA x5
        obtain ⟨w4, hw4⟩ : ∃ u, u = w3.alloc (.cells #[.int .u8 x5] 5) := ⟨_, rfl⟩
        rw [← hw4] at hb4 ⊢
        have hc4 := hc3.up hb4
        have HG4 := Lib.hid (grownBy_trans HG3.out (grown_any hb4 _))
        clear cv hbA hx5 hW hw4 hc3 HG3 hb4
        refine (cur_pick HS.out (G.out _ HG4.out) hp hc4 (by omega) (by decide) (by decide)).mono ?_; rintro e w5 ⟨z, rfl, ⟨z0, z1⟩, hc5, hg5⟩
        have HG5 := Lib.hid (grownBy_trans HG4.out hg5)
        clear hg5 HG4 hc4
        have hsI : ¬ 9223372036854775807 < i + 1 := by omega
        have hsI2 : ¬ 9223372036854775807 < i + 1 + (s.size - i) := by omega
        have hsI3 : ¬ 9223372036854775807 < i + 1 + (s.size - (i + 1)) := by omega
        have hsI4 : ¬ 9223372036854775807 < i + (s.size - (i + 1)) := by omega
        have hz3 : z = 0 ∨ z = 1 ∨ z = 2 := by omega
        rcases hz3 with rfl | rfl | rfl
        · have hsz : (s.extract 0 i ++ W ++ s.extract i s.size).size + (k - 1) ≤ B + 2 := by simp only [ByteArray.size_append, ByteArray.size_extract]; omega
          clear hsI hsI2 hsI3 hsI4 z0 z1
          have hq1 : ¬ 9223372036854775807 < (s.extract 0 i).size + W.size := by simp only [ByteArray.size_extract]; omega
          go_wp2
          go_quiet (fail)
          go_wp2
          go_roundw
          case rel => exact ⟨k - 1, s.extract 0 i ++ W ++ s.extract i s.size, rfl, by go_num, by omega, hsz, (hc5.up (below_drewN (Below.refl _ _) _)).mono (by omega), Lib.hid (grownBy_trans HG5.out (grown_any (below_drewN (Below.refl _ _) _) _))⟩
          case measure => simp [intOf]; omega
        · have hsz : (s.extract 0 i ++ W ++ s.extract (i + 1) s.size).size + (k - 1) ≤ B + 2 := by simp only [ByteArray.size_append, ByteArray.size_extract]; omega
          clear hsI hsI2 hsI3 hsI4 z0 z1
          have hq1 : ¬ 9223372036854775807 < (s.extract 0 i).size + W.size := by simp only [ByteArray.size_extract]; omega
          go_wp2
          go_quiet (fail)
          go_wp2
          go_roundw
          case rel => exact ⟨k - 1, s.extract 0 i ++ W ++ s.extract (i + 1) s.size, rfl, by go_num, by omega, hsz, (hc5.up (below_drewN (Below.refl _ _) _)).mono (by omega), Lib.hid (grownBy_trans HG5.out (grown_any (below_drewN (Below.refl _ _) _) _))⟩
          case measure => simp [intOf]; omega
        · have hsz : (s.extract 0 i ++ s.extract (i + 1) s.size).size + (k - 1) ≤ B + 2 := by simp only [ByteArray.size_append, ByteArray.size_extract]; omega
          clear hsI hsI2 hsI3 hsI4 z0 z1
          have hq1 : ¬ 9223372036854775807 < (s.extract 0 i).size + W.size := by simp only [ByteArray.size_extract]; omega
          go_wp2
          go_quiet (fail)
          go_wp2
          go_roundw
          case rel => exact ⟨k - 1, s.extract 0 i ++ s.extract (i + 1) s.size, rfl, by go_num, by omega, hsz, (hc5.up (below_drewN (Below.refl _ _) _)).mono (by omega), Lib.hid (grownBy_trans HG5.out (grown_any (below_drewN (Below.refl _ _) _) _))⟩
          case measure => simp [intOf]; omega
      · have hJ : ¬ (s.size : Int) > 0 := by omega
        go_wp2
        go_ret
        exact ⟨s, rfl, by omega, hc.mono (by omega), HG.out⟩
    · have hI : ¬ (k : Int) > 0 := by omega
      go_wp2
      go_ret
      exact ⟨s, rfl, by omega, hc.mono (by omega), HG.out⟩
end Go.Proofs.YtidolgonmimicaaGreat
/- The draw of FnParts. -/
namespace Go.Proofs.YtidolgonmimicaaGreat
set_option linter.unusedVariables false
set_option linter.unusedSimpArgs false
open Go.ChangeShapes Go.WideShapes Go.ChangeAt Go.RowKit Go.Deep
theorem drM_f12 {nm : ByteArray} {st : Nat} {L : List ByteArray} (h : drM nm st L) : nm.size ≤ 16777216 ∧ st ≤ 1000 ∧ L.length ≤ 1048576 ∧ (∀ s ∈ L, s.size ≤ 16777216) ∧ I64 (st : Int) := by
  obtain ⟨h1, h2, h3, h4, h5⟩ := h
  exact ⟨by omega, by omega, by omega, fun s hs => by have := h5 s hs; omega, by constructor <;> omega⟩
set_option maxHeartbeats 4000000 in
set_option maxRecDepth 100000 in
theorem draw_TrueByParts {A : Option Addr} {n c : Nat} {w : World} (hS : Src w A n) :
    Calls Tryz.prog 40 #[.slice A n c] w fun e w' => ∃ (nm : ByteArray) (st : Nat) (A1 : Option Addr) (n1 c1 : Nat) (L : List ByteArray) (kb ks t : ByteArray), e = .returned (.tuple #[.agg #[.string nm, .int .i64 st, .slice A1 n1 c1], .agg #[.string kb, .string ks], .string t]) ∧ drM nm st L ∧ kb.size ≤ 8 ∧ ks.size ≤ 8 ∧ t.size ≤ 61 ∧ Owned strE 1 9 w' w.heap.size A1 n1 c1 L ∧ Below w.heap.size w w' := by
  have R := ((Blk.at_ w 25 [.string ⟨#[]⟩, .int .i64 0, .slice none 0 0] (b := w.heap.size) rfl).alloc (.cells #[.string ⟨#[]⟩, .string ⟨#[]⟩] 27)).alloc (.cells #[.slice A n c, .int .i64 0, .int .u64 0] 87)
  have Q := (Blk.at_ (w.alloc (.cells #[.string ⟨#[]⟩, .int .i64 0, .slice none 0 0] 25)) 27 [.string ⟨#[]⟩, .string ⟨#[]⟩] (b := w.heap.size + 1) (by simp)).alloc (.cells #[.slice A n c, .int .i64 0, .int .u64 0] 87)
  have c0 := cur_fresh ((w.alloc (.cells #[.string ⟨#[]⟩, .int .i64 0, .slice none 0 0] 25)).alloc (.cells #[.string ⟨#[]⟩, .string ⟨#[]⟩] 27)) A n c
  rw [show ((w.alloc (.cells #[.string ⟨#[]⟩, .int .i64 0, .slice none 0 0] 25)).alloc (.cells #[.string ⟨#[]⟩, .string ⟨#[]⟩] 27)).heap.size = w.heap.size + 2 by simp] at c0
  have b0 : Below w.heap.size w (((w.alloc (.cells #[.string ⟨#[]⟩, .int .i64 0, .slice none 0 0] 25)).alloc (.cells #[.string ⟨#[]⟩, .string ⟨#[]⟩] 27)).alloc (.cells #[.slice A n c, .int .i64 0, .int .u64 0] 87)) := by (repeat' (first | (with_reducible exact Below.refl _ _) | (with_reducible assumption) | (with_reducible refine below_drewN ?_ _) | (with_reducible refine Below.drew ?_) | (with_reducible refine below_alloc ?_ _) | (with_reducible refine Below.alloc ?_ ?_ _) | (with_reducible refine Below.setCell ?_ ?_ _) | (with_reducible refine below_go ?_ (by with_reducible assumption)) | (with_reducible refine below_then (by with_reducible assumption) ?_ ?_) | go_size))
  have HS := Lib.hid hS
  have hp0 : w.heap.size ≤ w.heap.size + 2 := by omega
  clear hS
  go_in
  go_wp2_with fail
  obtain ⟨w1, hw1⟩ : ∃ u, u = (((w.alloc (.cells #[.string ⟨#[]⟩, .int .i64 0, .slice none 0 0] 25)).alloc (.cells #[.string ⟨#[]⟩, .string ⟨#[]⟩] 27)).alloc (.cells #[.slice A n c, .int .i64 0, .int .u64 0] 87)) := ⟨_, rfl⟩
  have z1 : w1.heap.size = w.heap.size + 3 := by rw [hw1]; simp
  rw [← hw1] at b0 R Q c0 ⊢
  clear hw1
  refine (cur_anyMethod HS.out b0 hp0 c0 (by omega)).mono ?_; rintro e w2 ⟨nm, st, A2, m, c2, L, rfl, hdr, ho2, hc2, hg2⟩
  have s2 := hg2.size
  have K := Blk.at_ w2 25 [.string nm, .int .i64 (st : Int), .slice A2 m c2] (b := w2.heap.size) rfl
  replace R := R.grown hg2 (fun e => by injection e with e; omega)
  replace Q := Q.grown hg2 (fun e => by injection e with e; omega)
  have HO := Lib.hid ho2
  have HB := Lib.hid (grown_below b0 hp0 hg2)
  have HC := Lib.hid hc2
  have HDR := Lib.hid hdr
  have hdf := drM_f12 hdr
  have HLl := Lib.hid ho2.len
  have a2 : Below w2.heap.size w2 (w2.alloc (.cells #[.string nm, .int .i64 (st : Int), .slice A2 m c2] 25)) := by (repeat' (first | (with_reducible exact Below.refl _ _) | (with_reducible assumption) | (with_reducible refine below_drewN ?_ _) | (with_reducible refine Below.drew ?_) | (with_reducible refine below_alloc ?_ _) | (with_reducible refine Below.alloc ?_ ?_ _) | (with_reducible refine Below.setCell ?_ ?_ _) | (with_reducible refine below_go ?_ (by with_reducible assumption)) | (with_reducible refine below_then (by with_reducible assumption) ?_ ?_) | go_size))
  replace R := R.up a2
  replace Q := Q.up a2
  replace HO := Lib.hid (HO.out.up a2)
  replace HC := Lib.hid (HC.out.up a2)
  replace HB := Lib.hid (below_go HB.out a2)
  rw [z1] at HO
  obtain ⟨b, hb⟩ : ∃ b, b = w2.heap.size := ⟨_, rfl⟩
  have hbz : w.heap.size + 3 ≤ b := by omega
  clear c0 b0 ho2 hc2 hg2 hdr a2 s2
  go_upto_region 3 with fail
  obtain ⟨w3, hw3⟩ : ∃ u, u = w2.alloc (.cells #[.string nm, .int .i64 (st : Int), .slice A2 m c2] 25) := ⟨_, rfl⟩
  rw [← hw3] at K R Q HO HC HB ⊢
  rw [← hb] at K ⊢
  clear hw3 hb z1
  have kc0 := K.cell 0; have kc1 := K.cell 1; have kc2 := K.cell 2
  simp only [List.getElem?_cons_zero, List.getElem?_cons_succ] at kc0 kc1 kc2
  go_wp2_with fail
  have hb3 := K.lt
  refine (cur_anyCalls HS.out HB.out hp0 HC.out (by omega) HLl.out HO.out.recs (by have := HLl.out; omega) hdf.2.2.2.1 hdf.1 hdf.2.2.2.2).mono ?_; rintro e w4 ⟨kb, ks, rfl, zkb, zks, hc4, hg4⟩
  have s4 := hg4.size
  clear kc0 kc1 kc2
  replace K := K.grown hg4 (fun e => by injection e with e; omega)
  replace R := R.grown hg4 (fun e => by injection e with e; omega)
  replace Q := Q.grown hg4 (fun e => by injection e with e; omega)
  replace HO := Lib.hid (HO.out.past hg4 (by omega))
  replace HB := Lib.hid (grown_below HB.out hp0 hg4)
  replace HC := Lib.hid hc4
  clear hg4 hc4
  have J := Blk.at_ w4 27 [.string kb, .string ks] (b := w4.heap.size) rfl
  have a4 : Below w4.heap.size w4 (w4.alloc (.cells #[.string kb, .string ks] 27)) := by (repeat' (first | (with_reducible exact Below.refl _ _) | (with_reducible assumption) | (with_reducible refine below_drewN ?_ _) | (with_reducible refine Below.drew ?_) | (with_reducible refine below_alloc ?_ _) | (with_reducible refine Below.alloc ?_ ?_ _) | (with_reducible refine Below.setCell ?_ ?_ _) | (with_reducible refine below_go ?_ (by with_reducible assumption)) | (with_reducible refine below_then (by with_reducible assumption) ?_ ?_) | go_size))
  replace K := K.up a4
  replace R := R.up a4
  replace Q := Q.up a4
  replace HO := Lib.hid (HO.out.up a4)
  replace HC := Lib.hid (HC.out.up a4)
  replace HB := Lib.hid (below_go HB.out a4)
  obtain ⟨d, hd⟩ : ∃ b, b = w4.heap.size := ⟨_, rfl⟩
  have hdz : b < d := by omega
  clear a4 s4
  go_upto_region 4 with fail
  obtain ⟨w5, hw5⟩ : ∃ u, u = w4.alloc (.cells #[.string kb, .string ks] 27) := ⟨_, rfl⟩
  rw [← hw5] at K J R Q HO HC HB ⊢
  rw [← hd] at J ⊢
  clear hw5 hd
  go_wp2_with fail
  have hd3 := J.lt
  refine (cur_one HS.out HB.out hp0 HC.out (by omega) (by decide) (by decide)).mono ?_; rintro e w6 ⟨q1, rfl, hc6, hg6⟩
  have s6 := hg6.size
  replace K := K.grown hg6 (fun e => by injection e with e; omega)
  replace J := J.grown hg6 (fun e => by injection e with e; omega)
  replace R := R.grown hg6 (fun e => by injection e with e; omega)
  replace Q := Q.grown hg6 (fun e => by injection e with e; omega)
  replace HO := Lib.hid (HO.out.past hg6 (by omega))
  replace HB := Lib.hid (grown_below HB.out hp0 hg6)
  replace HC := Lib.hid hc6
  clear hg6 hc6
  rcases q1
  · skip
    have carO : Hid (∀ u : World, w6.grownBy u (some (w.heap.size + 2)) → u.cell? ⟨b, 0, none⟩ = some (.string nm) ∧ u.cell? ⟨b, 1, none⟩ = some (.int .i64 (st : Int)) ∧ u.cell? ⟨b, 2, none⟩ = some (.slice A2 m c2) ∧ u.cell? ⟨d, 0, none⟩ = some (.string kb) ∧ u.cell? ⟨d, 1, none⟩ = some (.string ks)) := Lib.hid (fun u hu => by
      have L0 := K.grown hu (fun e => by injection e with e; omega)
      have L1 := J.grown hu (fun e => by injection e with e; omega)
      exact ⟨by simpa using L0.cell 0, by simpa using L0.cell 1, by simpa using L0.cell 2, by simpa using L1.cell 0, by simpa using L1.cell 1⟩)
    have C0 : w6.grownBy w6.drew (some (w.heap.size + 2)) := grown_any (Below.refl _ _).drew _
    go_upto_region 6 with fail
    refine wp_region_held_drew (S := fun u => u.cell? ⟨b, 0, none⟩ = some (.string nm) ∧ u.cell? ⟨b, 1, none⟩ = some (.int .i64 (st : Int)) ∧ u.cell? ⟨b, 2, none⟩ = some (.slice A2 m c2) ∧ u.cell? ⟨d, 0, none⟩ = some (.string kb) ∧ u.cell? ⟨d, 1, none⟩ = some (.string ks)) (by kernel_rfl) (carO.out _ C0) (fun hHeld => ?_)
    refine wpAnyH_take (i := 0) (oi := { dst := some 22, op := _, type := _, pos := _, after := _, guard := _ }) (v := ?_) rfl (by kernel_rfl) (by kernel_rfl) (by kernel_rfl) (fun _ _ _ h => h) (Or.inl ⟨by rfl, ?_⟩) (by assumption) ?_
    rotate_left
    · (intro w hSw; (try dsimp only at hSw); go_simp) <;> with_reducible rfl
    (try simp only [Act.put, List.setIfInBounds_toArray, List.set_cons_zero, List.set_cons_succ])
    refine wpAnyH_take (i := 1) (oi := { dst := some 23, op := _, type := _, pos := _, after := _, guard := _ }) (v := ?_) rfl (by kernel_rfl) (by kernel_rfl) (by kernel_rfl) (fun _ _ _ h => h) (Or.inl ⟨by rfl, ?_⟩) (by assumption) ?_
    rotate_left
    · (intro w hSw; (try dsimp only at hSw); go_simp) <;> with_reducible rfl
    (try simp only [Act.put, List.setIfInBounds_toArray, List.set_cons_zero, List.set_cons_succ])
    refine wpAnyH_take (i := 2) (oi := { dst := some 24, op := _, type := _, pos := _, after := _, guard := _ }) (v := ?_) rfl (by kernel_rfl) (by kernel_rfl) (by kernel_rfl) (fun _ _ _ h => h) (Or.inl ⟨by rfl, ?_⟩) (by assumption) ?_
    rotate_left
    · (intro w hSw; (try dsimp only at hSw); go_simp) <;> with_reducible rfl
    (try simp only [Act.put, List.setIfInBounds_toArray, List.set_cons_zero, List.set_cons_succ])
    refine wpAnyH_ready (rs := [3]) (by kernel_rfl) (by simp) ?_
    refine AllReadyH.cons (o := _) rfl (fun K hK => ?_) AllReadyH.nil
    go_simp
    refine (cur_touch (M := 4) HS.out (grown_below HB.out hp0 C0) hp0 (HC.out.up (Below.refl _ _).drew) (by omega) (by decide) (by decide)).mono ?_; rintro e w7 ⟨t, rfl, _, ht1, hts, hc7, hg7⟩
    have hg7 := grownBy_trans C0 hg7
    try go_wp2_with fail
    refine hK.out _ _ (carO.out _ hg7) (fun hHeld => ?_)
    clear hK K
    (try simp only [Act.put, List.setIfInBounds_toArray, List.set_cons_zero, List.set_cons_succ])
    clear carO C0
    replace K := K.grown hg7 (fun e => by injection e with e; omega)
    replace J := J.grown hg7 (fun e => by injection e with e; omega)
    replace R := R.grown hg7 (fun e => by injection e with e; omega)
    replace Q := Q.grown hg7 (fun e => by injection e with e; omega)
    replace HO := Lib.hid (HO.out.past hg7 (by omega))
    replace HB := Lib.hid (grown_below HB.out hp0 hg7)
    replace HC := Lib.hid hc7
    clear hg7 hc7
    have rc0 := R.cell 0; have rc1 := R.cell 1; have rc2 := R.cell 2
    have rf0 := R.frozen 0; have rf1 := R.frozen 1; have rf2 := R.frozen 2
    have yc0 := Q.cell 0; have yc1 := Q.cell 1
    have yf0 := Q.frozen 0; have yf1 := Q.frozen 1
    simp only [List.getElem?_cons_zero, List.getElem?_cons_succ] at rc0 rc1 rc2 yc0 yc1
    have cS : Hid (∀ u : World, Blk u b 25 [.string nm, .int .i64 (st : Int), .slice A2 m c2] → Blk u d 27 [.string kb, .string ks] → u.cell? ⟨b, 0, none⟩ = some (.string nm) ∧ u.cell? ⟨b, 1, none⟩ = some (.int .i64 (st : Int)) ∧ u.cell? ⟨b, 2, none⟩ = some (.slice A2 m c2) ∧ u.cell? ⟨d, 0, none⟩ = some (.string kb) ∧ u.cell? ⟨d, 1, none⟩ = some (.string ks)) := Lib.hid (fun u L0 L1 => ⟨by simpa using L0.cell 0, by simpa using L0.cell 1, by simpa using L0.cell 2, by simpa using L1.cell 0, by simpa using L1.cell 1⟩)
    have q1 := sets3_grown w7 w.heap.size (.string nm) (.int .i64 (st : Int)) (.slice A2 m c2)
    have R1 := ((R.set_ 0 (.string nm)).set_ 1 (.int .i64 (st : Int))).set_ 2 (.slice A2 m c2)
    have Y1 := Q.grown q1 (fun e => by injection e with e; omega)
    have K1 := K.grown q1 (fun e => by injection e with e; omega)
    have J1 := J.grown q1 (fun e => by injection e with e; omega)
    have hbs := HB.out.size
    have HB1 := Lib.hid (HB.out.grown q1 hbs (fun k e => by injection e with e; omega))
    have HO1 := Lib.hid (HO.out.past q1 (by omega))
    obtain ⟨wA, hwA⟩ : ∃ u, u = ((w7.setCell ⟨w.heap.size, 0, none⟩ (.string nm)).setCell ⟨w.heap.size, 1, none⟩ (.int .i64 (st : Int))).setCell ⟨w.heap.size, 2, none⟩ (.slice A2 m c2) := ⟨_, rfl⟩
    rw [← hwA] at R1 Y1 K1 J1 HB1 HO1
    refine wpAnyH_ready (rs := [4]) (by kernel_rfl) (by simp) ?_
    refine AllReadyH.cons (o := _) rfl (fun K0 hK0 => ?_) AllReadyH.nil
    go_simp
    try rw [← hwA]
    refine hK0.out _ _ (cS.out _ K1 J1) (fun hHeld1 => ?_)
    clear hK0 K0 rc0 rc1 rc2 rf0 rf1 rf2 yc0 yc1 yf0 yf1 R Q K J hHeld hwA q1
    (try simp only [Act.put, List.setIfInBounds_toArray, List.set_cons_zero, List.set_cons_succ])
    have yc0 := Y1.cell 0; have yc1 := Y1.cell 1
    have yf0 := Y1.frozen 0; have yf1 := Y1.frozen 1
    simp only [List.getElem?_cons_zero, List.getElem?_cons_succ] at yc0 yc1
    have q2 := sets2_grown wA (w.heap.size + 1) (.string kb) (.string ks)
    have R2 := R1.grown q2 (fun e => by injection e with e; omega)
    have Y2 := (Y1.set_ 0 (.string kb)).set_ 1 (.string ks)
    have K2 := K1.grown q2 (fun e => by injection e with e; omega)
    have J2 := J1.grown q2 (fun e => by injection e with e; omega)
    have HB2 := Lib.hid (HB1.out.grown q2 HB1.out.size (fun k e => by injection e with e; omega))
    have HO2 := Lib.hid (HO1.out.past q2 (by omega))
    obtain ⟨wB, hwB⟩ : ∃ u, u = (wA.setCell ⟨w.heap.size + 1, 0, none⟩ (.string kb)).setCell ⟨w.heap.size + 1, 1, none⟩ (.string ks) := ⟨_, rfl⟩
    rw [← hwB] at R2 Y2 K2 J2 HB2 HO2
    refine wpAnyH_ready (rs := [5]) (by kernel_rfl) (by simp) ?_
    refine AllReadyH.cons (o := _) rfl (fun K0 hK0 => ?_) AllReadyH.nil
    go_simp
    try rw [← hwB]
    refine hK0.out _ _ (cS.out _ K2 J2) (fun hHeld2 => ?_)
    clear hK0 K0 yc0 yc1 yf0 yf1 hHeld1 hwB q2
    (try simp only [Act.put, List.setIfInBounds_toArray, List.set_cons_zero, List.set_cons_succ])
    refine wpAnyH_ready (rs := [6]) (by kernel_rfl) (by simp) ?_
    refine AllReadyH.cons (o := _) rfl (fun K0 hK0 => ?_) AllReadyH.nil
    go_simp
    refine hK0.out _ _ (cS.out _ K2 J2) (fun hHeld3 => ?_)
    clear hK0 K0 hHeld3
    (try simp only [Act.put, List.setIfInBounds_toArray, List.set_cons_zero, List.set_cons_succ])
    refine wpAnyH_done (by kernel_rfl) ?_ _
    (try simp only [Act.put, List.setIfInBounds_toArray, List.set_cons_zero, List.set_cons_succ])
    have u0 := R2.cell 0; have u1 := R2.cell 1; have u2 := R2.cell 2
    have v0 := Y2.cell 0; have v1 := Y2.cell 1
    simp only [List.set_cons_zero, List.set_cons_succ, List.getElem?_cons_zero, List.getElem?_cons_succ] at u0 u1 u2 v0 v1
    clear R1 R2 Y1 Y2 K1 J1 K2 J2 HC HB1 HO1
    go_wp2_with fail
    refine bodyPost_ret (v := .tuple #[.agg #[.string nm, .int .i64 (st : Int), .slice A2 m c2], .agg #[.string kb, .string ks], .string t]) (by simp [results, Tryz.results40, go_sem, u0, u1, u2, v0, v1]) rfl ?_
    exact ⟨nm, st, A2, m, c2, L, kb, ks, t, rfl, HDR.out, zkb, zks, (by omega), HO2.out.base_le (by omega), HB2.out⟩
  · skip
    have carO : Hid (∀ u : World, w6.grownBy u (some (w.heap.size + 2)) → u.cell? ⟨b, 0, none⟩ = some (.string nm) ∧ u.cell? ⟨b, 1, none⟩ = some (.int .i64 (st : Int)) ∧ u.cell? ⟨b, 2, none⟩ = some (.slice A2 m c2) ∧ u.cell? ⟨d, 0, none⟩ = some (.string kb) ∧ u.cell? ⟨d, 1, none⟩ = some (.string ks)) := Lib.hid (fun u hu => by
      have L0 := K.grown hu (fun e => by injection e with e; omega)
      have L1 := J.grown hu (fun e => by injection e with e; omega)
      exact ⟨by simpa using L0.cell 0, by simpa using L0.cell 1, by simpa using L0.cell 2, by simpa using L1.cell 0, by simpa using L1.cell 1⟩)
    have C0 : w6.grownBy w6.drew (some (w.heap.size + 2)) := grown_any (Below.refl _ _).drew _
    go_upto_region 5 with fail
    refine wp_region_held_drew (S := fun u => u.cell? ⟨b, 0, none⟩ = some (.string nm) ∧ u.cell? ⟨b, 1, none⟩ = some (.int .i64 (st : Int)) ∧ u.cell? ⟨b, 2, none⟩ = some (.slice A2 m c2) ∧ u.cell? ⟨d, 0, none⟩ = some (.string kb) ∧ u.cell? ⟨d, 1, none⟩ = some (.string ks)) (by kernel_rfl) (carO.out _ C0) (fun hHeld => ?_)
    refine wpAnyH_take (i := 0) (oi := { dst := some 18, op := _, type := _, pos := _, after := _, guard := _ }) (v := ?_) rfl (by kernel_rfl) (by kernel_rfl) (by kernel_rfl) (fun _ _ _ h => h) (Or.inl ⟨by rfl, ?_⟩) (by assumption) ?_
    rotate_left
    · (intro w hSw; (try dsimp only at hSw); go_simp) <;> with_reducible rfl
    (try simp only [Act.put, List.setIfInBounds_toArray, List.set_cons_zero, List.set_cons_succ])
    refine wpAnyH_take (i := 1) (oi := { dst := some 19, op := _, type := _, pos := _, after := _, guard := _ }) (v := ?_) rfl (by kernel_rfl) (by kernel_rfl) (by kernel_rfl) (fun _ _ _ h => h) (Or.inl ⟨by rfl, ?_⟩) (by assumption) ?_
    rotate_left
    · (intro w hSw; (try dsimp only at hSw); go_simp) <;> with_reducible rfl
    (try simp only [Act.put, List.setIfInBounds_toArray, List.set_cons_zero, List.set_cons_succ])
    refine wpAnyH_take (i := 2) (oi := { dst := some 20, op := _, type := _, pos := _, after := _, guard := _ }) (v := ?_) rfl (by kernel_rfl) (by kernel_rfl) (by kernel_rfl) (fun _ _ _ h => h) (Or.inl ⟨by rfl, ?_⟩) (by assumption) ?_
    rotate_left
    · (intro w hSw; (try dsimp only at hSw); go_simp) <;> with_reducible rfl
    (try simp only [Act.put, List.setIfInBounds_toArray, List.set_cons_zero, List.set_cons_succ])
    refine wpAnyH_ready (rs := [3]) (by kernel_rfl) (by simp) ?_
    refine AllReadyH.cons (o := _) rfl (fun K hK => ?_) AllReadyH.nil
    go_simp
    refine (cur_anyTouch HS.out (grown_below HB.out hp0 C0) hp0 (HC.out.up (Below.refl _ _).drew) (by omega)).mono ?_; rintro e w7 ⟨t, rfl, hts, hc7, hg7⟩
    have hg7 := grownBy_trans C0 hg7
    try go_wp2_with fail
    refine hK.out _ _ (carO.out _ hg7) (fun hHeld => ?_)
    clear hK K
    (try simp only [Act.put, List.setIfInBounds_toArray, List.set_cons_zero, List.set_cons_succ])
    clear carO C0
    replace K := K.grown hg7 (fun e => by injection e with e; omega)
    replace J := J.grown hg7 (fun e => by injection e with e; omega)
    replace R := R.grown hg7 (fun e => by injection e with e; omega)
    replace Q := Q.grown hg7 (fun e => by injection e with e; omega)
    replace HO := Lib.hid (HO.out.past hg7 (by omega))
    replace HB := Lib.hid (grown_below HB.out hp0 hg7)
    replace HC := Lib.hid hc7
    clear hg7 hc7
    have rc0 := R.cell 0; have rc1 := R.cell 1; have rc2 := R.cell 2
    have rf0 := R.frozen 0; have rf1 := R.frozen 1; have rf2 := R.frozen 2
    have yc0 := Q.cell 0; have yc1 := Q.cell 1
    have yf0 := Q.frozen 0; have yf1 := Q.frozen 1
    simp only [List.getElem?_cons_zero, List.getElem?_cons_succ] at rc0 rc1 rc2 yc0 yc1
    have cS : Hid (∀ u : World, Blk u b 25 [.string nm, .int .i64 (st : Int), .slice A2 m c2] → Blk u d 27 [.string kb, .string ks] → u.cell? ⟨b, 0, none⟩ = some (.string nm) ∧ u.cell? ⟨b, 1, none⟩ = some (.int .i64 (st : Int)) ∧ u.cell? ⟨b, 2, none⟩ = some (.slice A2 m c2) ∧ u.cell? ⟨d, 0, none⟩ = some (.string kb) ∧ u.cell? ⟨d, 1, none⟩ = some (.string ks)) := Lib.hid (fun u L0 L1 => ⟨by simpa using L0.cell 0, by simpa using L0.cell 1, by simpa using L0.cell 2, by simpa using L1.cell 0, by simpa using L1.cell 1⟩)
    have q1 := sets3_grown w7 w.heap.size (.string nm) (.int .i64 (st : Int)) (.slice A2 m c2)
    have R1 := ((R.set_ 0 (.string nm)).set_ 1 (.int .i64 (st : Int))).set_ 2 (.slice A2 m c2)
    have Y1 := Q.grown q1 (fun e => by injection e with e; omega)
    have K1 := K.grown q1 (fun e => by injection e with e; omega)
    have J1 := J.grown q1 (fun e => by injection e with e; omega)
    have hbs := HB.out.size
    have HB1 := Lib.hid (HB.out.grown q1 hbs (fun k e => by injection e with e; omega))
    have HO1 := Lib.hid (HO.out.past q1 (by omega))
    obtain ⟨wA, hwA⟩ : ∃ u, u = ((w7.setCell ⟨w.heap.size, 0, none⟩ (.string nm)).setCell ⟨w.heap.size, 1, none⟩ (.int .i64 (st : Int))).setCell ⟨w.heap.size, 2, none⟩ (.slice A2 m c2) := ⟨_, rfl⟩
    rw [← hwA] at R1 Y1 K1 J1 HB1 HO1
    refine wpAnyH_ready (rs := [4]) (by kernel_rfl) (by simp) ?_
    refine AllReadyH.cons (o := _) rfl (fun K0 hK0 => ?_) AllReadyH.nil
    go_simp
    try rw [← hwA]
    refine hK0.out _ _ (cS.out _ K1 J1) (fun hHeld1 => ?_)
    clear hK0 K0 rc0 rc1 rc2 rf0 rf1 rf2 yc0 yc1 yf0 yf1 R Q K J hHeld hwA q1
    (try simp only [Act.put, List.setIfInBounds_toArray, List.set_cons_zero, List.set_cons_succ])
    have yc0 := Y1.cell 0; have yc1 := Y1.cell 1
    have yf0 := Y1.frozen 0; have yf1 := Y1.frozen 1
    simp only [List.getElem?_cons_zero, List.getElem?_cons_succ] at yc0 yc1
    have q2 := sets2_grown wA (w.heap.size + 1) (.string kb) (.string ks)
    have R2 := R1.grown q2 (fun e => by injection e with e; omega)
    have Y2 := (Y1.set_ 0 (.string kb)).set_ 1 (.string ks)
    have K2 := K1.grown q2 (fun e => by injection e with e; omega)
    have J2 := J1.grown q2 (fun e => by injection e with e; omega)
    have HB2 := Lib.hid (HB1.out.grown q2 HB1.out.size (fun k e => by injection e with e; omega))
    have HO2 := Lib.hid (HO1.out.past q2 (by omega))
    obtain ⟨wB, hwB⟩ : ∃ u, u = (wA.setCell ⟨w.heap.size + 1, 0, none⟩ (.string kb)).setCell ⟨w.heap.size + 1, 1, none⟩ (.string ks) := ⟨_, rfl⟩
    rw [← hwB] at R2 Y2 K2 J2 HB2 HO2
    refine wpAnyH_ready (rs := [5]) (by kernel_rfl) (by simp) ?_
    refine AllReadyH.cons (o := _) rfl (fun K0 hK0 => ?_) AllReadyH.nil
    go_simp
    try rw [← hwB]
    refine hK0.out _ _ (cS.out _ K2 J2) (fun hHeld2 => ?_)
    clear hK0 K0 yc0 yc1 yf0 yf1 hHeld1 hwB q2
    (try simp only [Act.put, List.setIfInBounds_toArray, List.set_cons_zero, List.set_cons_succ])
    refine wpAnyH_ready (rs := [6]) (by kernel_rfl) (by simp) ?_
    refine AllReadyH.cons (o := _) rfl (fun K0 hK0 => ?_) AllReadyH.nil
    go_simp
    refine hK0.out _ _ (cS.out _ K2 J2) (fun hHeld3 => ?_)
    clear hK0 K0 hHeld3
    (try simp only [Act.put, List.setIfInBounds_toArray, List.set_cons_zero, List.set_cons_succ])
    refine wpAnyH_done (by kernel_rfl) ?_ _
    (try simp only [Act.put, List.setIfInBounds_toArray, List.set_cons_zero, List.set_cons_succ])
    have u0 := R2.cell 0; have u1 := R2.cell 1; have u2 := R2.cell 2
    have v0 := Y2.cell 0; have v1 := Y2.cell 1
    simp only [List.set_cons_zero, List.set_cons_succ, List.getElem?_cons_zero, List.getElem?_cons_succ] at u0 u1 u2 v0 v1
    clear R1 R2 Y1 Y2 K1 J1 K2 J2 HC HB1 HO1
    go_wp2_with fail
    refine bodyPost_ret (v := .tuple #[.agg #[.string nm, .int .i64 (st : Int), .slice A2 m c2], .agg #[.string kb, .string ks], .string t]) (by simp [results, Tryz.results40, go_sem, u0, u1, u2, v0, v1]) rfl ?_
    exact ⟨nm, st, A2, m, c2, L, kb, ks, t, rfl, HDR.out, zkb, zks, (by omega), HO2.out.base_le (by omega), HB2.out⟩
end Go.Proofs.YtidolgonmimicaaGreat
/- The walk through FnParts: for all bytes the law answers true. -/
namespace Go.Proofs.YtidolgonmimicaaGreat
set_option linter.unusedVariables false
set_option linter.unusedSimpArgs false
open Go.ChangeShapes Go.WideShapes Go.ChangeAt Go.RowKit Go.Deep
set_option maxHeartbeats 8000000 in
set_option maxRecDepth 100000 in
theorem law_Parts (A0 : Option Addr) (c0 : Nat) (l0 : List Int) (A1 : Option Addr) (c1 : Nat) (l1 : List Int) (w : World) (h0 : Recs byteE 1 w A0 l0) (hm0 : l0.length ≤ 9223372036854775807) (hb0 : ∀ x ∈ l0, 0 ≤ x ∧ x ≤ 255)
    (h1 : Recs byteE 1 w A1 l1) (hm1 : l1.length ≤ 9223372036854775807) (hb1 : ∀ x ∈ l1, 0 ≤ x ∧ x ≤ 255) :
    Calls Tryz.prog 6 #[.slice A0 l0.length c0, .slice A1 l1.length c1] w fun e w' => e = .returned (.bool true) ∧ Below w.heap.size w w' := by
  have S0 := Lib.hid (show Src w A0 l0.length from ⟨l0, rfl, hm0, hb0, h0⟩)
  clear h0 hb0 h1 hb1
  by_cases hz : wrap64 ((l0.length : Int) + (l1.length : Int)) ≤ 1048576
  · have hI : ¬ 1048576 < wrap64 ((l0.length : Int) + (l1.length : Int)) := by omega
    clear hz
    go_in
    go_wp2_with fail
    clear hI
    refine (draw_TrueByParts S0.out).mono ?_; rintro e v ⟨nm, st, B, m, d, L, kb, ks, t, rfl, hdr, zk, zs, ht, ho, hv⟩
    have hdf := drM_f12 hdr
    have HL := Lib.hid ho.len
    have hcap := ho.cap.1
    have z : m ≤ 1048576 := by have := HL.out; omega
    have zk2 : kb.size ≤ 16777216 := by omega
    have zs2 : ks.size ≤ 16777216 := by omega
    have zt2 : t.size ≤ 16777216 := by omega
    have HMZ := Lib.hid (show L.length = m from HL.out)
    have a1 : Below v.heap.size v ((v.alloc (.cells #[.string nm, .int .i64 (st : Int), .slice B m d] 25)).alloc (.cells #[.string kb, .string ks] 27)) := by (repeat' (first | (with_reducible exact Below.refl _ _) | (with_reducible assumption) | (with_reducible refine below_drewN ?_ _) | (with_reducible refine Below.drew ?_) | (with_reducible refine below_alloc ?_ _) | (with_reducible refine Below.alloc ?_ ?_ _) | (with_reducible refine Below.setCell ?_ ?_ _) | (with_reducible refine below_go ?_ (by with_reducible assumption)) | (with_reducible refine below_then (by with_reducible assumption) ?_ ?_) | go_size))
    have K := (Blk.at_ v 25 [.string nm, .int .i64 (st : Int), .slice B m d] (b := v.heap.size) rfl).alloc (.cells #[.string kb, .string ks] 27)
    have J := Blk.at_ (v.alloc (.cells #[.string nm, .int .i64 (st : Int), .slice B m d] 25)) 27 [.string kb, .string ks] (b := v.heap.size + 1) (by simp)
    have R := Lib.hid (ho.recs.up a1)
    have HW := Lib.hid (below_go hv a1)
    clear hv a1 hdr ho
    go_upto_region 4 with fail
    obtain ⟨u, hu⟩ : ∃ u, u = (v.alloc (.cells #[.string nm, .int .i64 (st : Int), .slice B m d] 25)).alloc (.cells #[.string kb, .string ks] 27) := ⟨_, rfl⟩
    rw [← hu] at K J R HW ⊢
    obtain ⟨p, hp⟩ : ∃ u, u = v.heap.size := ⟨_, rfl⟩
    rw [← hp] at K J ⊢
    clear hu hp
    obtain ⟨gf, hgf⟩ : ∃ u, u = goodF nm (st : Int) L kb ks t := ⟨_, rfl⟩
    have HGF := Lib.hid hgf
    obtain ⟨te, hte⟩ : ∃ u, u = teV nm st L kb ks t := ⟨_, rfl⟩
    have HTE := Lib.hid hte
    obtain ⟨ro, hro⟩ : ∃ u, u = rowsOk nm (st : Int) L kb ks t := ⟨_, rfl⟩
    have HRO := Lib.hid hro
    clear hgf hte hro
    have kc0 := K.cell 0; have kc1 := K.cell 1; have kc2 := K.cell 2; have jc0 := J.cell 0; have jc1 := J.cell 1
    simp only [List.getElem?_cons_zero, List.getElem?_cons_succ] at kc0 kc1 kc2 jc0 jc1
    go_wp2_with fail
    refine (impl_TrueByParts HL.out R.out z hdf.2.2.2.1 hdf.1 hdf.2.1 zk2 zs2 zt2 (t := t)).mono ?_; intro e y hx
    clear kc0 kc1 kc2 jc0 jc1
    obtain ⟨x, rfl, hx, hy⟩ := hx
    have HFx := Lib.hid hx
    clear hx
    rw [← HGF.out]
    replace K := K.up hy
    replace J := J.up hy
    replace R := Lib.hid (R.out.up hy)
    replace HW := Lib.hid (below_go HW.out hy)
    clear hy
    have kc0 := K.cell 0; have kc1 := K.cell 1; have kc2 := K.cell 2; have jc0 := J.cell 0; have jc1 := J.cell 1
    simp only [List.getElem?_cons_zero, List.getElem?_cons_succ] at kc0 kc1 kc2 jc0 jc1
    go_wp2_with fail
    refine (spec_TrueByParts HL.out R.out z hdf.2.2.2.1 hdf.1 hdf.2.1 zk2 zs2 zt2 hcap (t := t)).mono ?_; intro e y hx
    clear kc0 kc1 kc2 jc0 jc1
    obtain ⟨x2, rfl, hx2, hy⟩ := hx
    have HFx2 := Lib.hid hx2
    clear hx2
    rw [← HGF.out]
    replace K := K.up hy
    replace J := J.up hy
    replace R := Lib.hid (R.out.up hy)
    replace HW := Lib.hid (below_go HW.out hy)
    clear hy
    obtain rfl := HFx.out.uniq HFx2.out
    clear HFx2
    have kc0 := K.cell 0; have kc1 := K.cell 1; have kc2 := K.cell 2; have jc0 := J.cell 0; have jc1 := J.cell 1
    simp only [List.getElem?_cons_zero, List.getElem?_cons_succ] at kc0 kc1 kc2 jc0 jc1
    go_wp2_with fail
    refine (impl_WholeOf HL.out R.out z hdf.2.2.2.1 hdf.1 hdf.2.1 zk2 zs2 zt2 (t := t)).mono ?_; intro e y hx
    clear kc0 kc1 kc2 jc0 jc1
    obtain ⟨W, oW, rfl, hW, hy⟩ := hx
    have HFW := Lib.hid hW
    clear hW
    replace K := K.up hy
    replace J := J.up hy
    replace R := Lib.hid (R.out.up hy)
    replace HW := Lib.hid (below_go HW.out hy)
    clear hy
    have kc0 := K.cell 0; have kc1 := K.cell 1; have kc2 := K.cell 2; have jc0 := J.cell 0; have jc1 := J.cell 1
    simp only [List.getElem?_cons_zero, List.getElem?_cons_succ] at kc0 kc1 kc2 jc0 jc1
    go_wp2_with fail
    refine (spec_WholeOf HL.out R.out z hdf.2.2.2.1 hdf.1 hdf.2.1 zk2 zs2 zt2 hcap (t := t)).mono ?_; intro e y hx
    clear kc0 kc1 kc2 jc0 jc1
    obtain ⟨W2, oW2, rfl, hW2, hy⟩ := hx
    have HFW2 := Lib.hid hW2
    clear hW2
    replace K := K.up hy
    replace J := J.up hy
    replace R := Lib.hid (R.out.up hy)
    replace HW := Lib.hid (below_go HW.out hy)
    clear hy
    obtain ⟨rfl, rfl⟩ := HFW.out.uniq HFW2.out
    clear HFW2
    have kc0 := K.cell 0; have kc1 := K.cell 1; have kc2 := K.cell 2; have jc0 := J.cell 0; have jc1 := J.cell 1
    simp only [List.getElem?_cons_zero, List.getElem?_cons_succ] at kc0 kc1 kc2 jc0 jc1
    go_wp2_with fail
    refine (impl_PartsIn HL.out R.out z hdf.2.2.2.1 hdf.1 hdf.2.1 zk2 zs2 zt2 (t := t)).mono ?_; rw [← HGF.out]; rintro e y ⟨n, rfl, hn, hy⟩
    clear kc0 kc1 kc2 jc0 jc1
    have HFn := Lib.hid hn
    clear hn
    replace K := K.up hy
    replace J := J.up hy
    replace R := Lib.hid (R.out.up hy)
    replace HW := Lib.hid (below_go HW.out hy)
    clear hy
    have kc0 := K.cell 0; have kc1 := K.cell 1; have kc2 := K.cell 2; have jc0 := J.cell 0; have jc1 := J.cell 1
    simp only [List.getElem?_cons_zero, List.getElem?_cons_succ] at kc0 kc1 kc2 jc0 jc1
    go_wp2_with fail
    refine (spec_PartsIn HL.out R.out z hdf.2.2.2.1 hdf.1 hdf.2.1 zk2 zs2 zt2 hcap (t := t)).mono ?_; rw [← HGF.out]; rintro e y ⟨n2, rfl, hn2, hy⟩
    clear kc0 kc1 kc2 jc0 jc1
    have HFn2 := Lib.hid hn2
    clear hn2
    replace K := K.up hy
    replace J := J.up hy
    replace R := Lib.hid (R.out.up hy)
    replace HW := Lib.hid (below_go HW.out hy)
    clear hy
    obtain rfl := HFn.out.uniq HFn2.out
    clear HFn2
    have kc0 := K.cell 0; have kc1 := K.cell 1; have kc2 := K.cell 2; have jc0 := J.cell 0; have jc1 := J.cell 1
    simp only [List.getElem?_cons_zero, List.getElem?_cons_succ] at kc0 kc1 kc2 jc0 jc1
    go_wp2_with fail
    refine (impl_PartEnd HL.out R.out z hdf.2.2.2.1 hdf.1 hdf.2.1 zk2 zs2 zt2 (t := t)).mono ?_; rw [← HGF.out, ← HTE.out]; rintro e y ⟨rfl, hy⟩
    clear kc0 kc1 kc2 jc0 jc1
    replace K := K.up hy
    replace J := J.up hy
    replace R := Lib.hid (R.out.up hy)
    replace HW := Lib.hid (below_go HW.out hy)
    clear hy
    have kc0 := K.cell 0; have kc1 := K.cell 1; have kc2 := K.cell 2; have jc0 := J.cell 0; have jc1 := J.cell 1
    simp only [List.getElem?_cons_zero, List.getElem?_cons_succ] at kc0 kc1 kc2 jc0 jc1
    go_wp2_with fail
    refine (spec_PartEnd HL.out R.out z hdf.2.2.2.1 hdf.1 hdf.2.1 zk2 zs2 zt2 hcap (t := t)).mono ?_; rw [← HGF.out, ← HTE.out]; rintro e y ⟨rfl, hy⟩
    clear kc0 kc1 kc2 jc0 jc1
    replace K := K.up hy
    replace J := J.up hy
    replace R := Lib.hid (R.out.up hy)
    replace HW := Lib.hid (below_go HW.out hy)
    clear hy
    have kc0 := K.cell 0; have kc1 := K.cell 1; have kc2 := K.cell 2; have jc0 := J.cell 0; have jc1 := J.cell 1
    simp only [List.getElem?_cons_zero, List.getElem?_cons_succ] at kc0 kc1 kc2 jc0 jc1
    go_wp2_with fail
    refine (impl_PartRows HL.out R.out z hdf.2.2.2.1 hdf.1 hdf.2.1 zk2 zs2 zt2 (t := t)).mono ?_; rw [← HRO.out]; rintro e y ⟨A1, m1, c1, rfl, h1, h2, hy⟩
    clear kc0 kc1 kc2 jc0 jc1
    have HA := Lib.hid h1
    have HB := Lib.hid h2
    clear h1 h2
    have HL1 : Hid (∃ Q, Q.length = m1 ∧ Strs y A1 Q ∧ m1 ≤ 16777216 ∧ (ro = true → ∃ M, IsOrd st (hdAt st L kb ks t t.size) M ∧ m1 = t.size * m ∧ Q = (tRows st L kb ks t t.size).map (leastS st (hdAt st L kb ks t t.size) M)) ∧ (ro = false → Q = [])) := Lib.hid (by
      rcases ro
      · obtain ⟨rfl, rfl, rfl⟩ := HB.out rfl
        exact ⟨[], rfl, ⟨strE_len, Rd.none_ _ _ _⟩, by omega, (fun e => (by cases e)), fun _ => rfl⟩
      · obtain ⟨hm, M, hM, hO⟩ := HA.out rfl
        have h8 := HRO.out
        rw [eq_comm, rowsOk, Bool.and_eq_true, decide_eq_true_iff, HL.out, ← hm] at h8
        exact ⟨_, hO.len, hO.recs, by omega, (fun _ => ⟨M, hM, hm, rfl⟩), (fun e => (by cases e))⟩)
    obtain ⟨Q, hq1, hq2, hq3, hq4, hq5⟩ := HL1.out
    have Q1 := Lib.hid hq1; have Q2 := Lib.hid hq2; have Q4 := Lib.hid hq4; have Q5 := Lib.hid hq5
    clear HL1 HA HB hq1 hq2 hq4 hq5
    replace K := K.up hy
    replace J := J.up hy
    replace R := Lib.hid (R.out.up hy)
    replace HW := Lib.hid (below_go HW.out hy)
    clear hy
    have kc0 := K.cell 0; have kc1 := K.cell 1; have kc2 := K.cell 2; have jc0 := J.cell 0; have jc1 := J.cell 1
    simp only [List.getElem?_cons_zero, List.getElem?_cons_succ] at kc0 kc1 kc2 jc0 jc1
    go_wp2_with fail
    refine (spec_PartRows HL.out R.out z hdf.2.2.2.1 hdf.1 hdf.2.1 zk2 zs2 zt2 hcap (t := t)).mono ?_; rw [← HRO.out]; rintro e y ⟨A2, m2, c2, rfl, h1, h2, hy⟩
    clear kc0 kc1 kc2 jc0 jc1
    have HA := Lib.hid h1
    have HB := Lib.hid h2
    clear h1 h2
    have HEQ : Hid (m2 = m1 ∧ Strs y A2 Q) := Lib.hid (by
      rcases ro
      · obtain ⟨rfl, rfl, rfl⟩ := HB.out rfl
        have e := Q5.out rfl
        have l := Q1.out
        rw [e] at l ⊢
        exact ⟨l, ⟨strE_len, Rd.none_ _ _ _⟩⟩
      · obtain ⟨hm, M, hM, hO⟩ := HA.out rfl
        obtain ⟨M2, hM2, hm2, e⟩ := Q4.out rfl
        obtain rfl := hM.uniq hM2
        exact ⟨by rw [hm, hm2], by rw [e]; exact hO.recs⟩)
    have q2 := HEQ.out.2
    obtain rfl := HEQ.out.1
    have Q3 := Lib.hid q2
    clear HEQ HA HB q2
    replace K := K.up hy
    replace J := J.up hy
    replace R := Lib.hid (R.out.up hy)
    replace HW := Lib.hid (below_go HW.out hy)
    replace Q2 := Lib.hid (Q2.out.up hy)
    clear hy
    rcases oW
    · skip
      go_wp2_with fail
      refine (laws_qSameS Q1.out Q2.out Q3.out hq3).mono ?_; rintro e y ⟨rfl, hy⟩
      replace K := K.up hy
      replace J := J.up hy
      replace R := Lib.hid (R.out.up hy)
      replace HW := Lib.hid (below_go HW.out hy)
      clear hy
      go_wp2
      go_ret
      exact ⟨rfl, HW.out⟩
    · skip
      go_wp2_with fail
      refine (laws_qSameS Q1.out Q2.out Q3.out hq3).mono ?_; rintro e y ⟨rfl, hy⟩
      replace K := K.up hy
      replace J := J.up hy
      replace R := Lib.hid (R.out.up hy)
      replace HW := Lib.hid (below_go HW.out hy)
      clear hy
      obtain ⟨f1, f2, f3, f4, f5⟩ := parts_facts HFW.out HFn.out HFx.out
      have G1 := Lib.hid f1; have G2 := Lib.hid f2; have G4 := Lib.hid f4; have G3 := Lib.hid f3
      have hWz : W.size ≤ 16777216 := by omega
      have e3 : (W.size : Int) = (n : Int) * (t.size : Int) := by rw [f3]; simp
      have gg := goodF_t' f1
      have h38 := (goodK_all gg.1).1
      have hm40 := (goodK_all gg.1).2.1
      have E3 := Lib.hid e3
      clear f1 f2 f3 f4 e3
      have kc0 := K.cell 0; have kc1 := K.cell 1; have kc2 := K.cell 2; have jc0 := J.cell 0; have jc1 := J.cell 1
      simp only [List.getElem?_cons_zero, List.getElem?_cons_succ] at kc0 kc1 kc2 jc0 jc1
      go_wp2_with fail
      refine (impl_IsRound (t := W) HL.out R.out z hdf.2.2.2.1 hdf.1 hdf.2.1 zk2 zs2 hWz).mono ?_; rw [G1.out, G2.out, decide_eq_true (rfl : roundsS st = roundsS st), Bool.true_and]; rintro e y ⟨rfl, hy⟩
      clear kc0 kc1 kc2 jc0 jc1
      replace K := K.up hy
      replace J := J.up hy
      replace R := Lib.hid (R.out.up hy)
      replace HW := Lib.hid (below_go HW.out hy)
      clear hy
      have kc0 := K.cell 0; have kc1 := K.cell 1; have kc2 := K.cell 2; have jc0 := J.cell 0; have jc1 := J.cell 1
      simp only [List.getElem?_cons_zero, List.getElem?_cons_succ] at kc0 kc1 kc2 jc0 jc1
      have hwr : IntKind.i64.wrap ((n : Int) * (t.size : Int)) = (W.size : Int) := by
        rw [wrap_id (by rw [← E3.out]; omega), ← E3.out]
      go_wp2_with fail
      refine (impl_TouchRows (t := W) HL.out R.out z hdf.2.2.2.1 hdf.1 hdf.2.2.2.2 zk2 zs2 hWz).mono ?_; rintro e y ⟨A5, m5, c5, rfl, h5, h6, hy⟩
      clear kc0 kc1 kc2 jc0 jc1 hwr
      rcases hr : rowsOk nm (st : Int) L kb ks W
      · skip
        replace K := K.up hy
        replace J := J.up hy
        replace R := Lib.hid (R.out.up hy)
        replace HW := Lib.hid (below_go HW.out hy)
        clear hy
        have hr2 := hr
        rw [rowsOk, G1.out, Bool.true_and, decide_eq_false_iff_not, HL.out] at hr2
        have hI : (800 : Int) < (W.size : Int) * (m : Int) := by
          have : ((W.size * m : Nat) : Int) = (W.size : Int) * (m : Int) := by push_cast; rfl
          omega
        have hmb : W.size * m ≤ 60 * 40 := Nat.mul_le_mul f5 (by have := HL.out; omega)
        have hwr : IntKind.i64.wrap ((W.size : Int) * (m : Int)) = (W.size : Int) * (m : Int) := wrap_id (by
          have : ((W.size * m : Nat) : Int) = (W.size : Int) * (m : Int) := by push_cast; rfl
          omega)
        clear hr hr2 h5 h6 hmb
        have kc0 := K.cell 0; have kc1 := K.cell 1; have kc2 := K.cell 2; have jc0 := J.cell 0; have jc1 := J.cell 1
        simp only [List.getElem?_cons_zero, List.getElem?_cons_succ] at kc0 kc1 kc2 jc0 jc1
        go_wp2
        go_ret
        exact ⟨rfl, HW.out⟩
      · obtain ⟨hm5, ho5⟩ := h5 hr
        have hr2 := hr
        rw [rowsOk, Bool.and_eq_true, decide_eq_true_iff] at hr2
        have HO5 := Lib.hid ho5
        have hm8 : m5 ≤ 800 := by have := HL.out; rw [hm5, ← HL.out]; exact hr2.2
        have HR5 := Lib.hid (tRows_row (l := L) (b := kb) (s := ks) (u := W) h38.1 h38.2 W.size)
        have hstn : ((st : Int)).toNat = st := by omega
        rw [hstn] at HO5
        clear hr hr2 h5 h6 hm5 ho5
        replace K := K.up hy
        replace J := J.up hy
        replace R := Lib.hid (R.out.up hy)
        replace HW := Lib.hid (below_go HW.out hy)
        clear hy
        go_wp2_with fail
        refine (spec_IsTrueList HO5.out.len HO5.out.recs hm8 HR5.out).mono ?_; rw [G4.out]; rintro e y ⟨rfl, hy⟩
        replace K := K.up hy
        replace J := J.up hy
        replace R := Lib.hid (R.out.up hy)
        replace HW := Lib.hid (below_go HW.out hy)
        clear hy
        go_wp2
        go_ret
        exact ⟨rfl, HW.out⟩
  · have hI : 1048576 < wrap64 ((l0.length : Int) + (l1.length : Int)) := by omega
    go_in
    go_wp2
    go_ret
    exact ⟨rfl, Below.refl _ _⟩
end Go.Proofs.YtidolgonmimicaaGreat
