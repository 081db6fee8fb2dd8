/- The walk through FnExactMakeFault: both sides give the same, the arguments are left alone. -/
import Derived.Test.YtmdmnjjlpefigaaCmeth
import Derived.Test.YtmdmnjjlpefigaaCfault
import Derived.Test.YtmdmnjjlpefigaaW20m
namespace Go.Proofs.Ytmdmnjjlpefigaa
set_option linter.unusedVariables false
set_option linter.unusedSimpArgs false
open Go.ChangeShapes Go.WideShapes Go.ChangeAt Go.RowKit Go.Deep
set_option maxHeartbeats 4000000 in
set_option maxRecDepth 100000 in
theorem law_MakeFault (nm : ByteArray) (st : Int) (A : Option Addr) (c : Nat) (l : List ByteArray) (kb ks : ByteArray) (t : ByteArray) (w : World) (hnm : nm.size ≤ maxLen) (hst : -9223372036854775808 ≤ st ∧ st ≤ 9223372036854775807) (h : Recs strE 1 w A l) (hm : l.length ≤ 9223372036854775807) (hb : ∀ x ∈ l, x.size ≤ maxLen) (hkb : kb.size ≤ maxLen) (hks : ks.size ≤ maxLen) (ht : t.size ≤ maxLen) :
    Calls Try.prog 10 #[.agg #[.string nm, .int .i64 st, .slice A l.length c], .agg #[.string kb, .string ks], .string t] w fun e w' => e = .returned (.bool true) ∧ Below w.heap.size w w' := by
  obtain ⟨Z0, hZ0⟩ : ∃ z, z = szM nm l := ⟨_, rfl⟩
  obtain ⟨Z1, hZ1⟩ : ∃ z, z = szK kb ks := ⟨_, rfl⟩
  have y0 : (nm.size : Int) + szS l = Z0 := hZ0.symm
  have y1 : (kb.size : Int) + (ks.size : Int) = Z1 := hZ1.symm
  have y2 := szS_len l
  by_cases zt : (t.size : Int) ≤ 1048576
  · by_cases z0 : Z0 ≤ 1048576
    · by_cases z1 : Z1 ≤ 1048576 - Z0
      · have hs1 : ∀ s ∈ l, s.size ≤ 16777216 := fun s hs => by (have := szS_each l s hs; omega)
        have hnm1 : nm.size ≤ 16777216 := by omega
        have hkb1 : kb.size ≤ 16777216 := by omega
        have hks1 : ks.size ≤ 16777216 := by omega
        have hI : I64 st := by unfold I64; omega
        have hl1 : l.length ≤ 1048576 := by omega
        have ht1 : t.size ≤ 16777216 := by omega
        have HZ0 : Hid (leftV 1048576 (szM nm l) = 1048576 - Z0) := Lib.hid (by rw [← hZ0]; exact leftV_t z0)
        have HZ1 : Hid (leftV (1048576 - Z0) (szK kb ks) = 1048576 - Z0 - Z1) := Lib.hid (by rw [← hZ1]; exact leftV_t z1)
        have m0 : (0 : Int) ≤ 1048576 - Z0 := by omega
        have m1 : (0 : Int) ≤ 1048576 - Z0 - Z1 := by omega
        have p0 : 0 ≤ Z0 := by omega
        have p1 : 0 ≤ Z1 := by omega
        clear hZ0 hZ1 y0 y1
        have b0 : Below w.heap.size w ((w.alloc (.cells ⟨[.string nm, .int .i64 st, .slice A l.length c]⟩ 36)).alloc (.cells ⟨[.string kb, .string ks]⟩ 38)) := by (repeat' (first | (with_reducible exact Below.refl _ _) | (with_reducible assumption) | (with_reducible refine below_drewN ?_ _) | (with_reducible refine Below.drew ?_) | (with_reducible refine below_alloc ?_ _) | (with_reducible refine Below.alloc ?_ ?_ _) | (with_reducible refine Below.setCell ?_ ?_ _) | (with_reducible refine below_go ?_ (by with_reducible assumption)) | (with_reducible refine below_then (by with_reducible assumption) ?_ ?_) | go_size))
        have K0 := ((Blk.at_ w 36 [.string nm, .int .i64 st, .slice A l.length c] (b := w.heap.size) (by simp)).alloc (.cells ⟨[.string kb, .string ks]⟩ 38))
        have K1 := (Blk.at_ (w.alloc (.cells ⟨[.string nm, .int .i64 st, .slice A l.length c]⟩ 36)) 38 [.string kb, .string ks] (b := w.heap.size + 1) (by simp))
        go_in
        go_wp2_with fail
        obtain ⟨w0, hw0⟩ : ∃ u, u = ((w.alloc (.cells #[.string nm, .int .i64 st, .slice A l.length c] 36)).alloc (.cells #[.string kb, .string ks] 38)) := ⟨_, rfl⟩
        rw [← hw0] at b0 K0 K1 ⊢
        have z0 : w.heap.size + 2 ≤ w0.heap.size := by rw [hw0]; simp
        clear hw0
        have carry : Hid (∀ u : World, Below w0.heap.size w0 u → (u.cell? ⟨w.heap.size, 0, none⟩ = some (.string nm) ∧ u.cell? ⟨w.heap.size, 1, none⟩ = some (.int .i64 st) ∧ u.cell? ⟨w.heap.size, 2, none⟩ = some (.slice A l.length c)) ∧ (u.cell? ⟨w.heap.size + 1, 0, none⟩ = some (.string kb) ∧ u.cell? ⟨w.heap.size + 1, 1, none⟩ = some (.string ks))) := Lib.hid (fun u hu => by
          have J0 := K0.up hu; have J1 := K1.up hu
          exact ⟨⟨by simpa using J0.cell 0, by simpa using J0.cell 1, by simpa using J0.cell 2⟩, ⟨by simpa using J1.cell 0, by simpa using J1.cell 1⟩⟩)
        clear K0 K1
        have B0 := Below.refl w0.heap.size w0
        have H0 := b0
        obtain ⟨⟨k1_0_0, k1_0_1, k1_0_2⟩, ⟨k1_1_0, k1_1_1⟩⟩ := carry.out _ B0
        refine (laws_szMethod rfl (h.below H0 (Nat.le_refl _)) (by omega) (by omega) hm hb hnm).mono ?_; rw [HZ0.out]; rintro e w1 ⟨rfl, hb1⟩
        clear k1_0_0 k1_0_1 k1_0_2 k1_1_0 k1_1_1
        have sz1 : w0.heap.size ≤ w1.heap.size := hb1.size
        have B1 := B0.trans (hb1.mono B0.size)
        have H1 := b0.trans (B1.mono b0.size)
        obtain ⟨⟨k2_0_0, k2_0_1, k2_0_2⟩, ⟨k2_1_0, k2_1_1⟩⟩ := carry.out _ B1
        go_wp2_with fail
        refine (laws_szCalls (by omega) (by omega) hkb hks).mono ?_; rw [HZ1.out]; rintro e w2 ⟨rfl, hb2⟩
        clear k2_0_0 k2_0_1 k2_0_2 k2_1_0 k2_1_1
        have sz2 : w1.heap.size ≤ w2.heap.size := hb2.size
        have B2 := B1.trans (hb2.mono B1.size)
        have H2 := b0.trans (B2.mono b0.size)
        have HS := Lib.hid hs1
        obtain ⟨y0, y1, y2, y3, hFA⟩ : ∃ y0 y1 y2 y3 : Int, (⟨mfA (mfO nm st l kb ks t) l.length⟩ : Array Value) = #[.int .i64 y0, .int .i64 y1, .int .i64 y2, .int .i64 y3] := ⟨_, _, _, _, rfl⟩
        have HFA := Lib.hid hFA
        clear hFA
        have HR := Lib.hid (h.below H2 (Nat.le_refl _))
        have HC0 : Hid (∀ u : World, Below w2.heap.size w2 u → (u.cell? ⟨w.heap.size, 0, none⟩ = some (.string nm) ∧ u.cell? ⟨w.heap.size, 1, none⟩ = some (.int .i64 st) ∧ u.cell? ⟨w.heap.size, 2, none⟩ = some (.slice A l.length c)) ∧ (u.cell? ⟨w.heap.size + 1, 0, none⟩ = some (.string kb) ∧ u.cell? ⟨w.heap.size + 1, 1, none⟩ = some (.string ks))) := Lib.hid (fun u hu => carry.out _ (B2.trans (hu.mono B2.size)))
        have C2 := Below.refl w2.heap.size w2
        go_upto_region 10 with fail
        go_cut [8, 9] (fun s8 s9 wx => ∃ p : Nat, s8 = .pointer (some ⟨p, 0, none⟩) ∧ w2.heap.size ≤ p ∧ s9 = .bool (mfO nm st l kb ks t).isSome ∧ Blk wx p 58 [.int .i64 y0, .int .i64 y1, .int .i64 y2, .int .i64 y3] ∧ Below w2.heap.size w2 wx)
        case first =>
          go_region_held3 (fun u => (u.cell? ⟨w.heap.size, 0, none⟩ = some (.string nm) ∧ u.cell? ⟨w.heap.size, 1, none⟩ = some (.int .i64 st) ∧ u.cell? ⟨w.heap.size, 2, none⟩ = some (.slice A l.length c)) ∧ (u.cell? ⟨w.heap.size + 1, 0, none⟩ = some (.string kb) ∧ u.cell? ⟨w.heap.size + 1, 1, none⟩ = some (.string ks))) (first | with_reducible exact HC0.out _ ((((C5.setCell (p := ⟨_, 0, none⟩) pz _).setCell (p := ⟨_, 1, none⟩) pz _).setCell (p := ⟨_, 2, none⟩) pz _).setCell (p := ⟨_, 3, none⟩) pz _) | with_reducible exact HC0.out _ C5 | with_reducible exact HC0.out _ (C5.alloc C5.size _) | with_reducible exact HC0.out _ C4 | with_reducible exact HC0.out _ (C4.alloc C4.size _) | with_reducible exact HC0.out _ C3 | with_reducible exact HC0.out _ (C3.alloc C3.size _) | with_reducible exact HC0.out _ C2.drew | with_reducible exact HC0.out _ (C2.alloc C2.size _).drew) (first | (go_at_call 43; ((first | (with_reducible refine (spec_MakeFault rfl (omW.up D4).recs (by omega) HS.out hnm1 hI hkb1 hks1 (Nat.le_refl _) ht1).mono ?_) | (with_reducible refine (spec_MakeFault rfl (omW.up (below_alloc D4 _)).recs (by omega) HS.out hnm1 hI hkb1 hks1 (Nat.le_refl _) ht1).mono ?_)); rw [HFA.out]; rintro e w5 ⟨rfl, hb5⟩; (first | (with_reducible have C5 := below_go C4 hb5) | (with_reducible have C5 := below_go (below_alloc C4 _) hb5)); (first | (with_reducible have KZ := KZ4.up hb5; have pz := pz4) | (with_reducible have KZ := (Blk.at_ w4 58 [.int .i64 0, .int .i64 0, .int .i64 0, .int .i64 0] (b := w4.heap.size) rfl).up hb5; have pz := C4.size) | skip); (first | (have f0 := KZ.frozen 0; have f1 := KZ.frozen 1; have f2 := KZ.frozen 2; have f3 := KZ.frozen 3; have d0 := KZ.cell 0; have d1 := KZ.cell 1; have d2 := KZ.cell 2; have d3 := KZ.cell 3; simp only [List.getElem?_cons_zero, List.getElem?_cons_succ] at d0 d1 d2 d3) | skip))) | (go_at_call 31; ((refine (laws_toCalls).mono ?_); rintro e w4 ⟨rfl, hb4⟩; (first | (with_reducible have C4 := below_go C3 hb4; with_reducible have D4 := below_go (Below.refl _ _) hb4) | (with_reducible have C4 := below_go (below_alloc C3 _) hb4; with_reducible have D4 := below_go (below_alloc (Below.refl _ _) _) hb4)); (first | (with_reducible have KZ4 := KZ3.up hb4; have pz4 := pz3) | (with_reducible have KZ4 := (Blk.at_ w3 58 [.int .i64 0, .int .i64 0, .int .i64 0, .int .i64 0] (b := w3.heap.size) rfl).up hb4; have pz4 := C3.size) | skip))) | (go_at_call 30; ((first | (with_reducible refine (laws_toMethod (st := st) (nm := nm) rfl (HR.out.up C2.drew) (by omega)).mono ?_) | (with_reducible refine (laws_toMethod (st := st) (nm := nm) rfl (HR.out.up (Below.drew (below_alloc C2 _))) (by omega)).mono ?_)); rintro e w3 ⟨gomW, rfl, omW, hb3⟩; (first | (with_reducible have C3 : Below w2.heap.size w2 w3 := below_of_drew hb3) | (with_reducible have C3 : Below w2.heap.size w2 w3 := below_go (Below.drew (below_alloc C2 _)) hb3)); (first | (with_reducible have KZ3 := (Blk.at_ w2 58 [.int .i64 0, .int .i64 0, .int .i64 0, .int .i64 0] (b := w2.heap.size) rfl).drew1.up hb3; have pz3 := Nat.le_refl w2.heap.size) | skip))))
          all_goals
            go_wp2_with fail
            go_meet
            first
              | exact ⟨_, rfl, pz, rfl, (((KZ.set_ 0 _).set_ 1 _).set_ 2 _).set_ 3 _, (((C5.setCell (p := ⟨_, 0, none⟩) pz _).setCell (p := ⟨_, 1, none⟩) pz _).setCell (p := ⟨_, 2, none⟩) pz _).setCell (p := ⟨_, 3, none⟩) pz _⟩
              | exact ⟨_, rfl, C5.size, rfl, Blk.at_ w5 58 [.int .i64 y0, .int .i64 y1, .int .i64 y2, .int .i64 y3] rfl, C5.alloc C5.size _⟩
        case rest =>
          obtain ⟨p, rfl, hp, rfl, KP, C3⟩ := hcut
          rename World => w3
          have B3 := B2.trans (C3.mono B2.size)
          have H3 := b0.trans (B3.mono b0.size)
          have hp3 := KP.lt
          obtain ⟨⟨k3_0_0, k3_0_1, k3_0_2⟩, ⟨k3_1_0, k3_1_1⟩⟩ := carry.out _ B3
          go_wp2_with fail
          refine (laws_toMethod (st := st) (nm := nm) rfl (h.below H3 (Nat.le_refl _)) (by omega)).mono ?_; rintro e w6 ⟨gx, rfl, ox, hb6⟩
          clear k3_0_0 k3_0_1 k3_0_2 k3_1_0 k3_1_1
          have sz6 : w3.heap.size ≤ w6.heap.size := hb6.size
          have B6 := B3.trans (hb6.mono B3.size)
          have H6 := b0.trans (B6.mono b0.size)
          have KP6 := KP.up hb6
          go_upto_region 12 with fail
          have hb7 : Below w6.heap.size w6 (w6.alloc (.cells ⟨[.string nm, .int .i64 st, .slice (some ⟨gx, 0, none⟩) l.length l.length]⟩ 42)) := by (repeat' (first | (with_reducible exact Below.refl _ _) | (with_reducible assumption) | (with_reducible refine below_drewN ?_ _) | (with_reducible refine Below.drew ?_) | (with_reducible refine below_alloc ?_ _) | (with_reducible refine Below.alloc ?_ ?_ _) | (with_reducible refine Below.setCell ?_ ?_ _) | (with_reducible refine below_go ?_ (by with_reducible assumption)) | (with_reducible refine below_then (by with_reducible assumption) ?_ ?_) | go_size))
          have XD := Blk.at_ w6 42 [.string nm, .int .i64 st, .slice (some ⟨gx, 0, none⟩) l.length l.length] (b := w6.heap.size) rfl
          obtain ⟨w7, hw7⟩ : ∃ u, u = (w6.alloc (.cells #[.string nm, .int .i64 st, .slice (some ⟨gx, 0, none⟩) l.length l.length] 42)) := ⟨_, rfl⟩
          rw [← hw7] at hb7 XD ⊢
          clear hw7
          have sz7 : w6.heap.size ≤ w7.heap.size := hb7.size
          have B7 := B6.trans (hb7.mono B6.size)
          have H7 := b0.trans (B7.mono b0.size)
          have ox_7 := ox.up hb7
          have KP7 := KP6.up hb7
          have HC7 : Hid (∀ u : World, Below w7.heap.size w7 u → ((u.cell? ⟨w.heap.size, 0, none⟩ = some (.string nm) ∧ u.cell? ⟨w.heap.size, 1, none⟩ = some (.int .i64 st) ∧ u.cell? ⟨w.heap.size, 2, none⟩ = some (.slice A l.length c)) ∧ (u.cell? ⟨w.heap.size + 1, 0, none⟩ = some (.string kb) ∧ u.cell? ⟨w.heap.size + 1, 1, none⟩ = some (.string ks)) ∧ (u.cell? ⟨w6.heap.size, 0, none⟩ = some (.string nm) ∧ u.cell? ⟨w6.heap.size, 1, none⟩ = some (.int .i64 st) ∧ u.cell? ⟨w6.heap.size, 2, none⟩ = some (.slice (some ⟨gx, 0, none⟩) l.length l.length)))) := Lib.hid (fun u hu => by
            have J := XD.up hu
            have q := carry.out _ (B7.trans (hu.mono B7.size))
            exact ⟨q.1, q.2, by simpa using J.cell 0, by simpa using J.cell 1, by simpa using J.cell 2⟩)
          clear XD
          have C7 := Below.refl w7.heap.size w7
          go_cut [11, 12] (fun s8 s9 wx => ∃ p : Nat, s8 = .pointer (some ⟨p, 0, none⟩) ∧ w7.heap.size ≤ p ∧ s9 = .bool (mfO nm st l kb ks t).isSome ∧ Blk wx p 58 [.int .i64 y0, .int .i64 y1, .int .i64 y2, .int .i64 y3] ∧ Below w7.heap.size w7 wx)
          case first =>
            go_region_held3 (fun u => ((u.cell? ⟨w.heap.size, 0, none⟩ = some (.string nm) ∧ u.cell? ⟨w.heap.size, 1, none⟩ = some (.int .i64 st) ∧ u.cell? ⟨w.heap.size, 2, none⟩ = some (.slice A l.length c)) ∧ (u.cell? ⟨w.heap.size + 1, 0, none⟩ = some (.string kb) ∧ u.cell? ⟨w.heap.size + 1, 1, none⟩ = some (.string ks)) ∧ (u.cell? ⟨w6.heap.size, 0, none⟩ = some (.string nm) ∧ u.cell? ⟨w6.heap.size, 1, none⟩ = some (.int .i64 st) ∧ u.cell? ⟨w6.heap.size, 2, none⟩ = some (.slice (some ⟨gx, 0, none⟩) l.length l.length)))) (first | with_reducible exact HC7.out _ ((((C9.setCell (p := ⟨_, 0, none⟩) pz _).setCell (p := ⟨_, 1, none⟩) pz _).setCell (p := ⟨_, 2, none⟩) pz _).setCell (p := ⟨_, 3, none⟩) pz _) | with_reducible exact HC7.out _ C9 | with_reducible exact HC7.out _ (C9.alloc C9.size _) | with_reducible exact HC7.out _ C8 | with_reducible exact HC7.out _ (C8.alloc C8.size _) | with_reducible exact HC7.out _ C7.drew | with_reducible exact HC7.out _ (C7.alloc C7.size _).drew) (first | (go_at_call 44; ((first | (with_reducible refine (impl_MakeFault rfl (ox_7.up C8).recs (by omega) HS.out hnm1 hI hkb1 hks1 ht1).mono ?_) | (with_reducible refine (impl_MakeFault rfl (ox_7.up (below_alloc C8 _)).recs (by omega) HS.out hnm1 hI hkb1 hks1 ht1).mono ?_)); rw [HFA.out]; rintro e w9 ⟨rfl, hb9⟩; (first | (with_reducible have C9 : Below w7.heap.size w7 w9 := below_go C8 hb9) | (with_reducible have C9 : Below w7.heap.size w7 w9 := below_go (below_alloc C8 _) hb9)); (first | (with_reducible have KZ := KZ8.up hb9; have pz := Nat.le_refl w7.heap.size) | (with_reducible have KZ := (Blk.at_ w8 58 [.int .i64 0, .int .i64 0, .int .i64 0, .int .i64 0] (b := w8.heap.size) rfl).up hb9; have pz := C8.size) | skip); (first | (have f0 := KZ.frozen 0; have f1 := KZ.frozen 1; have f2 := KZ.frozen 2; have f3 := KZ.frozen 3; have d0 := KZ.cell 0; have d1 := KZ.cell 1; have d2 := KZ.cell 2; have d3 := KZ.cell 3; simp only [List.getElem?_cons_zero, List.getElem?_cons_succ] at d0 d1 d2 d3) | skip))) | (go_at_call 31; ((refine (laws_toCalls).mono ?_); rintro e w8 ⟨rfl, hb8⟩; (first | (with_reducible have C8 : Below w7.heap.size w7 w8 := below_of_drew hb8) | (with_reducible have C8 : Below w7.heap.size w7 w8 := below_go (Below.drew (below_alloc C7 _)) hb8)); (first | (with_reducible have KZ8 := (Blk.at_ w7 58 [.int .i64 0, .int .i64 0, .int .i64 0, .int .i64 0] (b := w7.heap.size) rfl).drew1.up hb8) | skip))))
            all_goals
              go_wp2_with fail
              go_meet
              first
                | exact ⟨_, rfl, pz, rfl, (((KZ.set_ 0 _).set_ 1 _).set_ 2 _).set_ 3 _, (((C9.setCell (p := ⟨_, 0, none⟩) pz _).setCell (p := ⟨_, 1, none⟩) pz _).setCell (p := ⟨_, 2, none⟩) pz _).setCell (p := ⟨_, 3, none⟩) pz _⟩
                | exact ⟨_, rfl, C9.size, rfl, Blk.at_ w9 58 [.int .i64 y0, .int .i64 y1, .int .i64 y2, .int .i64 y3] rfl, C9.alloc C9.size _⟩
          case rest =>
            obtain ⟨p', rfl, hp', rfl, KP', C9⟩ := hcut
            rename World => w9
            have B9 := B7.trans (C9.mono B7.size)
            have H9 := b0.trans (B9.mono b0.size)
            have KP9 := KP7.up C9
            have d0 := KP9.cell 0; have d1 := KP9.cell 1; have d2 := KP9.cell 2; have d3 := KP9.cell 3
            have e0 := KP'.cell 0; have e1 := KP'.cell 1; have e2 := KP'.cell 2; have e3 := KP'.cell 3
            simp only [List.getElem?_cons_zero, List.getElem?_cons_succ] at d0 d1 d2 d3 e0 e1 e2 e3
            go_wp2_with fail
            refine (laws_eqFault).mono ?_; rintro e w10 ⟨rfl, hb10⟩
            clear d0 d1 d2 d3 e0 e1 e2 e3
            have C10 := below_go C9 hb10
            have B10 := B7.trans (C10.mono B7.size)
            have H10 := b0.trans (B10.mono b0.size)
            have ox_10 := ox_7.up C10
            have C10r := C10
            go_wp2_with fail
            go_region_held3 (fun u => ((u.cell? ⟨w.heap.size, 0, none⟩ = some (.string nm) ∧ u.cell? ⟨w.heap.size, 1, none⟩ = some (.int .i64 st) ∧ u.cell? ⟨w.heap.size, 2, none⟩ = some (.slice A l.length c)) ∧ (u.cell? ⟨w.heap.size + 1, 0, none⟩ = some (.string kb) ∧ u.cell? ⟨w.heap.size + 1, 1, none⟩ = some (.string ks)) ∧ (u.cell? ⟨w6.heap.size, 0, none⟩ = some (.string nm) ∧ u.cell? ⟨w6.heap.size, 1, none⟩ = some (.int .i64 st) ∧ u.cell? ⟨w6.heap.size, 2, none⟩ = some (.slice (some ⟨gx, 0, none⟩) l.length l.length)))) (first | exact HC7.out _ C12 | exact HC7.out _ C11 | exact HC7.out _ C10.drew) (first | (go_at_call 33; ((refine (laws_eqMethod rfl (ox_10.up E11).recs ot.recs (by omega)).mono ?_); rintro e w12 ⟨rfl, hb12⟩; have C12 := below_go C11 hb12)) | (go_at_call 30; ((with_reducible refine (laws_toMethod (st := st) (nm := nm) rfl (h.below H10 (Nat.le_refl _)).drew (by omega)).mono ?_); rintro e w11 ⟨gt, rfl, ot, hbd11⟩; have E11 := below_of_drew hbd11; have C11 := below_go C10 E11)))
            go_wp2
            go_ret
            exact ⟨rfl, b0.trans ((B7.trans (C12.mono B7.size)).mono b0.size)⟩
      · unfold maxLen at ht
        have HZ0 : Hid (leftV 1048576 (szM nm l) = 1048576 - Z0) := Lib.hid (by rw [← hZ0]; exact leftV_t z0)
        have m0 : (0 : Int) ≤ 1048576 - Z0 := by omega
        have p0 : 0 ≤ Z0 := by omega
        have HZ1 : Hid (leftV (1048576 - Z0) (szK kb ks) = -1) := Lib.hid (by rw [← hZ1]; exact leftV_f (by omega))
        clear hZ0 hZ1 y0 y1
        have b0 : Below w.heap.size w ((w.alloc (.cells ⟨[.string nm, .int .i64 st, .slice A l.length c]⟩ 36)).alloc (.cells ⟨[.string kb, .string ks]⟩ 38)) := by (repeat' (first | (with_reducible exact Below.refl _ _) | (with_reducible assumption) | (with_reducible refine below_drewN ?_ _) | (with_reducible refine Below.drew ?_) | (with_reducible refine below_alloc ?_ _) | (with_reducible refine Below.alloc ?_ ?_ _) | (with_reducible refine Below.setCell ?_ ?_ _) | (with_reducible refine below_go ?_ (by with_reducible assumption)) | (with_reducible refine below_then (by with_reducible assumption) ?_ ?_) | go_size))
        have K0 := ((Blk.at_ w 36 [.string nm, .int .i64 st, .slice A l.length c] (b := w.heap.size) (by simp)).alloc (.cells ⟨[.string kb, .string ks]⟩ 38))
        have K1 := (Blk.at_ (w.alloc (.cells ⟨[.string nm, .int .i64 st, .slice A l.length c]⟩ 36)) 38 [.string kb, .string ks] (b := w.heap.size + 1) (by simp))
        go_in
        go_wp2_with fail
        obtain ⟨w0, hw0⟩ : ∃ u, u = ((w.alloc (.cells #[.string nm, .int .i64 st, .slice A l.length c] 36)).alloc (.cells #[.string kb, .string ks] 38)) := ⟨_, rfl⟩
        rw [← hw0] at b0 K0 K1 ⊢
        have z0 : w.heap.size + 2 ≤ w0.heap.size := by rw [hw0]; simp
        clear hw0
        have carry : Hid (∀ u : World, Below w0.heap.size w0 u → (u.cell? ⟨w.heap.size, 0, none⟩ = some (.string nm) ∧ u.cell? ⟨w.heap.size, 1, none⟩ = some (.int .i64 st) ∧ u.cell? ⟨w.heap.size, 2, none⟩ = some (.slice A l.length c)) ∧ (u.cell? ⟨w.heap.size + 1, 0, none⟩ = some (.string kb) ∧ u.cell? ⟨w.heap.size + 1, 1, none⟩ = some (.string ks))) := Lib.hid (fun u hu => by
          have J0 := K0.up hu; have J1 := K1.up hu
          exact ⟨⟨by simpa using J0.cell 0, by simpa using J0.cell 1, by simpa using J0.cell 2⟩, ⟨by simpa using J1.cell 0, by simpa using J1.cell 1⟩⟩)
        clear K0 K1
        have B0 := Below.refl w0.heap.size w0
        have H0 := b0
        obtain ⟨⟨k1_0_0, k1_0_1, k1_0_2⟩, ⟨k1_1_0, k1_1_1⟩⟩ := carry.out _ B0
        refine (laws_szMethod rfl (h.below H0 (Nat.le_refl _)) (by omega) (by omega) hm hb hnm).mono ?_; rw [HZ0.out]; rintro e w1 ⟨rfl, hb1⟩
        clear k1_0_0 k1_0_1 k1_0_2 k1_1_0 k1_1_1
        have sz1 : w0.heap.size ≤ w1.heap.size := hb1.size
        have B1 := B0.trans (hb1.mono B0.size)
        have H1 := b0.trans (B1.mono b0.size)
        obtain ⟨⟨k2_0_0, k2_0_1, k2_0_2⟩, ⟨k2_1_0, k2_1_1⟩⟩ := carry.out _ B1
        go_wp2_with fail
        refine (laws_szCalls (by omega) (by omega) hkb hks).mono ?_; rw [HZ1.out]; rintro e w2 ⟨rfl, hb2⟩
        go_wp2
        go_ret
        exact ⟨rfl, below_go H1 hb2⟩
    · unfold maxLen at ht
      have HZ0 : Hid (leftV 1048576 (szM nm l) = -1) := Lib.hid (by rw [← hZ0]; exact leftV_f (by omega))
      clear hZ0 hZ1 y0 y1
      have b0 : Below w.heap.size w ((w.alloc (.cells ⟨[.string nm, .int .i64 st, .slice A l.length c]⟩ 36)).alloc (.cells ⟨[.string kb, .string ks]⟩ 38)) := by (repeat' (first | (with_reducible exact Below.refl _ _) | (with_reducible assumption) | (with_reducible refine below_drewN ?_ _) | (with_reducible refine Below.drew ?_) | (with_reducible refine below_alloc ?_ _) | (with_reducible refine Below.alloc ?_ ?_ _) | (with_reducible refine Below.setCell ?_ ?_ _) | (with_reducible refine below_go ?_ (by with_reducible assumption)) | (with_reducible refine below_then (by with_reducible assumption) ?_ ?_) | go_size))
      have K0 := ((Blk.at_ w 36 [.string nm, .int .i64 st, .slice A l.length c] (b := w.heap.size) (by simp)).alloc (.cells ⟨[.string kb, .string ks]⟩ 38))
      have K1 := (Blk.at_ (w.alloc (.cells ⟨[.string nm, .int .i64 st, .slice A l.length c]⟩ 36)) 38 [.string kb, .string ks] (b := w.heap.size + 1) (by simp))
      go_in
      go_wp2_with fail
      obtain ⟨w0, hw0⟩ : ∃ u, u = ((w.alloc (.cells #[.string nm, .int .i64 st, .slice A l.length c] 36)).alloc (.cells #[.string kb, .string ks] 38)) := ⟨_, rfl⟩
      rw [← hw0] at b0 K0 K1 ⊢
      have z0 : w.heap.size + 2 ≤ w0.heap.size := by rw [hw0]; simp
      clear hw0
      have carry : Hid (∀ u : World, Below w0.heap.size w0 u → (u.cell? ⟨w.heap.size, 0, none⟩ = some (.string nm) ∧ u.cell? ⟨w.heap.size, 1, none⟩ = some (.int .i64 st) ∧ u.cell? ⟨w.heap.size, 2, none⟩ = some (.slice A l.length c)) ∧ (u.cell? ⟨w.heap.size + 1, 0, none⟩ = some (.string kb) ∧ u.cell? ⟨w.heap.size + 1, 1, none⟩ = some (.string ks))) := Lib.hid (fun u hu => by
        have J0 := K0.up hu; have J1 := K1.up hu
        exact ⟨⟨by simpa using J0.cell 0, by simpa using J0.cell 1, by simpa using J0.cell 2⟩, ⟨by simpa using J1.cell 0, by simpa using J1.cell 1⟩⟩)
      clear K0 K1
      have B0 := Below.refl w0.heap.size w0
      have H0 := b0
      obtain ⟨⟨k1_0_0, k1_0_1, k1_0_2⟩, ⟨k1_1_0, k1_1_1⟩⟩ := carry.out _ B0
      refine (laws_szMethod rfl (h.below H0 (Nat.le_refl _)) (by omega) (by omega) hm hb hnm).mono ?_; rw [HZ0.out]; rintro e w1 ⟨rfl, hb1⟩
      go_wp2
      go_ret
      exact ⟨rfl, below_go H0 hb1⟩
  · clear hZ0 hZ1 y0 y1
    unfold maxLen at ht
    have hT : (1048576 : Int) < (t.size : Int) := by omega
    go_in
    go_wp2
    go_ret
    exact ⟨rfl, by (repeat' (first | (with_reducible exact Below.refl _ _) | (with_reducible assumption) | (with_reducible refine below_drewN ?_ _) | (with_reducible refine Below.drew ?_) | (with_reducible refine below_alloc ?_ _) | (with_reducible refine Below.alloc ?_ ?_ _) | (with_reducible refine Below.setCell ?_ ?_ _) | (with_reducible refine below_go ?_ (by with_reducible assumption)) | (with_reducible refine below_then (by with_reducible assumption) ?_ ?_) | go_size))⟩
end Go.Proofs.Ytmdmnjjlpefigaa
